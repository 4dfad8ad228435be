/-
  Layer 8: Learn where the row is full: slices.Delete of the first. Conditions: it lies so; the numbers are in range.
-/
import Derived.Test.YtcplmdgnldmhbaaTick
import Derived.Deep.RegionLaw
import Derived.StillTailTactics
namespace Go.Proofs.Ytcplmdgnldmhbaa
open Go.RowKit
set_option linter.unusedVariables false
attribute [local go_sem ↓] Go.wp_at_zero Go.wp_at_succ

theorem cells_set {b : Nat} {T : TypeId} : ∀ (vs : List Value) (o : Nat) (w : World) (cur : Array Value), w.heap[b]? = some (.cells cur T (0, 0)) → o + vs.length ≤ cur.size →
    ∃ cur', (w.setCells b o vs).heap[b]? = some (.cells cur' T (0, 0)) ∧ cur'.size = cur.size ∧ (∀ j u, vs[j]? = some u → cur'[o + j]? = some u) ∧ ∀ i, i < o → cur'[i]? = cur[i]?
  | [], o, w, cur, h, _ => ⟨cur, h, rfl, fun j u hu => by simp at hu, fun _ _ => rfl⟩
  | v :: r, o, w, cur, h, hs => by
    have hs' : o + (r.length + 1) ≤ cur.size := by simpa using hs
    have h1 := setCell_block h o v
    obtain ⟨cur', h2, h3, h4, h5⟩ := cells_set r (o + 1) _ _ h1 (by rw [Array.size_setIfInBounds]; omega)
    refine ⟨cur', h2, by rw [h3]; simp, fun j u hu => ?_, fun i hi => ?_⟩
    · cases j with
      | zero =>
        have hv : v = u := by simpa using hu
        subst hv
        rw [Nat.add_zero, h5 o (by omega), Array.getElem?_setIfInBounds, if_pos rfl, if_pos (by omega)]
      | succ j =>
        have := h4 j u (by simpa using hu)
        rwa [show o + (j + 1) = o + 1 + j from by omega]
    · rw [h5 i (by omega), Array.getElem?_setIfInBounds, if_neg (by omega)]
theorem Row.first {w : World} {g c : Nat} {L : List En} (h : Row w g c L) : ∃ w', w.setCells g 0 (flat (L.drop 1)) = w' ∧ (∃ cur', w'.heap[g]? = some (.cells cur' 95 (0, 0)) ∧ cur'.size = c * 9) ∧ Row w' g c (L.drop 1) ∧ Keeps (At g) w w' := by
  obtain ⟨cur, hb, h1, h2, h3, h4⟩ := h
  have hlen : (flat (L.drop 1)).length ≤ c * 9 := by rw [flat_len, List.length_drop]; exact Nat.mul_le_mul_right _ (by omega)
  obtain ⟨cur', e1, e2, e3, e4⟩ := cells_set (flat (L.drop 1)) 0 w cur hb (by omega)
  refine ⟨_, rfl, ⟨cur', e1, by omega⟩, ⟨cur', e1, by omega, h2, by rw [List.length_drop]; omega, fun i x hx q v hv => ?_⟩, (block_setCells _ 0 w cur hb).2⟩
  have hq : q < 9 := by have := (List.getElem?_eq_some_iff.1 hv).1; simpa using this
  have h5 := flat_get (L.drop 1) i q hq
  rw [hx] at h5
  simp only [Option.bind_some, hv] at h5
  have := e3 _ _ h5
  rwa [Nat.zero_add] at this
theorem clear_last {w : World} {g c : Nat} {M : List En} {cur : Array Value} (hb : w.heap[g]? = some (.cells cur 95 (0, 0))) (hs : cur.size = c * 9) (hc : 32 ≤ c) (hR : Row w g c M) (hM : M.length = 31) :
    ∃ w', (∀ ty, (Builtin.clear_ #[47] ty #[.slice (some ⟨g, 279, Option.none⟩) 1 (c - 31)]).run Try.prog w = .ok (.tuple #[]) w') ∧ Row w' g c M ∧ Keeps (At g) w w' := by
  have hrun := fun ty => run_clear_wide w 47 95 ty _ Try.underlying47 zero64 g 279 1 (c - 31) (by omega) (fun q hq => by
    have : 279 + q < cur.size := by simp [Value.cells] at hq; omega
    simp [World.cell?, hb, this]) (fun q hq => by simp [World.frozen?, hb]) (zcells_one _)
  refine ⟨_, hrun, ?_⟩
  obtain ⟨⟨cur', e1, e2, e3⟩, k⟩ := block_setCells (Builtin.zeroCells (Value.agg #[.int .u16 0, .int .u8 0, .int .u8 0, .int .u8 0, .int .u8 0, .int .u8 0, .int .u8 0, .int .u8 0, .int .i64 0]).cells 1).toList 279 w cur hb
  obtain ⟨cur2, hb2, h1, h2, h3, h4⟩ := hR
  rw [hb] at hb2
  injection hb2 with hb2
  injection hb2 with hb2
  subst hb2
  refine ⟨⟨cur', e1, by omega, h2, h3, fun i x hx q v hv => ?_⟩, k⟩
  have hi := (List.getElem?_eq_some_iff.1 hx).1
  have hq : q < 9 := by have := (List.getElem?_eq_some_iff.1 hv).1; simpa using this
  rw [e3 _ (by omega)]
  exact h4 i x hx q v hv

set_option maxHeartbeats 8000000 in
theorem delete_first (g c : Nat) (L : List En) (w : World) (h : Row w g c L) (hL : L.length = 32) :
    Calls Try.prog 57 #[.slice (some ⟨g, 0, Option.none⟩) 32 c, .int .i64 0, .int .i64 1] w fun e w' => e = .returned (.slice (some ⟨g, 0, Option.none⟩) 31 c) ∧ Row w' g c (L.drop 1) ∧ Keeps (At g) w w' := by
  have hc : 32 ≤ c := by obtain ⟨cur, _, _, _, hl, _⟩ := h; omega
  have hcm : c ≤ maxLen := by obtain ⟨cur, _, _, hm, _⟩ := h; exact hm
  obtain ⟨W, hW, ⟨cur, hcur, hcs⟩, hR, kW⟩ := (h.keep ((Keeps.refl Nil w).drew) (fun e => e)).first
  obtain ⟨i0, hi, hz0, hz1, hz2⟩ := info_parts einfo
  have HI := hid (And.intro hi (And.intro hz0 (And.intro hz1 hz2)))
  have H := hid h
  have HW := hid hW
  have hM : (L.drop 1).length = 31 := by rw [List.length_drop]; omega
  obtain ⟨W2, hcl, hR2, kW2⟩ := clear_last hcur hcs hc hR hM
  have HCL := hid hcl
  have HR2 := hid hR2
  have KW2 := hid kW2
  have KW := hid kW
  have hlf : (flat (L.drop 1)).length = 31 * 9 := by rw [flat_len, List.length_drop]; omega
  have HN : Hid (∀ j u, (flat (L.drop 1))[j]? = some u → w.cell? ((⟨g, 9, Option.none⟩ : Addr).add j) = some u) := hid (by
    intro j u hu
    have e1 : (⟨g, 9, Option.none⟩ : Addr).add j = ⟨g, 9 + j, Option.none⟩ := by unfold Addr.add; split <;> simp_all
    have e2 : (⟨g, 0, Option.none⟩ : Addr).add (9 + j) = ⟨g, 9 + j, Option.none⟩ := by unfold Addr.add; split <;> simp_all
    rw [e1, ← e2]
    refine H.out.cellsAt (9 + j) u ?_
    have e3 : flat (L.drop 1) = (flat L).drop 9 := by
      cases L with
      | nil => simp [flat]
      | cons y r => simp [flat]
    rw [e3, List.getElem?_drop] at hu
    exact hu)
  have HSP : Hid (∀ j, j < (flat (L.drop 1)).length → (w.cell? ⟨g, 0 + 0 * 9 + j, Option.none⟩).isSome = true ∧ w.frozen? ⟨g, 0 + 0 * 9 + j, Option.none⟩ = false) := hid (by
    obtain ⟨cur, hb, h1, _⟩ := H.out
    intro j hj
    have : 0 + 0 * 9 + j < cur.size := by omega
    exact ⟨by simp [World.cell?, hb]; omega, by simp [World.frozen?, hb]⟩)
  have hc1 : ¬ c = 1 := by omega
  have i1 : (32 : Int) ≤ (c : Int) := by omega
  clear hi hz0 hz1 hz2 h hW hcur hcs hR kW hM hcl hR2 kW2
  unfold maxLen at hcm
  generalize L.drop 1 = M at *
  go_enter Try.func57, Try.ntmps57
  go_upto_region 5 with (fail)
  go_region_law ((refine step_append_room (by rfl) _ _ 47 (by rfl) 95 i0 9 Try.underlying47 HI.out.1 HI.out.2.2.1 g 0 0 c (by rfl) ⟨g, 9, Option.none⟩ 31 (c - 1) (flat M) (by rfl) hlf HN.out (flat_one _) (by omega) HSP.out ?_))
  all_goals (try simp only [Nat.zero_mul, Nat.add_zero, Nat.zero_add]; try rw [HW.out])
  all_goals
    have hcl := HCL.out
    rw [← HW.out] at hcl
    have hc31 : ¬ c = 31 := by omega
    go_wp2_with fail
    go_ret
    exact ⟨rfl, HR2.out, (((Keeps.refl Nil w).drew).ofNil.trans KW.out).trans KW2.out⟩
end Go.Proofs.Ytcplmdgnldmhbaa
