/-
  Whether a queue has what the document says (same). Conditions: the numbers lie in the slice's cells.
-/
import Derived.Test.YtifplckiginijaaQRef2
namespace Go.Proofs.Ytifplckiginijaa
open Go.RowKit Go.Conc
set_option linter.unusedVariables false

theorem room_drawE {q c cap m : Nat} {xs : List Value} {w : World} (h : Qi.Is w q c cap xs) (hm : xs.length = m) (hl : m ≤ cap) (hc : cap ≤ 1024) :
    Calls Try.prog 23 #[.pointer (some ⟨q, 0, Option.none⟩)] w fun e w' => e = .returned (.int .i64 ((cap : Int) - m)) ∧ ∃ k, w' = w.drewN k := by
  subst hm; exact Qi.room_draw q c cap xs w h hl hc

set_option maxRecDepth 100000 in
set_option maxHeartbeats 4000000 in
theorem same_any (q c R n cc B : Nat) (p : Option Addr) (l : List Int) (w : World) (h : Qi.Is w q c R (ints l)) (hv : View w B p n cc (ints l)) (hn : n ≤ R) (hR : R ≤ 1024) (hcB : c < B) :
    Calls Try.prog 20 #[.pointer (some ⟨q, 0, Option.none⟩), .agg #[.int .i64 R, .slice p n cc]] w fun e w' => e = .returned (.bool true) ∧ Qi.Is w' q c R (ints l) ∧ Keeps (At c) w w' := by
  have hll : (ints l).length = n := hv.1
  have HLL := hid hll
  have hall : ∀ u ∈ ints l, ∃ n, u = .int .i64 n := by
    intro u hu; simp only [ints, List.mem_map] at hu; obtain ⟨a, _, rfl⟩ := hu; exact ⟨a, rfl⟩
  have HALL := hid hall
  have I0 := hid (h.keep ((Keeps.refl Nil w).alloc (.cells #[.int .i64 R, .slice p n cc] 41)) (fun h => h) (fun h => h))
  have hlt := h.lt
  have HV := hid hv
  clear h hv hll hall
  go_enter Try.func20, Try.ntmps20
  go_wp2_with fail
  refine (Qi.all_any q c R _ _ I0.out (by rw [HLL.out]; exact hn) (by rw [HLL.out]; omega) HALL.out).mono ?_; rintro e w2 ⟨va, rfl, owna, i2, k2⟩
  rw [HLL.out] at owna
  obtain ⟨pa, ca, hva⟩ := own_shape owna
  rw [hva] at owna
  rw [hva]
  clear hva
  have hb0 : (w.alloc (.cells #[.int .i64 R, .slice p n cc] 41)).heap[w.heap.size]? = some (.cells #[.int .i64 R, .slice p n cc] 41 (0, 0)) := alloc_block _ _
  have hb2 := k2.lies hb0 (fun e => by rw [At] at e; omega)
  obtain ⟨hc0, hc1⟩ := two_cells hb2
  have kw : Keeps (At c) w w2 := ((Keeps.refl (At c) w).alloc _).trans k2
  have hv2 := HV.out.keep kw (fun g hg _ e => by rw [At] at e; omega)
  have OA := hid owna
  have HV2 := hid hv2
  have I2 := hid i2
  have HB2 := hid hb2
  clear owna hv2 i2 hb2 hb0
  have f1 : ((n : Int) != (n : Int)) = false := by simp
  have f2 : ((R : Int) - (n : Int) != (R : Int) - (n : Int)) = false := by simp
  go_wp2_with fail
  go_quiet ((first | (go_at_call 22; exact quiet_left (len_eq (w := w2.drewN _) I2.out HLL.out)) | (go_at_call 23; exact Calls.quiet_of (room_drawE (w := w2.drewN _) I2.out HLL.out hn hR))))
  go_wp2_with fail
  go_loopw [6] (fun i wr => ∃ (j : Nat), i = .int .i64 j ∧ j ≤ n ∧ ∃ m, wr = w2.drewN m) (fun i _ => n - (intOf i).toNat)
  case atStart => exact ⟨0, rfl, Nat.zero_le _, _, rfl⟩
  case round =>
    obtain ⟨j, rfl, hj, m, rfl⟩ := hrel
    by_cases hlt' : j < n
    · obtain ⟨a, ha⟩ : ∃ a, (ints l)[j]? = some a := ⟨_, List.getElem?_eq_getElem (by rw [HLL.out]; exact hlt')⟩
      obtain ⟨x, rfl⟩ := HALL.out a (List.mem_of_getElem? ha)
      obtain ⟨ga, rfl, hga, hgal, hka, hca⟩ := own_at OA.out ha
      obtain ⟨gp, off, rfl, hgp, hgpl, hcp⟩ := HV2.out.2.2 (by omega)
      have hca' := hcp j _ ha
      have hnc : n ≤ cc := HV2.out.2.1
      have hj0 : (0 : Int) ≤ (j : Int) := by omega
      have hj1 : (j : Int) < (n : Int) := by omega
      clear hcp ha
      go_wp2_with fail
      go_quiet (fail)
      go_wp2_with fail
      go_roundw
      case rel => exact ⟨j + 1, by go_num, by omega, _, rfl⟩
      case measure => simp only [intOf]; omega
    · go_wp2_with fail
      go_ret
      exact ⟨rfl, I2.out, kw.thenNil (Keeps.drewN _ _)⟩
end Go.Proofs.Ytifplckiginijaa
