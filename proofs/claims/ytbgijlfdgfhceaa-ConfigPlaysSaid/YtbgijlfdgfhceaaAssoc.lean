/-
  Layer 16: New, Assoc, Meps. Conditions: the table lies so.
-/
import Derived.Test.YtbgijlfdgfhceaaSame
import Derived.Test.YtbgijlfdgfhceaaCellR
import Derived.Deep.DeepCutAuto
namespace Go.Proofs.Ytbgijlfdgfhceaa
open Go.RowKit
set_option linter.unusedVariables false
set_option linter.unusedSimpArgs false
set_option maxRecDepth 8000

def CT.asc (τ : CT) (i : Int) : Option As := if 0 ≤ i then τ.A[i.toNat]? else none
structure CT.Good (τ : CT) : Prop where
  n : 1 ≤ τ.n ∧ τ.n ≤ 8
  A : τ.A.length ≤ 8
  may : ∀ x ∈ τ.A, mayA x = true ∧ 0 ≤ x.lv ∧ (0 ≤ x.vid ∧ x.vid < 65536)
  E : τ.E.length ≤ 100
  ent : ∀ m ∈ τ.E, (0 ≤ m.ai ∧ m.ai < τ.A.length) ∧ (0 ≤ m.port ∧ m.port < 8)
  M : τ.M.length ≤ 100
  lev : ∀ p l, sget τ.M p = some l → 0 ≤ l ∧ l ≤ 7
theorem mayA_ms {x : As} (h : mayA x = true) : x.ms.length ≤ 8 ∧ x.lv ≤ 7 := by
  unfold mayA at h
  simp at h
  omega
theorem TblAt.ms {w : World} {S : Nat → Prop} {t : Nat} {τ : CT} {pa pe : Option Addr} {ca ce mb : Nat} {L : List As} (h : TblAt w S t τ pa ca pe ce mb L) (g : τ.Good) {x : As} (hx : x ∈ L) : x.ms.length ≤ 8 ∧ (0 ≤ x.lv ∧ x.lv ≤ 7) := by
  have : x.bare ∈ τ.A := by rw [← h.bare]; exact List.mem_map.2 ⟨x, hx, rfl⟩
  have h1 := g.may _ this
  have h2 := mayA_ms h1.1
  exact ⟨h2.1, h1.2.1, h2.2⟩
theorem TblAt.asc {w : World} {S : Nat → Prop} {t : Nat} {τ : CT} {pa pe : Option Addr} {ca ce mb : Nat} {L : List As} (h : TblAt w S t τ pa ca pe ce mb L) (i : Nat) : τ.A[i]? = (L[i]?).map As.bare := by
  rw [← h.bare, List.getElem?_map]

theorem own_less {w : World} {B B' : Nat} {e : TypeId} {sz n : Nat} {v : Value} {xs : List Value} (h : w.ownsRow B e sz v n xs) (hB : B' ≤ B) : w.ownsRow B' e sz v n xs := by
  obtain ⟨h1, h2 | ⟨g, cap, cur, hv, hb, r⟩⟩ := h
  · exact ⟨h1, .inl h2⟩
  · exact ⟨h1, .inr ⟨g, cap, cur, hv, by omega, r⟩⟩
set_option maxHeartbeats 2000000 in
theorem assoc_nil (i : Int) (w : World) : Calls Try.prog 12 #[.pointer Option.none, .int .i64 i] w fun e w' => e = .returned (.tuple #[.agg #[.int .u8 0, .string ⟨#[]⟩, .string ⟨#[]⟩, .int .u16 0, .int .u8 0, .slice Option.none 0 0], .bool false]) ∧ Keeps Nil w w' := by
  go_enter Try.func12, Try.ntmps12
  go_wp2_with fail
  go_returns
  exact ⟨rfl, by repeat' (first | exact Keeps.refl _ _ | refine Keeps.alloc ?_ _)⟩
set_option maxHeartbeats 2000000 in
theorem assoc_none (i : Int) {w : World} {t : Nat} {n : Int} {pa : Option Addr} {la ca : Nat} {c2 c3 : Value} (h : w.heap[t]? = some (.cells #[.int .i64 n, .slice pa la ca, c2, c3] 69 (0, 0))) (hi : i < 0 ∨ (la : Int) ≤ i) :
    Calls Try.prog 12 #[.pointer (some ⟨t, 0, Option.none⟩), .int .i64 i] w fun e w' => e = .returned (.tuple #[.agg #[.int .u8 0, .string ⟨#[]⟩, .string ⟨#[]⟩, .int .u16 0, .int .u8 0, .slice Option.none 0 0], .bool false]) ∧ Keeps Nil w w' := by
  obtain ⟨a0, a1, a2, a3⟩ := four_block h
  have lt := lt_of_block h
  clear h
  rcases hi with hi | hi
  · go_enter Try.func12, Try.ntmps12
    go_wp2_with fail
    go_returns
    exact ⟨rfl, by repeat' (first | exact Keeps.refl _ _ | refine Keeps.alloc ?_ _)⟩
  · have hi' : ¬ i < 0 := by omega
    go_enter Try.func12, Try.ntmps12
    go_wp2_with fail
    go_returns
    exact ⟨rfl, by repeat' (first | exact Keeps.refl _ _ | refine Keeps.alloc ?_ _)⟩
set_option maxHeartbeats 4000000 in
theorem assoc_some (k : Nat) {w : World} {S : Nat → Prop} {t : Nat} {τ : CT} {pa pe : Option Addr} {ca ce mb : Nat} {L : List As} (h : TblAt w S t τ pa ca pe ce mb L) (hg : τ.Good) {x : As} (hx : L[k]? = some x) :
    Calls Try.prog 12 #[.pointer (some ⟨t, 0, Option.none⟩), .int .i64 (k : Int)] w fun e w' => (∃ p c, e = .returned (.tuple #[.agg #[.int .u8 x.lv, .string x.dom, .string x.own, .int .u16 x.vid, .int .u8 x.iv, .slice p x.ms.length c], .bool true]) ∧ w'.ownsRow w.heap.size 23 1 (.slice p x.ms.length c) x.ms.length (flatU x.ms)) ∧ Keeps Nil w w' := by
  have hms := (h.ms hg (List.mem_of_getElem? hx)).1
  have hw := (h.nums x (List.mem_of_getElem? hx)).wv
  obtain ⟨a0, a1, a2, a3⟩ := four_block h.head
  have lt := lt_of_block h.head
  obtain ⟨g, off, rfl, _, hgl, hkl, c0, c1, c2, c3, c4, c5⟩ := h.rowA.wv.atA hx
  have hca := h.rowA.wv.2.1
  have hlen : L.length ≤ 8 := by rw [h.lenA]; exact hg.A
  have HW := hid hw
  have CL0 := fun W (kk : Keeps Nil w W) => clone_u 0 x.p x.ms.length x.c x.ms W (hw.keepN kk) (by omega)
  have CL := hid CL0
  clear CL0
  clear h hx hw hg
  go_enter Try.func12, Try.ntmps12
  go_upto_region 4 with (fail)
  have k0 : Keeps Nil w ((w.alloc (.cells #[.int .u8 0, .string ⟨#[]⟩, .string ⟨#[]⟩, .int .u16 0, .int .u8 0, .slice Option.none 0 0] 50 (0, 0))).alloc (.cells #[.int .u8 x.lv, .string x.dom, .string x.own, .int .u16 x.vid, .int .u8 x.iv, .slice x.p x.ms.length x.c] 50 (0, 0))) := ((Keeps.refl _ _).alloc _).alloc _
  have hb1 : ((w.alloc (.cells #[.int .u8 0, .string ⟨#[]⟩, .string ⟨#[]⟩, .int .u16 0, .int .u8 0, .slice Option.none 0 0] 50 (0, 0))).alloc (.cells #[.int .u8 x.lv, .string x.dom, .string x.own, .int .u16 x.vid, .int .u8 x.iv, .slice x.p x.ms.length x.c] 50 (0, 0))).heap[w.heap.size]? = some (.cells #[.int .u8 0, .string ⟨#[]⟩, .string ⟨#[]⟩, .int .u16 0, .int .u8 0, .slice Option.none 0 0] 50 (0, 0)) := (Below.heap_alloc _ _ _ (by simp)).trans (alloc_block w _)
  have hb2 : ((w.alloc (.cells #[.int .u8 0, .string ⟨#[]⟩, .string ⟨#[]⟩, .int .u16 0, .int .u8 0, .slice Option.none 0 0] 50 (0, 0))).alloc (.cells #[.int .u8 x.lv, .string x.dom, .string x.own, .int .u16 x.vid, .int .u8 x.iv, .slice x.p x.ms.length x.c] 50 (0, 0))).heap[w.heap.size + 1]? = some (.cells #[.int .u8 x.lv, .string x.dom, .string x.own, .int .u16 x.vid, .int .u8 x.iv, .slice x.p x.ms.length x.c] 50 (0, 0)) := by have := alloc_block (w.alloc (.cells #[.int .u8 0, .string ⟨#[]⟩, .string ⟨#[]⟩, .int .u16 0, .int .u8 0, .slice Option.none 0 0] 50 (0, 0))) (.cells #[.int .u8 x.lv, .string x.dom, .string x.own, .int .u16 x.vid, .int .u8 x.iv, .slice x.p x.ms.length x.c] 50 (0, 0)); rw [World.size_alloc] at this; exact this
  have hz : ((w.alloc (.cells #[.int .u8 0, .string ⟨#[]⟩, .string ⟨#[]⟩, .int .u16 0, .int .u8 0, .slice Option.none 0 0] 50 (0, 0))).alloc (.cells #[.int .u8 x.lv, .string x.dom, .string x.own, .int .u16 x.vid, .int .u8 x.iv, .slice x.p x.ms.length x.c] 50 (0, 0))).heap.size = w.heap.size + 2 := by simp
  generalize ((w.alloc (.cells #[.int .u8 0, .string ⟨#[]⟩, .string ⟨#[]⟩, .int .u16 0, .int .u8 0, .slice Option.none 0 0] 50 (0, 0))).alloc (.cells #[.int .u8 x.lv, .string x.dom, .string x.own, .int .u16 x.vid, .int .u8 x.iv, .slice x.p x.ms.length x.c] 50 (0, 0))) = wa at *
  obtain ⟨d0, d1, d2, d3, d4, d5⟩ := six_block hb2
  have l1 : w.heap.size < wa.heap.size := by omega
  have l2 : w.heap.size + 1 < wa.heap.size := by omega
  have HZ := hid hz
  have HB1a := hid hb1
  have HB2 := hid hb2
  clear hb1 hb2 hz c0 c1 c2 c3 c4 c5
  go_wp2_with fail
  refine (CL.out _ k0).mono ?_; rintro ee w3 ⟨⟨p', c', rfl, own⟩, k3⟩
  have hb1 := (k3.block _ l1 (fun e => e)).trans HB1a.out
  have hb2 := (k3.block _ l2 (fun e => e)).trans HB2.out
  obtain ⟨d0, d1, d2, d3, d4, d5⟩ := six_block hb2
  obtain ⟨e0, e1, e2, e3, e4, e5⟩ := six_block hb1
  have l3 : w.heap.size < w3.heap.size := by have := k3.size; omega
  have l4 : w.heap.size + 1 < w3.heap.size := by have := k3.size; omega
  have hf1 : ∀ q, w3.frozen? ⟨w.heap.size, q, Option.none⟩ = false := fun q => by simp [World.frozen?, hb1]
  have hf2 : ∀ q, w3.frozen? ⟨w.heap.size + 1, q, Option.none⟩ = false := fun q => by simp [World.frozen?, hb2]
  have HB1 := hid hb1
  have K3 := hid (k0.trans k3)
  have OWN := hid own
  have HZ3 := hid (show w.heap.size ≤ wa.heap.size from by omega)
  clear hb1 hb2 own k3
  go_wp2_with fail
  have hx := store_6 (set_other HB1.out (b' := w.heap.size + 1) (i := 5) (by omega) (.slice p' x.ms.length c')) (.int .u8 x.lv) (.string x.dom) (.string x.own) (.int .u16 x.vid) (.int .u8 x.iv) (.slice p' x.ms.length c')
  refine bodyPost_ret (ret_cell2 rfl Try.underlying50 (n := 6) (by kernel_rfl) _ _ w.heap.size _ rfl hx rfl) rfl ?_
  have kf := (((((((Keeps.refl (fun g => g = w.heap.size ∨ g = w.heap.size + 1) w3).set (w.heap.size + 1) 5 (.inr rfl) (.slice p' x.ms.length c')).set w.heap.size 0 (.inl rfl) (.int .u8 x.lv)).set w.heap.size 1 (.inl rfl) (.string x.dom)).set w.heap.size 2 (.inl rfl) (.string x.own)).set w.heap.size 3 (.inl rfl) (.int .u16 x.vid)).set w.heap.size 4 (.inl rfl) (.int .u8 x.iv)).set w.heap.size 5 (.inl rfl) (.slice p' x.ms.length c')
  exact ⟨⟨p', c', rfl, own_less (ownsRow_keep OWN.out kf (fun g hg e => by have := HZ.out; omega)) HZ3.out⟩, K3.out.thenOwn kf (fun g e => by omega)⟩

theorem asc_cases (τ : CT) (i : Int) : (τ.asc i = none ∧ (i < 0 ∨ (τ.A.length : Int) ≤ i)) ∨ ∃ (k : Nat) (x : As), i = k ∧ τ.A[k]? = some x ∧ τ.asc i = some x := by
  unfold CT.asc
  by_cases h : 0 ≤ i
  · rw [if_pos h]
    cases hx : τ.A[i.toNat]? with
    | none => exact .inl ⟨rfl, .inr (by have := List.getElem?_eq_none_iff.1 hx; omega)⟩
    | some x => exact .inr ⟨i.toNat, x, by omega, hx, rfl⟩
  · rw [if_neg h]
    exact .inl ⟨rfl, .inl (by omega)⟩
/-- An association with these numbers, which are new. -/
abbrev ascCells (x : As) (p : Option Addr) (c : Nat) : Value := .agg #[.int .u8 x.lv, .string x.dom, .string x.own, .int .u16 x.vid, .int .u8 x.iv, .slice p x.ms.length c]
theorem p_assoc (i : Int) {w : World} {S : Nat → Prop} {t : Nat} {τ : CT} (h : Tbl w S t τ) (hg : τ.Good) :
    Calls Try.prog 12 #[.pointer (some ⟨t, 0, Option.none⟩), .int .i64 i] w fun e w' => (∃ p c, e = .returned (.tuple #[ascCells ((τ.asc i).getD zeroA) p c, .bool (τ.asc i).isSome]) ∧ w'.ownsRow w.heap.size 23 1 (.slice p ((τ.asc i).getD zeroA).ms.length c) ((τ.asc i).getD zeroA).ms.length (flatU ((τ.asc i).getD zeroA).ms)) ∧ Keeps Nil w w' := by
  obtain ⟨pa, ca, pe, ce, mb, L, h⟩ := h
  rcases asc_cases τ i with ⟨h1, h2⟩ | ⟨k, x, rfl, hx, h2⟩
  · rw [h1]
    refine (assoc_none i h.head (by rw [h.lenA]; exact h2)).mono ?_
    rintro e w' ⟨rfl, k⟩
    exact ⟨⟨Option.none, 0, rfl, World.ownsRow_nil _ _ _ _⟩, k⟩
  · rw [h2]
    rw [h.asc] at hx
    obtain ⟨y, hy, rfl⟩ := Option.map_eq_some_iff.1 hx
    refine (assoc_some k h hg hy).mono ?_
    rintro e w' h
    exact h
set_option maxHeartbeats 2000000 in
theorem meps_nil (w : World) : Calls Try.prog 13 #[.pointer Option.none] w fun e w' => e = .returned (.slice Option.none 0 0) ∧ w = w' := by
  go_enter Try.func13, Try.ntmps13
  go_wp2_with fail
  go_ret
  exact ⟨rfl, rfl⟩
set_option maxHeartbeats 2000000 in
theorem p_meps {w : World} {S : Nat → Prop} {t : Nat} {τ : CT} (h : Tbl w S t τ) (hg : τ.Good) :
    Calls Try.prog 13 #[.pointer (some ⟨t, 0, Option.none⟩)] w fun e w' => (∃ p c, e = .returned (.slice p τ.E.length c) ∧ w'.ownsRow w.heap.size 59 4 (.slice p τ.E.length c) τ.E.length (flatE τ.E)) ∧ Keeps Nil w w' := by
  obtain ⟨pa, ca, pe, ce, mb, L, h⟩ := h
  have CL := clone_m 0 pe τ.E.length ce τ.E w h.rowE.wv (by have := hg.E; omega)
  obtain ⟨a0, a1, a2, a3⟩ := four_block h.head
  have lt := lt_of_block h.head
  clear h hg
  go_enter Try.func13, Try.ntmps13
  go_wp2_with fail
  refine CL.mono ?_; rintro ee w3 ⟨⟨p', c', rfl, own⟩, k3⟩
  go_wp2_with fail
  go_ret
  exact ⟨⟨p', c', rfl, own⟩, k3⟩
set_option maxHeartbeats 2000000 in
theorem new_bad (n : Int) (h : n < 1 ∨ 8 < n) (w : World) : Calls Try.prog 8 #[.int .i64 n] w fun e w' => e = .returned (.tuple #[.pointer Option.none, .int .i64 2]) ∧ w = w' := by
  rcases h with h | h
  · go_enter Try.func8, Try.ntmps8
    go_wp2_with fail
    go_ret2
    exact ⟨rfl, rfl⟩
  · have h' : ¬ n < 1 := by omega
    go_enter Try.func8, Try.ntmps8
    go_wp2_with fail
    go_ret2
    exact ⟨rfl, rfl⟩
set_option maxHeartbeats 2000000 in
theorem p_new (n : Int) (h1 : 1 ≤ n) (h8 : n ≤ 8) (w : World) :
    Calls Try.prog 8 #[.int .i64 n] w fun e w' => (∃ t, e = .returned (.tuple #[.pointer (some ⟨t, 0, Option.none⟩), .int .i64 0]) ∧ Tbl w' (fun g => w.heap.size ≤ g ∧ g < w'.heap.size) t ⟨n, [], [], []⟩) ∧ Keeps Nil w w' := by
  have hmm := @run_makeMap Try.prog
  go_enter Try.func8, Try.ntmps8
  go_wp2_with fail
  go_ret2
  refine ⟨⟨w.heap.size + 1, rfl, Option.none, 0, Option.none, 0, w.heap.size, [], fun g hg => hg.2, by simp, ?_, ⟨World.ownsRow_nil _ _ _ _, fun a e => by cases e⟩, rfl, by simp, ⟨World.ownsRow_nil _ _ _ _, fun a e => by cases e⟩, (by simp; omega), (MapIs.made w).keep ((Keeps.refl Nil _).alloc _) (fun e => e)⟩, ((Keeps.refl _ _).alloc _).alloc _⟩
  have := alloc_block (w.alloc (.map #[] 0)) (.cells #[.int .i64 n, .slice Option.none 0 0, .slice Option.none 0 0, .map (some w.heap.size)] 69 (0, 0))
  rw [World.size_alloc] at this
  exact this
end Go.Proofs.Ytbgijlfdgfhceaa
