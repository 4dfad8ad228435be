/-
  Layer 16: acts in their cells; Great. Conditions: they lie so.
-/
import Derived.Test.YtbgijlfdgfhceaaWakes
namespace Go.Proofs.Ytbgijlfdgfhceaa
open Go.RowKit
set_option linter.unusedVariables false
set_option linter.unusedSimpArgs false
set_option maxRecDepth 8000

def flatX (L : List Ac) : List Value := L.flatMap cellsX
theorem flatX_cons (x : Ac) (L : List Ac) : flatX (x :: L) = cellsX x ++ flatX L := rfl
theorem flatX_append (L R : List Ac) : flatX (L ++ R) = flatX L ++ flatX R := by simp [flatX]
theorem flatX_len (L : List Ac) : (flatX L).length = L.length * 14 := by
  induction L with
  | nil => rfl
  | cons x L ih => rw [flatX_cons, List.length_append, ih, List.length_cons]; simp; omega
theorem flatX_get (L : List Ac) : ∀ (i q : Nat), q < 14 → (flatX L)[i * 14 + q]? = (L[i]?).bind (fun x => (cellsX x)[q]?) := by
  induction L with
  | nil => intro i q hq; simp [flatX]
  | cons x L ih =>
    intro i q hq
    rw [flatX_cons]
    cases i with
    | zero =>
      rw [Nat.zero_mul, Nat.zero_add, List.getElem?_append_left (by simpa using hq)]
      rfl
    | succ i =>
      rw [List.getElem?_append_right (by simp; omega)]
      have : (i + 1) * 14 + q - (cellsX x).length = i * 14 + q := by simp; omega
      rw [this, ih i q hq]
      rfl
theorem flatX_one (L : List Ac) : ∀ u ∈ flatX L, u.oneCell' = true := by
  intro u hu
  obtain ⟨x, _, hx⟩ := List.mem_flatMap.1 hu
  simp [cellsX] at hx
  rcases hx with rfl | rfl | rfl | rfl | rfl | rfl | rfl | rfl | rfl | rfl | rfl | rfl | rfl | rfl <;> rfl
theorem WV.atX {w : World} {B c n : Nat} {p : Option Addr} {L : List Ac} (h : WV w B 14 p n c (flatX L)) {i : Nat} {x : Ac} (hx : L[i]? = some x) : ∃ g off, p = some ⟨g, off, Option.none⟩ ∧ B ≤ g ∧ g < w.heap.size ∧ i < n ∧
    (w.cell? ⟨g, off + i * 14, Option.none⟩ = some (.int .u8 x.d) ∧ w.cell? ⟨g, off + i * 14 + 1, Option.none⟩ = some (.int .u8 x.a.lv) ∧ w.cell? ⟨g, off + i * 14 + 2, Option.none⟩ = some (.string x.a.dom) ∧ w.cell? ⟨g, off + i * 14 + 3, Option.none⟩ = some (.string x.a.own) ∧ w.cell? ⟨g, off + i * 14 + 4, Option.none⟩ = some (.int .u16 x.a.vid) ∧ w.cell? ⟨g, off + i * 14 + 5, Option.none⟩ = some (.int .u8 x.a.iv) ∧ w.cell? ⟨g, off + i * 14 + 6, Option.none⟩ = some (.slice x.a.p x.a.ms.length x.a.c) ∧ w.cell? ⟨g, off + i * 14 + 7, Option.none⟩ = some (.int .i64 x.e.ai) ∧ w.cell? ⟨g, off + i * 14 + 8, Option.none⟩ = some (.int .u16 x.e.id) ∧ w.cell? ⟨g, off + i * 14 + 9, Option.none⟩ = some (.int .u8 x.e.port) ∧ w.cell? ⟨g, off + i * 14 + 10, Option.none⟩ = some (.bool x.e.up) ∧ w.cell? ⟨g, off + i * 14 + 11, Option.none⟩ = some (.int .u8 x.m.port) ∧ w.cell? ⟨g, off + i * 14 + 12, Option.none⟩ = some (.int .u16 x.m.vid) ∧ w.cell? ⟨g, off + i * 14 + 13, Option.none⟩ = some (.int .u8 x.m.lv)) := by
  have hi := (List.getElem?_eq_some_iff.1 hx).1
  have hl := h.1
  rw [flatX_len] at hl
  obtain ⟨g, off, e, hb, hg, hc⟩ := h.2.2 (by omega)
  have C : ∀ q v, (cellsX x)[q]? = some v → w.cell? ⟨g, off + i * 14 + q, Option.none⟩ = some v := fun q v hv => by
    have hq : q < 14 := by have := (List.getElem?_eq_some_iff.1 hv).1; simpa using this
    have h2 := flatX_get L i q hq
    rw [hx] at h2
    simp only [Option.bind_some, hv] at h2
    rw [Nat.add_assoc]
    exact hc _ _ h2
  exact ⟨g, off, e, hb, hg, by omega, C 0 _ rfl, C 1 _ rfl, C 2 _ rfl, C 3 _ rfl, C 4 _ rfl, C 5 _ rfl, C 6 _ rfl, C 7 _ rfl, C 8 _ rfl, C 9 _ rfl, C 10 _ rfl, C 11 _ rfl, C 12 _ rfl, C 13 _ rfl⟩
theorem ownX_len {w : World} {B n T : Nat} {v : Value} {L : List Ac} (h : w.ownsRow B T 14 v n (flatX L)) : L.length = n := by
  have := h.1
  rw [flatX_len] at this
  omega

def greatA (x : Ac) : Bool := decide (20 < x.a.ms.length) || decide (100 < x.a.dom.size) || decide (100 < x.a.own.size)
def greatB (L : List Ac) : Bool := decide (60 < L.length) || L.any greatA
set_option maxHeartbeats 4000000 in
theorem great_any (B : Nat) (p : Option Addr) (n c : Nat) (L : List Ac) (w : World) (h : WV w B 14 p n c (flatX L)) (hm : n ≤ 9223372036854775807) :
    Calls Try.prog 6 #[.slice p n c] w fun e w' => e = .returned (.bool (greatB L)) ∧ Keeps Nil w w' := by
  have hlen : L.length = n := by have := h.1; rw [flatX_len] at this; omega
  have H := hid h
  have HLEN := hid hlen
  have HNC := hid (show n ≤ c from h.2.1)
  by_cases hbig : 60 < n
  · have HG := hid (show greatB L = true by unfold greatB; rw [hlen]; simp [hbig])
    clear h hlen
    go_enter Try.func6, Try.ntmps6
    go_wp2_with fail
    go_ret
    rw [HG.out]
    exact ⟨rfl, Keeps.refl _ _⟩
  clear h
  have HG := hid (show greatB L = L.any greatA by unfold greatB; rw [hlen]; simp [hbig])
  clear hlen
  go_enter Try.func6, Try.ntmps6
  go_wp2_with fail
  go_loopw [3] (fun i wr => ∃ k : Nat, k ≤ n ∧ i = .int .i64 k ∧ Hid (Keeps Nil w wr ∧ ∀ (j : Nat) (y : Ac), j < k → L[j]? = some y → greatA y = false)) (fun i _ => n - (intOf i).toNat)
  case atStart => exact ⟨0, Nat.zero_le _, rfl, hid ⟨Keeps.refl _ _, fun j y hj => by omega⟩⟩
  case round =>
    obtain ⟨k, hk, rfl, HR⟩ := hrel
    by_cases hlt : k < n
    · have hnc := HNC.out
      obtain ⟨x, hx⟩ : ∃ x, L[k]? = some x := ⟨_, List.getElem?_eq_getElem (by have := HLEN.out; omega)⟩
      obtain ⟨g, off, rfl, _, hg, _, c0, c1, c2, c3, c4, c5, c6, c7, c8, c9, c10, c11, c12, c13⟩ := WV.atX (H.out.keepN HR.out.1) hx
      have HX := hid hx
      clear hx c7 c8 c9 c10 c11 c12 c13 c0
      by_cases h1 : 20 < x.a.ms.length
      · have HT := hid (show L.any greatA = true from List.any_eq_true.2 ⟨x, List.mem_of_getElem? HX.out, by simp [greatA, h1]⟩)
        go_wp2_with fail
        go_ret
        rw [HG.out, HT.out]
        exact ⟨rfl, HR.out.1.alloc _⟩
      by_cases h2 : 100 < x.a.dom.size
      · have HT := hid (show L.any greatA = true from List.any_eq_true.2 ⟨x, List.mem_of_getElem? HX.out, by simp [greatA, h2]⟩)
        go_wp2_with fail
        go_ret
        rw [HG.out, HT.out]
        exact ⟨rfl, HR.out.1.alloc _⟩
      by_cases h3 : 100 < x.a.own.size
      · have HT := hid (show L.any greatA = true from List.any_eq_true.2 ⟨x, List.mem_of_getElem? HX.out, by simp [greatA, h3]⟩)
        go_wp2_with fail
        go_ret
        rw [HG.out, HT.out]
        exact ⟨rfl, HR.out.1.alloc _⟩
      have HF := hid (show greatA x = false by simp [greatA, h1, h2, h3])
      go_wp2_with fail
      go_roundw
      case rel =>
        refine ⟨k + 1, by omega, by go_num, hid ⟨HR.out.1.alloc _, fun j y hj hy => ?_⟩⟩
        by_cases e : j = k
        · subst e
          rw [HX.out] at hy
          cases hy
          exact HF.out
        · exact HR.out.2 j y (by omega) hy
      case measure => simp only [intOf]; omega
    · obtain rfl : k = n := by omega
      have HT := hid (show L.any greatA = false from List.any_eq_false.2 (fun y hy => by
        obtain ⟨j, hj, e⟩ := List.mem_iff_getElem.1 hy
        have := HR.out.2 j y (by have := HLEN.out; omega) (by rw [List.getElem?_eq_getElem hj, e])
        simp [this]))
      go_wp2_with fail
      go_ret
      rw [HG.out, HT.out]
      exact ⟨rfl, HR.out.1⟩
end Go.Proofs.Ytbgijlfdgfhceaa
