/-
  Layer 16: what acts keep of the table's plain data. Conditions: the act's numbers are in range.
-/
import Derived.Test.YtbgijlfdgfhceaaDoes
namespace Go.Proofs.Ytbgijlfdgfhceaa
open Go.RowKit
set_option linter.unusedVariables false

structure CT.Ok (τ : CT) (k : Nat) : Prop where
  n : 1 ≤ τ.n ∧ τ.n ≤ 8
  A : τ.A.length ≤ 8
  may : ∀ x ∈ τ.A, mayA x = true ∧ 0 ≤ x.lv ∧ (0 ≤ x.vid ∧ x.vid < 65536)
  E : τ.E.length ≤ k
  ent : ∀ m ∈ τ.E, (0 ≤ m.ai ∧ m.ai < τ.A.length) ∧ (0 ≤ m.port ∧ m.port < 8)
  M : τ.M.length ≤ k
  once : Once τ.M
  lev : ∀ p l, sget τ.M p = some l → 0 ≤ l ∧ l ≤ 7
theorem CT.Ok.good {τ : CT} {k : Nat} (h : τ.Ok k) (hk : k ≤ 100) : τ.Good := ⟨h.n, h.A, h.may, Nat.le_trans h.E hk, h.ent, Nat.le_trans h.M hk, h.lev⟩
theorem CT.Ok.more {τ : CT} {k : Nat} (h : τ.Ok k) : τ.Ok (k + 1) := ⟨h.n, h.A, h.may, by have := h.E; omega, h.ent, by have := h.M; omega, h.once, h.lev⟩
theorem CT.Ok.start {n : Int} (h1 : 1 ≤ n) (h8 : n ≤ 8) : (⟨n, [], [], []⟩ : CT).Ok 0 := ⟨⟨h1, h8⟩, by simp, by simp, by simp, by simp, by simp, by simp [Once], by simp [sget]⟩
theorem CT.Ok.addMep {τ : CT} {k : Nat} (h : τ.Ok k) {m : Me} (hm : m.Ok) : (τ.addMep m).1.Ok (k + 1) := by
  unfold CT.addMep
  rcases asc_cases τ m.ai with ⟨h1, _⟩ | ⟨i, x, hi, hx, h2⟩
  · rw [h1]; exact h.more
  · rw [h2]
    simp only
    split
    · rename_i hc
      split
      · exact h.more
      · split
        · exact h.more
        · have hl := (List.getElem?_eq_some_iff.1 hx).1
          have hp : m.port < τ.n := by simp at hc; exact hc.1
          refine ⟨h.n, h.A, h.may, by simp; have := h.E; omega, fun y hy => ?_, by have := h.M; simp only; omega, h.once, h.lev⟩
          rcases List.mem_append.1 hy with hy | hy
          · exact h.ent y hy
          · simp at hy
            subst hy
            have := h.n
            exact ⟨⟨by omega, by simp only; omega⟩, hm.1.1, by omega⟩
    · exact h.more
theorem CT.Ok.dropMep {τ : CT} {k : Nat} (h : τ.Ok k) (a i : Int) : (τ.dropMep a i).1.Ok (k + 1) := by
  unfold CT.dropMep
  split
  · exact h.more
  · exact ⟨h.n, h.A, h.may, Nat.le_trans (List.length_filter_le _ _) (by have := h.E; omega), fun y hy => h.ent y (List.mem_filter.1 hy).1, by have := h.M; simp only; omega, h.once, h.lev⟩
theorem CT.Ok.addMip {τ : CT} {k : Nat} (h : τ.Ok k) {m : Mi} (hm : 0 ≤ m.lv) : (τ.addMip m).1.Ok (k + 1) := by
  unfold CT.addMip
  split
  · rename_i hc
    split
    · exact h.more
    · rename_i hs
      split
      · exact h.more
      · refine ⟨h.n, h.A, h.may, by have := h.E; simp only; omega, h.ent, by simp only [sput_len]; have := h.M; split <;> omega, once_put h.once _ _, fun p l hl => ?_⟩
        simp only [sget_put] at hl
        split at hl
        · injection hl with hl; subst hl; simp at hc; exact ⟨hm, hc.2⟩
        · exact h.lev p l hl
  · exact h.more
theorem CT.Ok.dropMip {τ : CT} {k : Nat} (h : τ.Ok k) (p v : Int) : (τ.dropMip p v).1.Ok (k + 1) := by
  unfold CT.dropMip
  split
  · refine ⟨h.n, h.A, h.may, by have := h.E; simp only; omega, h.ent, by simp only; have := h.M; have := List.length_filter_le (fun x : Pl × Int => decide (x.1 ≠ ⟨p, v⟩)) τ.M; unfold sdel; omega, once_del h.once _, fun q l hl => ?_⟩
    simp only [sget_del] at hl
    split at hl
    · cases hl
    · exact h.lev q l hl
  · exact h.more
theorem CT.Ok.addAsc {τ : CT} {k : Nat} (h : τ.Ok k) {x : As} (hx : (0 ≤ x.lv ∧ x.lv < 256) ∧ (0 ≤ x.vid ∧ x.vid < 65536)) : (τ.addAsc x).1.Ok (k + 1) := by
  unfold CT.addAsc
  split
  · rename_i hm
    split
    · exact h.more
    · split
      · exact h.more
      · refine ⟨h.n, by simp; omega, fun y hy => ?_, by have := h.E; simp only; omega, fun y hy => ?_, by have := h.M; simp only; omega, h.once, h.lev⟩
        · rcases List.mem_append.1 hy with hy | hy
          · exact h.may y hy
          · simp at hy
            subst hy
            exact ⟨hm, hx.1.1, hx.2⟩
        · have := h.ent y hy
          exact ⟨⟨this.1.1, by simp; omega⟩, this.2⟩
  · exact h.more
theorem CT.Ok.does {τ : CT} {k : Nat} (h : τ.Ok k) {x : Ac} (hx : x.Ok) : (τ.does x).1.Ok (k + 1) := by
  unfold CT.does
  split
  · exact h.addMep hx.2.1
  · split
    · exact h.dropMep _ _
    · split
      · exact h.addMip hx.2.2.1.2.2.1
      · split
        · exact h.dropMip _ _
        · exact h.addAsc hx.2.2.2
end Go.Proofs.Ytbgijlfdgfhceaa
