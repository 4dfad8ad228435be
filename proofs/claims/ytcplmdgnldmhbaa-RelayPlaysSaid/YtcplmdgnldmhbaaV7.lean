/-
  Layer 7, the document's table as plain data: VLANs in a rising list. No program. No condition.
-/
import Derived.Test.YtcplmdgnldmhbaaFRState
import Derived.Test.YtcplmdgnldmhbaaVlan
namespace Go.Proofs.Ytcplmdgnldmhbaa
open Go.RowKit
set_option linter.unusedVariables false
set_option linter.unusedSimpArgs false

/-- A VLAN goes ahead of the first greater one. -/
def vins (v code : Int) : List (Pl × Int) → List (Pl × Int)
  | [] => [(vp v, code)]
  | x :: r => if v < x.1.v then (vp v, code) :: x :: r else x :: vins v code r
theorem vins_len (v code : Int) : ∀ L : List (Pl × Int), (vins v code L).length = L.length + 1
  | [] => rfl
  | x :: r => by
    unfold vins
    split
    · rfl
    · rw [List.length_cons, vins_len v code r]; rfl
theorem sget_cons (x : Pl × Int) (r : List (Pl × Int)) (q : Pl) : sget (x :: r) q = if x.1 = q then some x.2 else sget r q := by
  unfold sget
  rw [List.find?_cons]
  by_cases h : x.1 = q
  · simp [h]
  · simp [h]
theorem sget_vins (v code : Int) (q : Pl) : ∀ L : List (Pl × Int), (∀ x ∈ L, x.1 ≠ vp v) → sget (vins v code L) q = if vp v = q then some code else sget L q
  | [], _ => by
    show sget [(vp v, code)] q = _
    rw [sget_cons]
  | x :: r, h => by
    unfold vins
    split
    · rw [sget_cons]
    · rw [sget_cons, sget_cons, sget_vins v code q r (fun y hy => h y (by simp [hy]))]
      have hx := h x (by simp)
      by_cases e : x.1 = q
      · rw [if_pos e, if_pos e, if_neg (fun e2 => hx (e.trans e2.symm))]
      · rw [if_neg e, if_neg e]
theorem mem_vins {v code : Int} {y : Pl × Int} : ∀ {L : List (Pl × Int)}, y ∈ vins v code L → y = (vp v, code) ∨ y ∈ L
  | [], h => by
    have h : y ∈ [(vp v, code)] := h
    simp at h; exact .inl h
  | x :: r, h => by
    unfold vins at h
    split at h
    · rcases List.mem_cons.1 h with h | h
      · exact .inl h
      · exact .inr h
    · rcases List.mem_cons.1 h with h | h
      · exact .inr (by rw [h]; simp)
      · rcases mem_vins h with h | h
        · exact .inl h
        · exact .inr (by simp [h])
theorem once_vins {v code : Int} : ∀ {L : List (Pl × Int)}, Once L → (∀ x ∈ L, x.1 ≠ vp v) → Once (vins v code L)
  | [], _, _ => by show Once [(vp v, code)]; simp [Once]
  | x :: r, ho, h => by
    have ho' : x.1 ∉ r.map (·.1) ∧ (r.map (·.1)).Nodup := by unfold Once at ho; rwa [List.map_cons, List.nodup_cons] at ho
    unfold vins
    split
    · show ((vp v, code) :: x :: r).map (·.1) |>.Nodup
      rw [List.map_cons, List.nodup_cons]
      refine ⟨fun hm => ?_, ho⟩
      obtain ⟨y, hy, e⟩ := List.mem_map.1 hm
      exact h y hy e
    · show ((x :: vins v code r).map (·.1)).Nodup
      rw [List.map_cons, List.nodup_cons]
      refine ⟨fun hm => ?_, once_vins (show Once r from ho'.2) (fun y hy => h y (by simp [hy]))⟩
      obtain ⟨y, hy, e⟩ := List.mem_map.1 hm
      rcases mem_vins hy with hy | hy
      · subst hy
        exact h x (by simp) e.symm
      · exact ho'.1 (List.mem_map.2 ⟨y, hy, e⟩)
/-- The document's table behind Set. -/
def vset7 (L : List (Pl × Int)) (v code : Int) : List (Pl × Int) := vins v code (sdel L (vp v))
theorem sget_vset7 (L : List (Pl × Int)) (v code : Int) (q : Pl) : sget (vset7 L v code) q = if vp v = q then some code else sget L q := by
  unfold vset7
  rw [sget_vins v code q _ (fun x hx => by
    have := (List.mem_filter.1 hx).2
    simpa using this), sget_del]
  by_cases e : vp v = q
  · rw [if_pos e, if_pos e]
  · rw [if_neg e, if_neg e, if_neg e]
theorem vset7_len {L : List (Pl × Int)} (h : Once L) (v code : Int) : (vset7 L v code).length = if (sget L (vp v)).isSome then L.length else L.length + 1 := by
  unfold vset7
  rw [vins_len]
  have := sdel_len h (vp v)
  split
  · rename_i hs
    rw [if_pos hs] at this
    omega
  · rename_i hs
    rw [if_neg hs] at this
    omega
theorem vset7_once {L : List (Pl × Int)} (h : Once L) (v code : Int) : Once (vset7 L v code) :=
  once_vins (once_del h _) (fun x hx => by
    have := (List.mem_filter.1 hx).2
    simpa using this)
end Go.Proofs.Ytcplmdgnldmhbaa
