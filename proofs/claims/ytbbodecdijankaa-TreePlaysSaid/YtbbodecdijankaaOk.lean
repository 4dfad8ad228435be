/-
  Layer 9: the numbers stay in their types. No condition but that they were.
-/
import Derived.Test.YtbbodecdijankaaTm
namespace Go.Proofs.Ytbbodecdijankaa
open Go.RowKit
set_option linter.unusedVariables false
set_option linter.unusedSimpArgs false

theorem bp_zero_ok : Bp.zero.Ok := ⟨by decide, by decide, by decide, by decide, by decide, by decide, by decide, by decide⟩
theorem Pt.Ok.fresh {x : Pt} (h : x.Ok) (up : Bool) : (x.fresh up).Ok := ⟨h.cost, bp_zero_ok, by simp [Pt.fresh], by simp [Pt.fresh]⟩
theorem Pt.Ok.turn {x : Pt} (h : x.Ok) : x.turn.Ok := ⟨h.cost, h.h, h.lasts, by have := h.sp; simp only [Pt.turn]; split <;> omega⟩
theorem Pt.Ok.ag {x : Pt} (h : x.Ok) (b : Bool) : ({ x with ag := b } : Pt).Ok := ⟨h.cost, h.h, h.lasts, h.sp⟩
theorem Pt.Ok.less {x : Pt} (h : x.Ok) : x.less.Ok := ⟨h.cost, h.h, by have := h.lasts; simp only [Pt.less]; omega, h.sp⟩
theorem Pt.Ok.told {x : Pt} (h : x.Ok) : x.told.Ok := ⟨h.cost, h.h, h.lasts, by have := h.sp; simp only [Pt.told]; omega⟩
theorem Pt.Ok.heard {x : Pt} (h : x.Ok) {b : Bp} (hb : b.Ok) : ({ x with h := b, lasts := 3 } : Pt).Ok := ⟨h.cost, hb, by simp, h.sp⟩
theorem Pt.Ok.spread {x : Pt} (h : x.Ok) : ({ x with sp := 4 } : Pt).Ok := ⟨h.cost, h.h, h.lasts, by simp⟩
theorem offB_parts0 {id : Int} {p : Pt} (h : offB id p = true) : p.up = true ∧ 0 < p.cost ∧ p.lasts ≠ 0 ∧ p.h.role = 2 ∧ p.h.b ≠ id ∧ p.h.hops < 20 ∧ p.h.c + p.cost ≤ 16777216 := by
  unfold offB Pt.link farB at h
  simp at h
  obtain ⟨⟨h1, h2⟩, h3, h4, h5, h6, h7, h8⟩ := h
  exact ⟨h1, h2, h3, h4, h5, h6, h8⟩
theorem pathsTo_mem0 {id : Int} {P : List Pt} {k : Nat} {y : Pth} (h : y ∈ pathsTo id P k) : ∃ j p, j < k ∧ P[j]? = some p ∧ offB id p = true ∧ y = offV p j := by
  induction k with
  | zero => simp [pathsTo] at h
  | succ k ih =>
    simp only [pathsTo, List.mem_append] at h
    rcases h with h | h
    · obtain ⟨j, p, hj, r⟩ := ih h
      exact ⟨j, p, by omega, r⟩
    · cases hp : P[k]? with
      | none => rw [hp] at h; simp at h
      | some p =>
        rw [hp] at h
        simp only [] at h
        by_cases ho : offB id p = true
        · rw [if_pos ho] at h
          simp at h
          exact ⟨k, p, by omega, hp, ho, h⟩
        · rw [if_neg ho] at h
          simp at h
theorem best_mem0 (m : Pth) (l : List Pth) : best m l ∈ m :: l := by
  induction l generalizing m with
  | nil => simp [best]
  | cons x l ih =>
    simp only [best]
    have := ih (if ordP x m < 0 then x else m)
    rcases List.mem_cons.1 this with h | h
    · rw [h]
      split <;> simp
    · exact List.mem_cons_of_mem _ (List.mem_cons_of_mem _ h)
theorem chosen_cases0 (id : Int) (P : List Pt) :
    (chosen id P = (id, 0, -1, 0)) ∨
    (∃ (j : Nat) (p : Pt), P[j]? = some p ∧ offB id p = true ∧ p.h.r < id ∧ chosen id P = (p.h.r, p.h.c + p.cost, (j : Int), p.h.hops + 1)) := by
  cases hp : pathsTo id P P.length with
  | nil => exact .inl (by simp [chosen, hp, bestOf])
  | cons x0 l =>
    by_cases hr : (best x0 l).1 < id
    · have hm := best_mem0 x0 l
      rw [← hp] at hm
      obtain ⟨j, p, hj, hx, ho, hb⟩ := pathsTo_mem0 hm
      refine .inr ⟨j, p, hx, ho, by rw [hb] at hr; exact hr, ?_⟩
      simp [chosen, hp, bestOf, hb, offV] at hr ⊢
      rw [hx]
      simp [hr]
    · exact .inl (by simp [chosen, hp, bestOf, hr])
theorem TM.Ok.calm {τ : TM} (h : τ.Ok) : τ.calm.Ok := by
  refine ⟨h.id, by simpa [TM.calm] using h.n, fun p hp => ?_, h.root, h.cost, h.port, h.hops, h.ver, h.fl⟩
  simp only [TM.calm, List.mem_mapIdx] at hp
  obtain ⟨i, hi, rfl⟩ := hp
  exact (h.P _ (List.getElem_mem hi)).ag _
theorem TM.Ok.turn {τ : TM} (h : τ.Ok) : τ.turn.Ok := by
  refine ⟨h.id, by simpa [TM.turn] using h.n, fun p hp => ?_, h.root, h.cost, h.port, h.hops, ?_, ?_⟩
  · simp only [TM.turn, List.mem_map] at hp
    obtain ⟨q, hq, rfl⟩ := hp
    exact (h.P q hq).turn
  · have := h.ver; show 1 ≤ τ.ver + 1; omega
  · exact orTo_range _ _ h.fl
theorem TM.Ok.takes {τ : TM} (h : τ.Ok) : (τ.takes (chosen τ.id τ.P)).Ok := by
  rcases chosen_cases0 τ.id τ.P with hc | ⟨j, p, hp, ho, hr, hc⟩
  · rw [hc]
    exact ⟨h.id, h.n, h.P, h.id, by simp [TM.takes], by simp [TM.takes], by simp [TM.takes], h.ver, h.fl⟩
  · rw [hc]
    have hok := h.P p (List.mem_of_getElem? hp)
    have hj := (List.getElem?_eq_some_iff.1 hp).1
    obtain ⟨_, h2, _, _, _, h6, h7⟩ := offB_parts0 ho
    have h8 := h.n
    have h9 := hok.h.c
    have h10 := hok.h.hops
    exact ⟨h.id, h.n, h.P, hok.h.r, by simp [TM.takes]; omega, by simp [TM.takes]; omega, by simp [TM.takes]; omega, h.ver, h.fl⟩
theorem TM.Ok.choose {τ : TM} (h : τ.Ok) : τ.choose.Ok := by
  unfold TM.choose
  simp only []
  split
  · exact h.takes.turn.calm
  · exact h.takes.calm
theorem choose_ver (τ : TM) : τ.choose.ver = τ.ver ∨ τ.choose.ver = τ.ver + 1 := by
  unfold TM.choose
  simp only []
  split
  · exact .inr rfl
  · exact .inl rfl
theorem choose_len (τ : TM) : τ.choose.P.length = τ.P.length := by
  unfold TM.choose
  simp only []
  split <;> simp [TM.calm, TM.turn, TM.takes]
theorem TM.Ok.setP {τ : TM} (h : τ.Ok) (i : Nat) {x : Pt} (hx : x.Ok) (f : Int) (hf : 0 ≤ f ∧ f < 256) : ({ τ with P := τ.P.set i x, fl := f } : TM).Ok :=
  ⟨h.id, by simpa using h.n, fun p hp => by
    rcases List.mem_or_eq_of_mem_set hp with h1 | rfl
    · exact h.P p h1
    · exact hx, h.root, h.cost, h.port, h.hops, h.ver, hf⟩
theorem TM.Ok.mapP {τ : TM} (h : τ.Ok) (f : Pt → Pt) (hf : ∀ x : Pt, x.Ok → (f x).Ok) : ({ τ with P := τ.P.map f } : TM).Ok :=
  ⟨h.id, by simpa using h.n, fun p hp => by
    simp only [List.mem_map] at hp
    obtain ⟨q, hq, rfl⟩ := hp
    exact hf q (h.P q hq), h.root, h.cost, h.port, h.hops, h.ver, h.fl⟩
theorem TM.Ok.power {τ : TM} (h : τ.Ok) (i : Nat) (up : Bool) : (τ.power i up).Ok := by
  unfold TM.power
  cases hp : τ.P[i]? with
  | none => exact h
  | some p =>
    simp only []
    split
    · exact h
    · refine (h.setP i ((h.P p (List.mem_of_getElem? hp)).fresh up) _ ?_).choose
      split
      · exact h.fl
      · exact bor_range _ _
end Go.Proofs.Ytbbodecdijankaa
