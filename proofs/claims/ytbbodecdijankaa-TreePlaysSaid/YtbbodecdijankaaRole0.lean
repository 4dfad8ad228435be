/-
  Layer 9: a port of the machine, its own vector, its role. Conditions: the machine lies so.
-/
import Derived.Test.YtbbodecdijankaaMem
import Derived.StillTailTactics
import Derived.Deep.DeepCutAuto
namespace Go.Proofs.Ytbbodecdijankaa
open Go.RowKit
set_option linter.unusedVariables false
set_option linter.unusedSimpArgs false

set_option maxHeartbeats 1000000 in
theorem link_any {w : World} {g c i : Nat} {L : List Pt} {x : Pt} (h : Row w 90 g c L) (hx : L[i]? = some x) :
    Calls Try.prog 36 #[.pointer (some ⟨g, i * 16, Option.none⟩)] w fun e w' => e = .returned (.bool x.link) ∧ w = w' := by
  obtain ⟨c0, c1, _⟩ := h.read hx
  clear h hx
  obtain ⟨x0, x1, xh, x2, x3, x4⟩ := x
  simp only at c0 c1
  cases x1 with
  | false =>
    go_enter Try.func36, Try.ntmps36
    go_wp2_with fail
    go_ret
    exact ⟨by simp [Pt.link], rfl⟩
  | true =>
    go_enter Try.func36, Try.ntmps36
    go_wp2_with fail
    go_ret
    exact ⟨by simp [Pt.link], rfl⟩
theorem link_nil (w : World) : Calls Try.prog 36 #[.pointer Option.none] w fun e w' => e = .returned (.bool false) ∧ w = w' := by
  go_enter Try.func36, Try.ntmps36
  go_wp2_with fail
  go_ret
  exact ⟨rfl, rfl⟩
set_option maxHeartbeats 1000000 in
theorem at_some {w : World} {m g c i : Nat} {τ : TM} (h : Mach w m g c τ) (hi : i < τ.P.length) :
    Calls Try.prog 40 #[.pointer (some ⟨m, 0, Option.none⟩), .int .u8 (i : Int)] w fun e w' => e = .returned (.pointer (some ⟨g, i * 16, Option.none⟩)) ∧ w = w' := by
  obtain ⟨⟨_, c1, _⟩, _⟩ := h.cells
  have hle := h.row.le
  clear h
  go_enter Try.func40, Try.ntmps40
  go_wp2_with fail
  go_ret
  exact ⟨rfl, rfl⟩
set_option maxHeartbeats 1000000 in
theorem at_none {w : World} {m g c i : Nat} {τ : TM} (h : Mach w m g c τ) (hi : τ.P.length ≤ i) (h8 : i < 256) :
    Calls Try.prog 40 #[.pointer (some ⟨m, 0, Option.none⟩), .int .u8 (i : Int)] w fun e w' => e = .returned (.pointer Option.none) ∧ w = w' := by
  obtain ⟨⟨_, c1, _⟩, _⟩ := h.cells
  clear h
  go_enter Try.func40, Try.ntmps40
  go_wp2_with fail
  go_ret
  exact ⟨rfl, rfl⟩
theorem at_nil (i : Int) (w : World) : Calls Try.prog 40 #[.pointer Option.none, .int .u8 i] w fun e w' => e = .returned (.pointer Option.none) ∧ w = w' := by
  go_enter Try.func40, Try.ntmps40
  go_wp2_with fail
  go_ret
  exact ⟨rfl, rfl⟩
set_option maxHeartbeats 2000000 in
theorem own_any {w : World} {m g c : Nat} {τ : TM} (i : Int) (h : Mach w m g c τ) :
    Calls Try.prog 46 #[.pointer (some ⟨m, 0, Option.none⟩), .int .u8 i] w fun e w' => e = .returned (vec τ.root τ.cost τ.id i) ∧ Keeps Nil w w' := by
  obtain ⟨⟨c0, c1, c2, c3, c4, c5, c6, c7⟩, _⟩ := h.cells
  have hl := h.lt.1
  clear h c1 c4 c5 c6 c7
  go_enter Try.func46, Try.ntmps46
  go_wp2_with fail
  have d0 : (w.alloc (.cells #[.int .u64 0, .int .u32 0, .int .u64 0, .int .u8 0] 52 (0, 0))).cell? ⟨m, 0, Option.none⟩ = some (.int .u64 τ.id) := by rw [World.cell?_alloc_lt w _ ⟨m, 0, Option.none⟩ hl]; exact c0
  have d2 : (w.alloc (.cells #[.int .u64 0, .int .u32 0, .int .u64 0, .int .u8 0] 52 (0, 0))).cell? ⟨m, 2, Option.none⟩ = some (.int .u64 τ.root) := by rw [World.cell?_alloc_lt w _ ⟨m, 2, Option.none⟩ hl]; exact c2
  have d3 : (w.alloc (.cells #[.int .u64 0, .int .u32 0, .int .u64 0, .int .u8 0] 52 (0, 0))).cell? ⟨m, 3, Option.none⟩ = some (.int .u32 τ.cost) := by rw [World.cell?_alloc_lt w _ ⟨m, 3, Option.none⟩ hl]; exact c3
  go_region
  all_goals go_wp2_with fail
  all_goals (refine bodyPost_ret (v := vec τ.root τ.cost τ.id i) (by simp [results, Try.results46, go_sem]) rfl ?_)
  all_goals exact ⟨rfl, by repeat' (first | exact Keeps.refl _ _ | refine Keeps.drew ?_ | refine Keeps.alloc ?_ _ | refine Keeps.setCell ?_ (fun h => absurd h (by simp)) _)⟩
theorem role_none (τ : TM) (i : Nat) (h : τ.P.length ≤ i) : τ.role i = 0 := by
  unfold TM.role; rw [List.getElem?_eq_none h]
theorem role_some {τ : TM} {i : Nat} {x : Pt} (h : τ.P[i]? = some x) : τ.role i = τ.roleOf i x := by unfold TM.role; rw [h]
theorem role_nil (i : Int) (w : World) : Calls Try.prog 24 #[.pointer Option.none, .int .u8 i] w fun e w' => e = .returned (.int .u8 0) ∧ w = w' := by
  go_enter Try.func24, Try.ntmps24
  go_wp2_with (go_at_call 40; refine (at_nil _ _).mono ?_; rintro e w' ⟨rfl, rfl⟩)
  go_ret
  exact ⟨rfl, rfl⟩
theorem role_far {w : World} {m g c i : Nat} {τ : TM} (h : Mach w m g c τ) (hi : τ.P.length ≤ i) (h8 : i < 256) :
    Calls Try.prog 24 #[.pointer (some ⟨m, 0, Option.none⟩), .int .u8 (i : Int)] w fun e w' => e = .returned (.int .u8 0) ∧ w = w' := by
  have H := hid h
  clear h
  go_enter Try.func24, Try.ntmps24
  go_wp2_with (go_at_call 40; refine (at_none H.out hi h8).mono ?_; rintro e w' ⟨rfl, rfl⟩)
  go_ret
  exact ⟨rfl, rfl⟩
end Go.Proofs.Ytbbodecdijankaa
