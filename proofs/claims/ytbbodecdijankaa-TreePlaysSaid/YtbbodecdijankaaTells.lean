/-
  Layer 9: what a machine tells: Root, Flush, Forwards. Conditions: the machine lies so.
-/
import Derived.Test.YtbbodecdijankaaRole
namespace Go.Proofs.Ytbbodecdijankaa
open Go.RowKit
set_option linter.unusedVariables false
set_option linter.unusedSimpArgs false

theorem flush_nil (w : World) : Calls Try.prog 16 #[.pointer Option.none] w fun e w' => e = .returned (.int .u8 0) ∧ w = w' := by
  go_enter Try.func16, Try.ntmps16
  go_wp2_with fail
  go_ret
  exact ⟨rfl, rfl⟩
set_option maxHeartbeats 1000000 in
theorem flush_any {w : World} {m g c : Nat} {τ : TM} (h : Mach w m g c τ) :
    Calls Try.prog 16 #[.pointer (some ⟨m, 0, Option.none⟩)] w fun e w' => e = .returned (.int .u8 τ.fl) ∧ Mach w' m g c { τ with fl := 0 } ∧ Keeps (Of m g) w w' := by
  obtain ⟨⟨_, _, _, _, _, _, _, n7⟩, nf⟩ := h.cells
  have nf7 := nf 7
  have hs := hid (h.set 7 (τ' := { τ with fl := 0 }) (v := .int .u8 0) rfl (by simp [hcl]))
  clear nf h
  go_enter Try.func16, Try.ntmps16
  go_wp2_with fail
  go_ret
  exact ⟨rfl, hs.out, (Keeps.refl _ _).setM 7 _⟩
theorem root_nil (w : World) : Calls Try.prog 23 #[.pointer Option.none] w fun e w' => e = .returned (.tuple #[.int .u64 0, .int .u32 0, .int .u64 0]) ∧ w = w' := by
  go_enter Try.func23, Try.ntmps23
  go_wp2_with fail
  go_ret3
  exact ⟨rfl, rfl⟩
set_option maxHeartbeats 1000000 in
theorem root_any {w : World} {m g c : Nat} {τ : TM} (h : Mach w m g c τ) :
    Calls Try.prog 23 #[.pointer (some ⟨m, 0, Option.none⟩)] w fun e w' => e = .returned (.tuple #[.int .u64 τ.root, .int .u32 τ.cost, .int .u64 τ.ver]) ∧ Keeps Nil w w' := by
  obtain ⟨⟨_, _, n2, n3, _, _, n6, _⟩, _⟩ := h.cells
  clear h
  go_enter Try.func23, Try.ntmps23
  go_wp2_with fail
  go_quiet (fail)
  go_wp2_with fail
  go_ret3
  exact ⟨rfl, Keeps.drewN _ _⟩
theorem forwards_nil (i : Int) (w : World) : Calls Try.prog 25 #[.pointer Option.none, .int .u8 i] w fun e w' => e = .returned (.bool false) ∧ w = w' := by
  go_enter Try.func25, Try.ntmps25
  go_wp2_with (go_at_call 24; refine (role_nil _ _).mono ?_; rintro e w' ⟨rfl, rfl⟩)
  go_ret
  exact ⟨rfl, rfl⟩
set_option maxHeartbeats 1000000 in
theorem forwards_far {w : World} {m g c i : Nat} {τ : TM} (h : Mach w m g c τ) (hi : τ.P.length ≤ i) (h8 : i < 256) :
    Calls Try.prog 25 #[.pointer (some ⟨m, 0, Option.none⟩), .int .u8 (i : Int)] w fun e w' => e = .returned (.bool (τ.forwards i)) ∧ Keeps Nil w w' := by
  have R := hid (role_far h hi h8)
  have HF := hid (show τ.forwards i = false by unfold TM.forwards; rw [List.getElem?_eq_none hi])
  clear h
  go_enter Try.func25, Try.ntmps25
  go_wp2_with fail
  refine R.out.mono ?_; rintro e w' ⟨rfl, rfl⟩
  go_wp2_with fail
  go_ret
  exact ⟨by rw [HF.out]; rfl, Keeps.refl _ _⟩
theorem role_vals (id root cost port : Int) (i : Nat) (p : Pt) : roleP id root cost port i p = 0 ∨ roleP id root cost port i p = 1 ∨ roleP id root cost port i p = 2 ∨ roleP id root cost port i p = 3 ∨ roleP id root cost port i p = 4 ∨ roleP id root cost port i p = 5 := by
  unfold roleP
  repeat' split
  all_goals simp
set_option maxHeartbeats 2000000 in
theorem forwards_some {w : World} {m g c i : Nat} {τ : TM} {x : Pt} (h : Mach w m g c τ) (hx : τ.P[i]? = some x) (h8 : i < 256) :
    Calls Try.prog 25 #[.pointer (some ⟨m, 0, Option.none⟩), .int .u8 (i : Int)] w fun e w' => e = .returned (.bool (τ.forwards i)) ∧ Keeps Nil w w' := by
  have R := role_any h hx h8
  have hi := (List.getElem?_eq_some_iff.1 hx).1
  have hle := h.row.le
  have HF : Hid (τ.forwards i = (decide (τ.roleOf i x = 5) || (decide (τ.roleOf i x = 1) || (decide (τ.roleOf i x = 2) && x.ag)))) := by
    unfold TM.forwards; rw [hx]; exact hid rfl
  have hv := role_vals τ.id τ.root τ.cost τ.port i x
  have HM := hid h
  have HX := hid hx
  change τ.roleOf i x = 0 ∨ τ.roleOf i x = 1 ∨ τ.roleOf i x = 2 ∨ τ.roleOf i x = 3 ∨ τ.roleOf i x = 4 ∨ τ.roleOf i x = 5 at hv
  generalize τ.roleOf i x = ro at *
  clear h hx
  rcases hv with rfl | rfl | rfl | rfl | rfl | rfl
  all_goals
    have RH := hid R
    clear R
    go_enter Try.func25, Try.ntmps25
    go_wp2_with fail
    refine RH.out.mono ?_; rintro e w2 ⟨rfl, k2⟩
    obtain ⟨⟨_, n1, _⟩, _⟩ := (HM.out.keepN k2).cells
    obtain ⟨_, _, _, _, _, _, _, _, _, _, _, _, _, _, c14, _⟩ := (HM.out.keepN k2).row.read HX.out
    go_wp2_with fail
    go_ret
    exact ⟨by rw [HF.out]; simp, k2⟩
theorem forwards_any {w : World} {m g c i : Nat} {τ : TM} (h : Mach w m g c τ) (h8 : i < 256) :
    Calls Try.prog 25 #[.pointer (some ⟨m, 0, Option.none⟩), .int .u8 (i : Int)] w fun e w' => e = .returned (.bool (τ.forwards i)) ∧ Keeps Nil w w' := by
  by_cases hi : i < τ.P.length
  · exact forwards_some h (List.getElem?_eq_getElem hi) h8
  · exact forwards_far h (by omega) h8
/-- A port's role, whichever it is. -/
theorem roles_any {w : World} {m g c i : Nat} {τ : TM} (h : Mach w m g c τ) (h8 : i < 256) :
    Calls Try.prog 24 #[.pointer (some ⟨m, 0, Option.none⟩), .int .u8 (i : Int)] w fun e w' => e = .returned (.int .u8 (τ.role i)) ∧ Keeps Nil w w' := by
  by_cases hi : i < τ.P.length
  · rw [role_some (List.getElem?_eq_getElem hi)]
    exact role_any h (List.getElem?_eq_getElem hi) h8
  · rw [role_none _ _ (by omega)]
    exact (role_far h (by omega) h8).mono fun e w' ⟨he, hw⟩ => ⟨he, by subst hw; exact Keeps.refl _ _⟩
end Go.Proofs.Ytbbodecdijankaa
