/-
  Layer 9: does a port of the document's machine forward? What does it tell? Conditions: the machine lies so.
-/
import Derived.Test.YtbbodecdijankaaRRole
import Derived.Test.YtbbodecdijankaaWord
import Derived.Deep.RegionHeld3
namespace Go.Proofs.Ytbbodecdijankaa
open Go.RowKit
set_option linter.unusedVariables false
set_option linter.unusedSimpArgs false
set_option maxRecDepth 4000

set_option maxHeartbeats 2000000 in
theorem rforwards_far {w : World} {m g c f i : Nat} {τ : TM} (h : RMach w m g c f τ) (hi : τ.P.length ≤ i) :
    Calls Try.prog 44 #[.pointer (some ⟨m, 0, Option.none⟩), .int .i64 (i : Int)] w fun e w' => e = .returned (.bool (τ.forwards i)) ∧ Keeps Nil w w' := by
  have R := hid (rrole_far h hi)
  have HF := hid (show τ.forwards i = false by unfold TM.forwards; rw [List.getElem?_eq_none hi])
  clear h
  go_enter Try.func44, Try.ntmps44
  go_wp2_with (go_at_call 43; refine R.out.mono ?_; rintro e w' ⟨rfl, rfl⟩)
  go_ret
  exact ⟨by rw [HF.out]; rfl, Keeps.refl _ _⟩
theorem role_vals' (id root cost port : Int) (i : Nat) (p : Pt) : roleP id root cost port i p = 0 ∨ roleP id root cost port i p = 1 ∨ roleP id root cost port i p = 2 ∨ roleP id root cost port i p = 3 ∨ roleP id root cost port i p = 4 ∨ roleP id root cost port i p = 5 := by
  unfold roleP
  repeat' split
  all_goals simp
set_option maxHeartbeats 4000000 in
theorem rforwards_some {w : World} {m g c f i : Nat} {τ : TM} {x : Pt} (h : RMach w m g c f τ) (hx : τ.P[i]? = some x) (h8 : i < 256) :
    Calls Try.prog 44 #[.pointer (some ⟨m, 0, Option.none⟩), .int .i64 (i : Int)] w fun e w' => e = .returned (.bool (τ.forwards i)) ∧ Keeps Nil w w' := by
  have hi := (List.getElem?_eq_some_iff.1 hx).1
  have R := rrole_any h hx h8
  have HF : Hid (τ.forwards i = (decide (τ.roleOf i x = 5) || (decide (τ.roleOf i x = 1) || (decide (τ.roleOf i x = 2) && x.ag)))) := by
    unfold TM.forwards; rw [hx]; exact hid rfl
  have hv := role_vals' τ.id τ.root τ.cost τ.port i x
  rw [show roleP τ.id τ.root τ.cost τ.port i x = τ.roleOf i x from rfl] at hv
  have HM := hid h
  have HX := hid hx
  clear h hx
  rcases hv with e | e | e | e | e | e
  all_goals
    rw [e] at R
    have HE := hid e
    have RH := hid R
    clear e R
    go_enter Try.func44, Try.ntmps44
    go_upto_region 2 with ((go_at_call 43; refine RH.out.mono ?_; rintro e w' ⟨rfl, k'⟩))
    have M2 := hid (HM.out.keepN k')
    obtain ⟨⟨_, m1, _⟩, _⟩ := M2.out.cells
    obtain ⟨_, _, _, _, _, _, _, _, _, _, _, _, _, _, c14, _⟩ := M2.out.row.read HX.out
    go_wp2_with fail
    go_ret
    exact ⟨by rw [HF.out, HE.out]; simp, k'⟩
theorem rforwards_any {w : World} {m g c f i : Nat} {τ : TM} (h : RMach w m g c f τ) (h8 : i < 256) :
    Calls Try.prog 44 #[.pointer (some ⟨m, 0, Option.none⟩), .int .i64 (i : Int)] w fun e w' => e = .returned (.bool (τ.forwards i)) ∧ Keeps Nil w w' := by
  by_cases hi : i < τ.P.length
  · exact rforwards_some h (List.getElem?_eq_getElem hi) h8
  · exact rforwards_far h (by omega)
theorem rroles_any {w : World} {m g c f i : Nat} {τ : TM} (h : RMach w m g c f τ) (h8 : i < 256) :
    Calls Try.prog 43 #[.pointer (some ⟨m, 0, Option.none⟩), .int .i64 (i : Int)] w fun e w' => e = .returned (.int .u8 (τ.role i)) ∧ Keeps Nil w w' := by
  by_cases hi : i < τ.P.length
  · rw [role_some (List.getElem?_eq_getElem hi)]
    exact rrole_any h (List.getElem?_eq_getElem hi) h8
  · rw [role_none τ i (by omega)]
    exact (rrole_far h (by omega)).mono fun e w' ⟨he, hw⟩ => ⟨he, hw ▸ Keeps.refl _ _⟩
end Go.Proofs.Ytbbodecdijankaa
