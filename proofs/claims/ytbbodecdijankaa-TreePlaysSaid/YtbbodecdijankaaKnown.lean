/-
  Layer 9: the machine that is known, as plain data. No condition.
-/
import Derived.Test.YtbbodecdijankaaTm
namespace Go.Proofs.Ytbbodecdijankaa
open Go.RowKit
set_option linter.unusedVariables false
set_option maxRecDepth 8000

def wk0 : TM := TM.start 5 [10, 10, 0]
abbrev wkb : Bp := ⟨3, 7, 3, 0, 0, 9, 2, true, false, false, 0⟩
abbrev wkc : Bp := ⟨3, 7, 4, 0, 0, 9, 2, true, false, false, 0⟩
abbrev wk3 : TM := ⟨5, [⟨10, true, Bp.zero, 0, false, 0⟩, ⟨10, true, Bp.zero, 0, false, 0⟩, ⟨0, true, Bp.zero, 0, false, 0⟩], 5, 0, -1, 0, 1, 0⟩
abbrev wk4 : TM := ⟨5, [⟨10, true, wkb, 3, false, 4⟩, ⟨10, true, Bp.zero, 0, false, 4⟩, ⟨0, true, Bp.zero, 0, false, 0⟩], 3, 17, 0, 1, 2, 7⟩
abbrev wk5 : TM := ⟨5, [⟨10, true, wkb, 3, false, 4⟩, ⟨10, true, wkc, 3, false, 4⟩, ⟨0, true, Bp.zero, 0, false, 0⟩], 3, 17, 0, 1, 2, 7⟩
theorem wk_up : ((wk0.power 0 true).power 1 true).power 2 true = wk3 := by rfl
theorem wk_b : wk3.hear 0 wkb = (wk4, [(0, ⟨3, 17, 5, 0, 1, 2, 1, false, true, true, 9⟩)]) := by rfl
theorem wk_c : wk4.hear 1 wkc = (wk5, []) := by rfl
theorem wk_r0 : wk5.role 0 = 1 := by rfl
theorem wk_r1 : wk5.role 1 = 3 := by rfl
theorem wk_r2 : wk5.role 2 = 5 := by rfl
theorem wk_f0 : wk5.forwards 0 = true := by rfl
theorem wk_f1 : wk5.forwards 1 = false := by rfl
theorem wk_f2 : wk5.forwards 2 = true := by rfl
end Go.Proofs.Ytbbodecdijankaa
