/-
  Layer 8: an address by value, opened. No condition.
-/
import Derived.Test.YtdmjpgefoppfmaaFNil
import Derived.WideKeyPair
namespace Go.Proofs.Ytdmjpgefoppfmaa
open Go.ChangeShapes Go.WideShapes Go.RowKit Go.WideMaps
set_option linter.unusedVariables false

theorem arr25 : ArrKey Try.prog 25 5 6 := ⟨Try.underlying25, by kernel_rfl, by kernel_rfl, by kernel_rfl⟩
theorem of_wf8 {n : Int} (h : (Lit.int .u8 n).wf = true) : 0 ≤ n ∧ n < 256 := by
  have e1 : IntKind.u8.min = 0 := by decide
  have e2 : IntKind.u8.max = 255 := by decide
  simp [Lit.wf, e1, e2] at h; omega
theorem of_wf16 {n : Int} (h : (Lit.int .u16 n).wf = true) : 0 ≤ n ∧ n < 65536 := by
  have e1 : IntKind.u16.min = 0 := by decide
  have e2 : IntKind.u16.max = 65535 := by decide
  simp [Lit.wf, e1, e2] at h; omega

theorem open_mac {H : Type} {enc : TypeId × Value → H} {W : World} {r : Reach} {b0 : Nat} {v : Value} {d : DataW H} {ps : List MemPlace}
    (hval : Value.okWide Try.prog W r b0 25 v) (hd : DataW.Trod enc Try.prog W 0 (fun _ => true) true 25 v d ps) :
    ∃ a b c d e f : Int, v = .agg #[.int .u8 a, .int .u8 b, .int .u8 c, .int .u8 d, .int .u8 e, .int .u8 f] ∧ (0 ≤ a ∧ a < 256) ∧ (0 ≤ b ∧ b < 256) ∧ (0 ≤ c ∧ c < 256) ∧ (0 ≤ d ∧ d < 256) ∧ (0 ≤ e ∧ e < 256) ∧ (0 ≤ f ∧ f < 256) := by
  have A := arr25
  simp only [Value.okWide, A.hu] at hval
  obtain ⟨cs, rfl, h2, _⟩ := hval
  rw [A.size] at h2
  obtain ⟨fuel, hf⟩ := hd
  cases fuel with
  | zero => simp [DataW.trod] at hf
  | succ n =>
    rw [DataW.trod_step] at hf
    unfold DataW.trodStep at hf
    simp only [A.hu, Value.cells] at hf
    rw [if_pos (by rw [A.size]; simpa using h2)] at hf
    simp only [Option.map_eq_some_iff] at hf
    obtain ⟨xs, hx, e1⟩ := hf
    rw [show List.range 6 = [0, 1, 2, 3, 4, 5] from rfl] at hx
    simp only [List.mapM_cons, List.mapM_nil, bind, Option.bind_eq_some_iff, pure, Option.some.injEq, A.one] at hx
    obtain ⟨y0, h0, _, ⟨y1, h1, _, ⟨y2, h2', _, ⟨y3, h3, _, ⟨y4, h4, _, ⟨y5, h5, _, rfl, rfl⟩, rfl⟩, rfl⟩, rfl⟩, rfl⟩, rfl⟩ := hx
    obtain ⟨l⟩ := cs
    match l, h2 with
    | [c0, c1, c2, c3, c4, c5], _ =>
      obtain ⟨z0, g0, _, w0⟩ := DataW.trod_int Try.underlying5 h0
      obtain ⟨z1, g1, _, w1⟩ := DataW.trod_int Try.underlying5 h1
      obtain ⟨z2, g2, _, w2⟩ := DataW.trod_int Try.underlying5 h2'
      obtain ⟨z3, g3, _, w3⟩ := DataW.trod_int Try.underlying5 h3
      obtain ⟨z4, g4, _, w4⟩ := DataW.trod_int Try.underlying5 h4
      obtain ⟨z5, g5, _, w5⟩ := DataW.trod_int Try.underlying5 h5
      simp at g0 g1 g2 g3 g4 g5
      subst g0 g1 g2 g3 g4 g5
      exact ⟨z0, z1, z2, z3, z4, z5, rfl, of_wf8 w0, of_wf8 w1, of_wf8 w2, of_wf8 w3, of_wf8 w4, of_wf8 w5⟩
end Go.Proofs.Ytdmjpgefoppfmaa
