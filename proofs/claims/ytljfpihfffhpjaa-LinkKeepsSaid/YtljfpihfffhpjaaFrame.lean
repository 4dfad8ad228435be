/-
  Frames that tell their numbers (frame). Condition: the number is below 65536.
-/
import Derived.Test.YtljfpihfffhpjaaLWakes
import Derived.Test.YtljfpihfffhpjaaOpen
import Derived.Laws.BytesArg
namespace Go.Proofs.Ytljfpihfffhpjaa
open Go.RowKit Go.Conc
set_option linter.unusedVariables false

def frm (n : Nat) : ByteArray := strOfNums [(n : Int) / 256, (n : Int) % 256]
theorem frm_size (n : Nat) : (frm n).size = 2 := strOfNums_size _

set_option maxHeartbeats 1000000 in
theorem frame_any (n : Nat) (hn : n < 65536) (w : World) : Calls Try.prog 14 #[.int .i64 n] w fun e w' => e = .returned (.string (frm n)) ∧ Keeps Nil w w' := by
  have hcv := run_convert_bytes_arg (P := Try.prog) (w.alloc (.cells #[.int .u8 ((n : Int) / 256), .int .u8 ((n : Int) % 256)] 5)) 65 5 Try.underlying65 Try.underlying5 w.heap.size 0 2 2 [(n : Int) / 256, (n : Int) % 256] rfl (by
    have hb := alloc_block w (.cells #[.int .u8 ((n : Int) / 256), .int .u8 ((n : Int) % 256)] 5 (0, 0))
    intro i hi
    match i, hi with
    | 0, _ => simp only [World.cell?, hb]; rfl
    | 1, _ => simp only [World.cell?, hb]; rfl) 9 Try.underlying9
  go_enter Try.func14, Try.ntmps14
  go_wp2_with fail
  go_ret
  exact ⟨rfl, (Keeps.refl _ _).alloc _⟩
end Go.Proofs.Ytljfpihfffhpjaa
