/-
  Layer 3: whether a frame may be put: the program's and the document's. Conditions: the frame's numbers are in range; data of 2,000 bytes.
-/
import Derived.Test.YtcplmdgnldmhbaaRActs
import Derived.Test.YtcplmdgnldmhbaaWV
import Derived.Laws.BytesArg
import Derived.Deep.DrawnRows
namespace Go.Proofs.Ytcplmdgnldmhbaa
open Go.RowKit
set_option linter.unusedVariables false
set_option linter.unusedSimpArgs false
set_option maxRecDepth 8000

/-- The later cells of a frame in its block. -/
theorem five_frame {w : World} {b : Nat} {x : Frm} (h : w.heap[b]? = some (.cells #[Value.int IntKind.u8 x.dst.a, Value.int IntKind.u8 x.dst.b, Value.int IntKind.u8 x.dst.c, Value.int IntKind.u8 x.dst.d, Value.int IntKind.u8 x.dst.e, Value.int IntKind.u8 x.dst.f, Value.int IntKind.u8 x.src.a, Value.int IntKind.u8 x.src.b, Value.int IntKind.u8 x.src.c, Value.int IntKind.u8 x.src.d, Value.int IntKind.u8 x.src.e, Value.int IntKind.u8 x.src.f, Value.bool x.tag, Value.int IntKind.u8 x.pri, Value.int IntKind.u16 x.fvid, Value.int IntKind.u16 x.ty, Value.string x.data] 33 (0, 0))) : w.cell? ⟨b, 12, Option.none⟩ = some (.bool x.tag) ∧ w.cell? ⟨b, 13, Option.none⟩ = some (.int .u8 x.pri) ∧ w.cell? ⟨b, 14, Option.none⟩ = some (.int .u16 x.fvid) ∧ w.cell? ⟨b, 15, Option.none⟩ = some (.int .u16 x.ty) ∧ w.cell? ⟨b, 16, Option.none⟩ = some (.string x.data) := by
  simp [World.cell?, h]
def mayB (x : Frm) : Bool := if x.tag then decide (x.pri < 8) && decide (x.fvid < 4096) else (x.pri == 0) && ((x.fvid == 0) && (x.ty != 33024))
def lenF (x : Frm) : Int := (if x.tag then 18 else 14) + (x.data.size : Int)
theorem may_put (x : Frm) (w : World) : Calls Try.prog 63 #[x.val] w fun e w' => e = .returned (.bool (mayB x)) ∧ Keeps Nil w w' := by
  have kz : Keeps Nil w (w.alloc (.cells #[Value.int IntKind.u8 x.dst.a, Value.int IntKind.u8 x.dst.b, Value.int IntKind.u8 x.dst.c, Value.int IntKind.u8 x.dst.d, Value.int IntKind.u8 x.dst.e, Value.int IntKind.u8 x.dst.f, Value.int IntKind.u8 x.src.a, Value.int IntKind.u8 x.src.b, Value.int IntKind.u8 x.src.c, Value.int IntKind.u8 x.src.d, Value.int IntKind.u8 x.src.e, Value.int IntKind.u8 x.src.f, Value.bool x.tag, Value.int IntKind.u8 x.pri, Value.int IntKind.u16 x.fvid, Value.int IntKind.u16 x.ty, Value.string x.data] 33 (0, 0))) := (Keeps.refl _ _).alloc _
  have hb := alloc_block w (.cells #[Value.int IntKind.u8 x.dst.a, Value.int IntKind.u8 x.dst.b, Value.int IntKind.u8 x.dst.c, Value.int IntKind.u8 x.dst.d, Value.int IntKind.u8 x.dst.e, Value.int IntKind.u8 x.dst.f, Value.int IntKind.u8 x.src.a, Value.int IntKind.u8 x.src.b, Value.int IntKind.u8 x.src.c, Value.int IntKind.u8 x.src.d, Value.int IntKind.u8 x.src.e, Value.int IntKind.u8 x.src.f, Value.bool x.tag, Value.int IntKind.u8 x.pri, Value.int IntKind.u16 x.fvid, Value.int IntKind.u16 x.ty, Value.string x.data] 33 (0, 0))
  go_enter Try.func63, Try.ntmps63
  go_upto_region 1 with (fail)
  generalize (w.alloc (.cells #[Value.int IntKind.u8 x.dst.a, Value.int IntKind.u8 x.dst.b, Value.int IntKind.u8 x.dst.c, Value.int IntKind.u8 x.dst.d, Value.int IntKind.u8 x.dst.e, Value.int IntKind.u8 x.dst.f, Value.int IntKind.u8 x.src.a, Value.int IntKind.u8 x.src.b, Value.int IntKind.u8 x.src.c, Value.int IntKind.u8 x.src.d, Value.int IntKind.u8 x.src.e, Value.int IntKind.u8 x.src.f, Value.bool x.tag, Value.int IntKind.u8 x.pri, Value.int IntKind.u16 x.fvid, Value.int IntKind.u16 x.ty, Value.string x.data] 33 (0, 0))) = wz at *
  generalize w.heap.size = bF at *
  obtain ⟨f12, f13, f14, f15, f16⟩ := five_frame hb
  cases ht : x.tag with
  | true =>
    rw [ht] at f12
    cases h1 : decide (x.pri < 8) with
    | true =>
      go_wp2_with fail
      go_ret
      exact ⟨by simp [mayB, ht, h1], kz⟩
    | false =>
      go_wp2_with fail
      go_ret
      exact ⟨by simp [mayB, ht, h1], kz⟩
  | false =>
    rw [ht] at f12
    cases h1 : (x.pri == 0) with
    | true =>
      cases h2 : (x.fvid == 0) with
      | true =>
        go_wp2_with fail
        go_ret
        exact ⟨by simp [mayB, ht, h1, h2], kz⟩
      | false =>
        go_wp2_with fail
        go_ret
        exact ⟨by simp [mayB, ht, h1, h2], kz⟩
    | false =>
      go_wp2_with fail
      go_ret
      exact ⟨by simp [mayB, ht, h1], kz⟩
theorem rmay_put (x : Frm) (w : World) : Calls Try.prog 61 #[x.val] w fun e w' => e = .returned (.bool (mayB x)) ∧ Keeps Nil w w' := by
  have kz : Keeps Nil w (w.alloc (.cells #[Value.int IntKind.u8 x.dst.a, Value.int IntKind.u8 x.dst.b, Value.int IntKind.u8 x.dst.c, Value.int IntKind.u8 x.dst.d, Value.int IntKind.u8 x.dst.e, Value.int IntKind.u8 x.dst.f, Value.int IntKind.u8 x.src.a, Value.int IntKind.u8 x.src.b, Value.int IntKind.u8 x.src.c, Value.int IntKind.u8 x.src.d, Value.int IntKind.u8 x.src.e, Value.int IntKind.u8 x.src.f, Value.bool x.tag, Value.int IntKind.u8 x.pri, Value.int IntKind.u16 x.fvid, Value.int IntKind.u16 x.ty, Value.string x.data] 33 (0, 0))) := (Keeps.refl _ _).alloc _
  have hb := alloc_block w (.cells #[Value.int IntKind.u8 x.dst.a, Value.int IntKind.u8 x.dst.b, Value.int IntKind.u8 x.dst.c, Value.int IntKind.u8 x.dst.d, Value.int IntKind.u8 x.dst.e, Value.int IntKind.u8 x.dst.f, Value.int IntKind.u8 x.src.a, Value.int IntKind.u8 x.src.b, Value.int IntKind.u8 x.src.c, Value.int IntKind.u8 x.src.d, Value.int IntKind.u8 x.src.e, Value.int IntKind.u8 x.src.f, Value.bool x.tag, Value.int IntKind.u8 x.pri, Value.int IntKind.u16 x.fvid, Value.int IntKind.u16 x.ty, Value.string x.data] 33 (0, 0))
  have e1 : decide (x.pri < 8) = decide (x.pri ≤ 7) := by rw [Bool.eq_iff_iff]; simp only [decide_eq_true_eq]; omega
  have e2 : decide (x.fvid < 4096) = decide (x.fvid ≤ 4095) := by rw [Bool.eq_iff_iff]; simp only [decide_eq_true_eq]; omega
  have E := hid (And.intro e1 e2)
  clear e1 e2
  go_enter Try.func61, Try.ntmps61
  go_upto_region 1 with (fail)
  generalize (w.alloc (.cells #[Value.int IntKind.u8 x.dst.a, Value.int IntKind.u8 x.dst.b, Value.int IntKind.u8 x.dst.c, Value.int IntKind.u8 x.dst.d, Value.int IntKind.u8 x.dst.e, Value.int IntKind.u8 x.dst.f, Value.int IntKind.u8 x.src.a, Value.int IntKind.u8 x.src.b, Value.int IntKind.u8 x.src.c, Value.int IntKind.u8 x.src.d, Value.int IntKind.u8 x.src.e, Value.int IntKind.u8 x.src.f, Value.bool x.tag, Value.int IntKind.u8 x.pri, Value.int IntKind.u16 x.fvid, Value.int IntKind.u16 x.ty, Value.string x.data] 33 (0, 0))) = wz at *
  generalize w.heap.size = bF at *
  obtain ⟨f12, f13, f14, f15, f16⟩ := five_frame hb
  cases ht : x.tag with
  | true =>
    rw [ht] at f12
    cases h1 : decide (x.pri ≤ 7) with
    | true =>
      go_wp2_with fail
      go_ret
      exact ⟨by simp [mayB, ht, h1, E.out.1, E.out.2], kz⟩
    | false =>
      go_wp2_with fail
      go_ret
      exact ⟨by simp [mayB, ht, h1, E.out.1, E.out.2], kz⟩
  | false =>
    rw [ht] at f12
    cases h1 : (x.pri == 0) with
    | true =>
      cases h2 : (x.fvid == 0) with
      | true =>
        go_wp2_with fail
        go_ret
        exact ⟨by simp [mayB, ht, h1, h2, E.out.1, E.out.2], kz⟩
      | false =>
        go_wp2_with fail
        go_ret
        exact ⟨by simp [mayB, ht, h1, h2, E.out.1, E.out.2], kz⟩
    | false =>
      go_wp2_with fail
      go_ret
      exact ⟨by simp [mayB, ht, h1, E.out.1, E.out.2], kz⟩
theorem len_put (x : Frm) (hd : x.data.size ≤ 2000) (w : World) : Calls Try.prog 64 #[x.val] w fun e w' => e = .returned (.int .i64 (lenF x)) ∧ Keeps Nil w w' := by
  have kz : Keeps Nil w (w.alloc (.cells #[Value.int IntKind.u8 x.dst.a, Value.int IntKind.u8 x.dst.b, Value.int IntKind.u8 x.dst.c, Value.int IntKind.u8 x.dst.d, Value.int IntKind.u8 x.dst.e, Value.int IntKind.u8 x.dst.f, Value.int IntKind.u8 x.src.a, Value.int IntKind.u8 x.src.b, Value.int IntKind.u8 x.src.c, Value.int IntKind.u8 x.src.d, Value.int IntKind.u8 x.src.e, Value.int IntKind.u8 x.src.f, Value.bool x.tag, Value.int IntKind.u8 x.pri, Value.int IntKind.u16 x.fvid, Value.int IntKind.u16 x.ty, Value.string x.data] 33 (0, 0))) := (Keeps.refl _ _).alloc _
  have hb := alloc_block w (.cells #[Value.int IntKind.u8 x.dst.a, Value.int IntKind.u8 x.dst.b, Value.int IntKind.u8 x.dst.c, Value.int IntKind.u8 x.dst.d, Value.int IntKind.u8 x.dst.e, Value.int IntKind.u8 x.dst.f, Value.int IntKind.u8 x.src.a, Value.int IntKind.u8 x.src.b, Value.int IntKind.u8 x.src.c, Value.int IntKind.u8 x.src.d, Value.int IntKind.u8 x.src.e, Value.int IntKind.u8 x.src.f, Value.bool x.tag, Value.int IntKind.u8 x.pri, Value.int IntKind.u16 x.fvid, Value.int IntKind.u16 x.ty, Value.string x.data] 33 (0, 0))
  go_enter Try.func64, Try.ntmps64
  go_upto_region 1 with (fail)
  generalize (w.alloc (.cells #[Value.int IntKind.u8 x.dst.a, Value.int IntKind.u8 x.dst.b, Value.int IntKind.u8 x.dst.c, Value.int IntKind.u8 x.dst.d, Value.int IntKind.u8 x.dst.e, Value.int IntKind.u8 x.dst.f, Value.int IntKind.u8 x.src.a, Value.int IntKind.u8 x.src.b, Value.int IntKind.u8 x.src.c, Value.int IntKind.u8 x.src.d, Value.int IntKind.u8 x.src.e, Value.int IntKind.u8 x.src.f, Value.bool x.tag, Value.int IntKind.u8 x.pri, Value.int IntKind.u16 x.fvid, Value.int IntKind.u16 x.ty, Value.string x.data] 33 (0, 0))) = wz at *
  generalize w.heap.size = bF at *
  obtain ⟨f12, f13, f14, f15, f16⟩ := five_frame hb
  cases ht : x.tag with
  | true =>
    rw [ht] at f12
    go_wp2_with fail
    go_ret
    exact ⟨by simp [lenF, ht], kz⟩
  | false =>
    rw [ht] at f12
    go_wp2_with fail
    go_ret
    exact ⟨by simp [lenF, ht], kz⟩
theorem width_any (w : World) : Calls Try.prog 67 #[] w fun e w' => e = .returned (.int .i64 2) ∧ w = w' := by
  go_enter Try.func67, Try.ntmps67
  go_wp2_with fail
  go_loopw [1, 2] (fun s1 s2 wr => ∃ k : Nat, k ≤ 2 ∧ s1 = .int .i64 k ∧ s2 = .int .u16 (if k = 0 then 65535 else if k = 1 then 255 else 0) ∧ wr = w) (fun s1 _ _ => 2 - (intOf s1).toNat)
  case atStart => exact ⟨0, by omega, rfl, by first | rfl | simp | decide, rfl⟩
  case round =>
    obtain ⟨k, hk, rfl, rfl, rfl⟩ := hrel
    rcases (show k = 0 ∨ k = 1 ∨ k = 2 by omega) with rfl | rfl | rfl
    · try simp only [if_true]
      go_wp2_with fail
      go_roundw
      case rel => exact ⟨1, by omega, by first | rfl | go_num, by first | rfl | simp | decide, by first | rfl | trivial⟩
      case measure => simp only [intOf]; omega
    · simp only [show ¬ (1 : Nat) = 0 from by decide, if_false, if_true]
      go_wp2_with fail
      go_roundw
      case rel => exact ⟨2, by omega, by first | rfl | go_num, by first | rfl | simp | decide, by first | rfl | trivial⟩
      case measure => simp only [intOf]; omega
    · simp only [show ¬ (2 : Nat) = 0 from by decide, show ¬ (2 : Nat) = 1 from by decide, if_false]
      go_wp2_with fail
      go_ret
      exact ⟨rfl, rfl⟩
end Go.Proofs.Ytcplmdgnldmhbaa
