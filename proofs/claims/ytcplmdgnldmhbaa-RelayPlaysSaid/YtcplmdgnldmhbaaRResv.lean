/-
  Layer 21, the document: reserved addresses. Condition: a byte is one.
-/
import Derived.Test.YtcplmdgnldmhbaaD7W
import Derived.Test.YtcplmdgnldmhbaaRLaw
namespace Go.Proofs.Ytcplmdgnldmhbaa
open Go.RowKit
set_option linter.unusedVariables false
set_option linter.unusedSimpArgs false
set_option maxRecDepth 8000

theorem resv_of (q : Pl) (hf : 0 ≤ q.f ∧ q.f < 256) : resvB q = decide (q.a = 1 ∧ q.b = 128 ∧ q.c = 194 ∧ q.d = 0 ∧ q.e = 0 ∧ q.f < 16) := by
  have h : bits BinOp.and .u8 q.f 240 = 0 ↔ q.f < 16 := by
    obtain ⟨n, hn⟩ : ∃ n : Nat, q.f = n := ⟨q.f.toNat, by omega⟩
    rw [hn] at hf ⊢
    have hn2 : n < 256 := by omega
    have key : ∀ m : Nat, m < 256 → (bits BinOp.and .u8 (m : Int) 240 = 0 ↔ (m : Int) < 16) := by decide +kernel
    exact key n hn2
  unfold resvB
  rw [decide_eq_decide]
  rw [h]
set_option maxHeartbeats 4000000 in
theorem rresv_any (q : Pl) (hf : 0 ≤ q.f ∧ q.f < 256) (w : World) : Calls Try.prog 49 #[q.mac] w fun e w' => e = .returned (.bool (resvB q)) ∧ Keeps Nil w w' := by
  rw [resv_of q hf]
  have hb := alloc_block w (.cells #[Value.int IntKind.u8 q.a, Value.int IntKind.u8 q.b, Value.int IntKind.u8 q.c, Value.int IntKind.u8 q.d, Value.int IntKind.u8 q.e, Value.int IntKind.u8 q.f] 31 (0, 0))
  have kz : Keeps Nil w (w.alloc (.cells #[Value.int IntKind.u8 q.a, Value.int IntKind.u8 q.b, Value.int IntKind.u8 q.c, Value.int IntKind.u8 q.d, Value.int IntKind.u8 q.e, Value.int IntKind.u8 q.f] 31 (0, 0))) := (Keeps.refl _ _).alloc _
  obtain ⟨r, hr⟩ : ∃ r, r = decide (q.a = 1 ∧ q.b = 128 ∧ q.c = 194 ∧ q.d = 0 ∧ q.e = 0 ∧ q.f < 16) := ⟨_, rfl⟩
  rw [← hr]
  have HR := hid hr
  clear hr
  go_enter Try.func49, Try.ntmps49
  go_upto_region 1 with (fail)
  generalize (w.alloc (.cells #[Value.int IntKind.u8 q.a, Value.int IntKind.u8 q.b, Value.int IntKind.u8 q.c, Value.int IntKind.u8 q.d, Value.int IntKind.u8 q.e, Value.int IntKind.u8 q.f] 31 (0, 0))) = w1 at *
  generalize w.heap.size = b1 at *
  have HB := hid hb
  have KZ := hid kz
  clear hb kz
  go_wp2_with fail
  go_loopw [3] (fun s3 wr => ∃ k : Nat, k ≤ 16 ∧ s3 = .int .i64 k ∧ Hid (¬ (q.a = 1 ∧ q.b = 128 ∧ q.c = 194 ∧ q.d = 0 ∧ q.e = 0 ∧ q.f < k)) ∧ wr = w1) (fun s3 _ => 16 - (intOf s3).toNat)
  case atStart => exact ⟨0, by omega, rfl, hid (fun h => by have := h.2.2.2.2.2; omega), rfl⟩
  case round =>
    obtain ⟨k, hk, rfl, HA, rfl⟩ := hrel
    by_cases hlt : k < 16
    · have hw : IntKind.u8.wrap (k : Int) = (k : Int) := by simp [IntKind.wrap, IntKind.bits, IntKind.signed]; omega
      obtain ⟨c0, c1, c2, c3, c4, c5⟩ := six_of HB.out
      obtain ⟨d, hd⟩ : ∃ d, decide (q.a = 1 ∧ q.b = 128 ∧ q.c = 194 ∧ q.d = 0 ∧ q.e = 0 ∧ q.f = k) = d := ⟨_, rfl⟩
      have hE : ∀ W, (binOp .eql 31 (.agg #[.int .u8 q.a, .int .u8 q.b, .int .u8 q.c, .int .u8 q.d, .int .u8 q.e, .int .u8 q.f]) (.agg #[.int .u8 1, .int .u8 128, .int .u8 194, .int .u8 0, .int .u8 0, .int .u8 k])).run Try.prog W = .ok (.bool d) W := fun W => eql25 q.a q.b q.c q.d q.e q.f 1 128 194 0 0 k d hd W
      have HD := hid hd
      clear hd
      cases d
      · go_wp2_with fail
        go_roundw
        case rel => exact ⟨k + 1, by omega, by go_num, hid (fun h => by have h1 := of_decide_eq_false HD.out; by_cases h2 : q.f = k; exact h1 ⟨h.1, h.2.1, h.2.2.1, h.2.2.2.1, h.2.2.2.2.1, h2⟩; exact HA.out ⟨h.1, h.2.1, h.2.2.1, h.2.2.2.1, h.2.2.2.2.1, by have := h.2.2.2.2.2; omega⟩), by trivial⟩
        case measure => simp only [intOf]; omega
      · go_wp2_with fail
        go_ret
        have h1 := of_decide_eq_true HD.out
        have e : r = true := by
          rw [HR.out]
          exact decide_eq_true ⟨h1.1, h1.2.1, h1.2.2.1, h1.2.2.2.1, h1.2.2.2.2.1, by have := h1.2.2.2.2.2; omega⟩
        exact ⟨by rw [e]; rfl, KZ.out⟩
    · obtain rfl : k = 16 := by omega
      have hr : r = false := by rw [HR.out]; exact decide_eq_false HA.out
      subst hr
      go_wp2_with fail
      go_ret
      exact ⟨rfl, KZ.out⟩
end Go.Proofs.Ytcplmdgnldmhbaa
