/-
  The contracts of queue.Queue: a queue is a block that leads to a channel. No condition but those of the channel.
-/
import Derived.Test.YtljfpihfffhpjaaChan
import Derived.Test.YtljfpihfffhpjaaRows
import Derived.Deep.Cut
import Derived.Deep.QuietTactic
import Derived.BigQuiet
namespace Go.Proofs.Ytljfpihfffhpjaa
open Go.RowKit Go.Conc
set_option linter.unusedVariables false

/-! ### Qs -/
namespace Qs
theorem zeroV (w : World) : (zeroValue 9).run Try.prog w = .ok (.string ⟨#[]⟩) w := by kernel_rfl
/-- A queue lies in block q, its channel in block c: room for cap, it holds xs. -/
def Is (w : World) (q c cap : Nat) (xs : List Value) : Prop :=
  w.heap[q]? = some (.cells #[.chan (some c)] 71 (0, 0)) ∧ ∃ s r, w.heap[c]? = some (.chan cap xs.toArray false s r false)
theorem Is.ne {w : World} {q c cap : Nat} {xs : List Value} (h : Is w q c cap xs) : q ≠ c := by
  rintro rfl
  obtain ⟨h1, s, r, h2⟩ := h
  rw [h1] at h2
  cases h2
theorem Is.lt {w : World} {q c cap : Nat} {xs : List Value} (h : Is w q c cap xs) : q < w.heap.size ∧ c < w.heap.size := by
  obtain ⟨h1, s, r, h2⟩ := h
  exact ⟨lt_of_block h1, lt_of_block h2⟩
theorem Is.keep {w w' : World} {q c cap : Nat} {xs : List Value} {S : Nat → Prop} (h : Is w q c cap xs) (k : Keeps S w w') (hq : ¬ S q) (hc : ¬ S c) : Is w' q c cap xs := by
  have hl := h.lt
  obtain ⟨h1, s, r, h2⟩ := h
  exact ⟨(k.block q hl.1 hq).trans h1, s, r, (k.block c hl.2 hc).trans h2⟩
theorem Is.set {w : World} {q c cap : Nat} {xs : List Value} (h : Is w q c cap xs) (ys : List Value) (b : Array Value) (hb : b = ys.toArray) (s r : Nat) : Is (w.setChan c cap b false s r false) q c cap ys :=
  ⟨by rw [setChan_other h.ne]; exact h.1, s, r, by rw [hb]; exact heap_setChan _ _ _ _ _ _ _ _ h.lt.2⟩

set_option maxHeartbeats 400000 in
theorem len_any (q c cap : Nat) (xs : List Value) (w : World) (h : Is w q c cap xs) :
    Calls Try.prog 26 #[.pointer (some ⟨q, 0, Option.none⟩)] w fun e w' => e = .returned (.int .i64 xs.length) ∧ w = w' := by
  obtain ⟨h1, s, r, h2⟩ := h
  have hc := cell_of_one h1
  clear h1
  have hln := fun ty => run_len_chan (P := Try.prog) (ty := ty) Try.underlying69 h2
  simp only [List.size_toArray] at hln
  clear h2
  go_enter Try.func26, Try.ntmps26
  go_wp2
  go_ret
  exact ⟨rfl, rfl⟩

set_option maxHeartbeats 400000 in
theorem push_room (q c cap : Nat) (xs : List Value) (v : Value) (w : World) (h : Is w q c cap xs) (hl : xs.length < cap) :
    Calls Try.prog 32 #[.pointer (some ⟨q, 0, Option.none⟩), v] w fun e w' => e = .returned (.int .i64 0) ∧ Is w' q c cap (xs ++ [v]) ∧ Keeps (At c) w w' := by
  have H := hid h
  obtain ⟨h1, s, r, h2⟩ := h
  have hc := cell_of_one h1
  have H2 := hid h2
  clear h1 h2
  go_enter Try.func32, Try.ntmps32
  go_upto_region 5 with (fail)
  refine wp_send_room H2.out (by simpa using hl) (v := v) (z := .string ⟨#[]⟩) (zeroV _) rfl rfl ?_
  go_wp2
  go_ret
  exact ⟨rfl, H.out.set _ _ (by simp) _ _, (Keeps.refl _ _).setChan (fun _ => at_self c) _ _ _ _ _ _⟩

set_option maxHeartbeats 400000 in
theorem push_full (q c cap : Nat) (xs : List Value) (v : Value) (w : World) (h : Is w q c cap xs) (hl : cap ≤ xs.length) :
    Calls Try.prog 32 #[.pointer (some ⟨q, 0, Option.none⟩), v] w fun e w' => e = .returned (.int .i64 6) ∧ w = w' := by
  obtain ⟨h1, s, r, h2⟩ := h
  have hc := cell_of_one h1
  have H2 := hid h2
  clear h1 h2
  go_enter Try.func32, Try.ntmps32
  go_upto_region 5 with (fail)
  refine wp_send_full H2.out (by simpa using hl) (v := v) (z := .string ⟨#[]⟩) (zeroV _) rfl rfl ?_
  go_wp2
  go_ret
  exact ⟨rfl, rfl⟩

set_option maxHeartbeats 400000 in
theorem pop_some (q c cap : Nat) (v : Value) (xs : List Value) (w : World) (h : Is w q c cap (v :: xs)) :
    Calls Try.prog 28 #[.pointer (some ⟨q, 0, Option.none⟩)] w fun e w' => e = .returned (.tuple #[v, .int .i64 0]) ∧ Is w' q c cap xs ∧ Keeps (At c) w w' := by
  have H := hid h
  obtain ⟨h1, s, r, h2⟩ := h
  have hc := cell_of_one h1
  have H2 := hid h2
  clear h1 h2
  go_enter Try.func28, Try.ntmps28
  go_upto_region 5 with (fail)
  refine wp_recv_some H2.out (by simp) (z := .string ⟨#[]⟩) (zeroV _) rfl ?_
  go_wp2
  go_ret2
  exact ⟨rfl, H.out.set _ _ (by simp) _ _, (Keeps.refl _ _).setChan (fun _ => at_self c) _ _ _ _ _ _⟩

set_option maxHeartbeats 400000 in
theorem pop_none (q c cap : Nat) (w : World) (h : Is w q c cap []) :
    Calls Try.prog 28 #[.pointer (some ⟨q, 0, Option.none⟩)] w fun e w' => e = .returned (.tuple #[.string ⟨#[]⟩, .int .i64 7]) ∧ w = w' := by
  obtain ⟨h1, s, r, h2⟩ := h
  have hc := cell_of_one h1
  have H2 := hid h2
  clear h1 h2
  go_enter Try.func28, Try.ntmps28
  go_upto_region 5 with (fail)
  refine wp_recv_none H2.out (z := .string ⟨#[]⟩) (zeroV _) rfl ?_
  go_wp2
  go_ret2
  exact ⟨rfl, rfl⟩

theorem mk (w : World) (n : Nat) (hn : n ≤ 1024) : (Instr.makeChan 69 (.int .i64 n)).run Try.prog w = .ok (.chan (some w.heap.size)) (w.alloc (.chan n #[] false 0 0 false)) := by
  have h : (Try.prog.info? 9).map (fun i => decide (i.bytes ≤ 1000)) = some true := by kernel_rfl
  obtain ⟨i, hi, hb⟩ := Option.map_eq_some_iff.1 h
  simp only [decide_eq_true_eq] at hb
  exact run_makeChan Try.underlying69 hi .i64 n (by omega) (by
    have := Nat.mul_le_mul hb hn
    omega)

set_option maxHeartbeats 400000 in
theorem new_ok (n : Nat) (w : World) (h1 : 1 ≤ n) (h2 : n ≤ 1024) :
    Calls Try.prog 23 #[.int .i64 n] w fun e w' => ∃ q c, e = .returned (.tuple #[.pointer (some ⟨q, 0, Option.none⟩), .int .i64 0]) ∧ Is w' q c n [] ∧ w.heap.size ≤ q ∧ w.heap.size ≤ c ∧ Keeps Nil w w' := by
  have hmk := fun W => mk W n h2
  go_enter Try.func23, Try.ntmps23
  go_wp2
  go_ret2
  refine ⟨_, _, rfl, ⟨by have := alloc_block (w.alloc (.chan n #[] false 0 0 false)) (.cells #[.chan (some w.heap.size)] 71 (0, 0)); simpa using this, 0, 0, ?_⟩, ?_, Nat.le_refl _, ((Keeps.refl _ _).alloc _).alloc _⟩
  · rw [Below.heap_alloc _ _ _ (by simp)]; exact alloc_block _ _
  · simp

set_option maxHeartbeats 400000 in
theorem new_no (n : Int) (w : World) (h : n < 1 ∨ 1024 < n) :
    Calls Try.prog 23 #[.int .i64 n] w fun e w' => e = .returned (.tuple #[.pointer Option.none, .int .i64 2]) ∧ w = w' := by
  rcases h with h | h
  · go_enter Try.func23, Try.ntmps23
    go_wp2
    go_ret2
    exact ⟨rfl, rfl⟩
  · have h' : ¬ n < 1 := by omega
    go_enter Try.func23, Try.ntmps23
    go_wp2
    go_ret2
    exact ⟨rfl, rfl⟩

set_option maxHeartbeats 1000000 in
theorem clear_any (q c cap : Nat) (xs : List Value) (w : World) (h : Is w q c cap xs) (hm : xs.length ≤ 1024) :
    Calls Try.prog 30 #[.pointer (some ⟨q, 0, Option.none⟩)] w fun e w' => e = .returned (.int .i64 xs.length) ∧ Is w' q c cap [] ∧ Keeps (At c) w w' := by
  have H := hid h
  clear h
  go_enter Try.func30, Try.ntmps30
  go_wp2
  go_loopw [3] (fun i wr => ∃ k : Nat, k ≤ xs.length ∧ i = .int .i64 k ∧ Hid (Is wr q c cap (xs.drop k)) ∧ Keeps (At c) w wr) (fun i _ => xs.length - (intOf i).toNat)
  case atStart => exact ⟨0, Nat.zero_le _, rfl, hid (by simpa using H.out), Keeps.refl _ _⟩
  case round =>
    obtain ⟨k, hk, rfl, hI, hkeep⟩ := hrel
    by_cases hlt : k < xs.length
    · have hI1 := hI.out
      rw [List.drop_eq_getElem_cons hlt] at hI1
      have HP := hid hI1
      clear hI1
      go_wp2_with fail
      refine (pop_some q c cap _ _ _ HP.out).mono ?_; rintro e w1 ⟨rfl, i1, k1⟩
      go_wp2_with fail
      go_roundw
      case rel => exact ⟨k + 1, by omega, by go_num, i1, hkeep.trans k1⟩
      case measure => simp only [intOf]; omega
    · obtain rfl : k = xs.length := by omega
      have hI1 := hI.out
      rw [List.drop_of_length_le (Nat.le_refl _)] at hI1
      have HP := hid hI1
      clear hI1
      go_wp2_with fail
      refine (pop_none q c cap _ HP.out).mono ?_; rintro e w1 ⟨rfl, rfl⟩
      go_wp2_with fail
      go_ret
      exact ⟨rfl, HP.out, hkeep⟩
end Qs
end Go.Proofs.Ytljfpihfffhpjaa
