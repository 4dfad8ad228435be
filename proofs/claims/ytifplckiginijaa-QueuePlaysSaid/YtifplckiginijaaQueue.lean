/-
  The contracts of queue.Queue: a queue is a block that leads to a channel. No condition but those of the channel.
-/
import Derived.Test.YtifplckiginijaaChan
import Derived.Test.YtifplckiginijaaRows
import Derived.Deep.Cut
import Derived.Deep.QuietTactic
import Derived.BigQuiet
namespace Go.Proofs.Ytifplckiginijaa
open Go.RowKit Go.Conc
set_option linter.unusedVariables false

/-! ### Qi -/
namespace Qi
theorem zeroV (w : World) : (zeroValue 3).run Try.prog w = .ok (.int .i64 0) w := by kernel_rfl
/-- A queue lies in block q, its channel in block c: room for cap, it holds xs. -/
def Is (w : World) (q c cap : Nat) (xs : List Value) : Prop :=
  w.heap[q]? = some (.cells #[.chan (some c)] 60 (0, 0)) ∧ ∃ s r, w.heap[c]? = some (.chan cap xs.toArray false s r false)
theorem Is.ne {w : World} {q c cap : Nat} {xs : List Value} (h : Is w q c cap xs) : q ≠ c := by
  rintro rfl
  obtain ⟨h1, s, r, h2⟩ := h
  rw [h1] at h2
  cases h2
theorem Is.lt {w : World} {q c cap : Nat} {xs : List Value} (h : Is w q c cap xs) : q < w.heap.size ∧ c < w.heap.size := by
  obtain ⟨h1, s, r, h2⟩ := h
  exact ⟨lt_of_block h1, lt_of_block h2⟩
theorem Is.keep {w w' : World} {q c cap : Nat} {xs : List Value} {S : Nat → Prop} (h : Is w q c cap xs) (k : Keeps S w w') (hq : ¬ S q) (hc : ¬ S c) : Is w' q c cap xs := by
  have hl := h.lt
  obtain ⟨h1, s, r, h2⟩ := h
  exact ⟨(k.block q hl.1 hq).trans h1, s, r, (k.block c hl.2 hc).trans h2⟩
theorem Is.set {w : World} {q c cap : Nat} {xs : List Value} (h : Is w q c cap xs) (ys : List Value) (b : Array Value) (hb : b = ys.toArray) (s r : Nat) : Is (w.setChan c cap b false s r false) q c cap ys :=
  ⟨by rw [setChan_other h.ne]; exact h.1, s, r, by rw [hb]; exact heap_setChan _ _ _ _ _ _ _ _ h.lt.2⟩

set_option maxHeartbeats 400000 in
theorem len_any (q c cap : Nat) (xs : List Value) (w : World) (h : Is w q c cap xs) :
    Calls Try.prog 22 #[.pointer (some ⟨q, 0, Option.none⟩)] w fun e w' => e = .returned (.int .i64 xs.length) ∧ w = w' := by
  obtain ⟨h1, s, r, h2⟩ := h
  have hc := cell_of_one h1
  clear h1
  have hln := fun ty => run_len_chan (P := Try.prog) (ty := ty) Try.underlying58 h2
  simp only [List.size_toArray] at hln
  clear h2
  go_enter Try.func22, Try.ntmps22
  go_wp2
  go_ret
  exact ⟨rfl, rfl⟩

set_option maxHeartbeats 400000 in
theorem room_draw (q c cap : Nat) (xs : List Value) (w : World) (h : Is w q c cap xs) (hl : xs.length ≤ cap) (hm : cap ≤ 1024) :
    Calls Try.prog 23 #[.pointer (some ⟨q, 0, Option.none⟩)] w fun e w' => e = .returned (.int .i64 ((cap : Int) - xs.length)) ∧ ∃ m, w' = w.drewN m := by
  obtain ⟨h1, s, r, h2⟩ := h
  have hc := cell_of_one h1
  clear h1
  have hln := fun ty nq => run_len_chan (P := Try.prog) (ty := ty) (w := w.drewN nq) Try.underlying58 h2
  have hcp := fun ty nq => run_cap_chan (P := Try.prog) (ty := ty) (w := w.drewN nq) Try.underlying58 h2
  simp only [List.size_toArray] at hln
  clear h2
  go_enter Try.func23, Try.ntmps23
  go_wp2
  go_quiet (fail)
  go_wp2
  go_ret
  exact ⟨rfl, _, rfl⟩

theorem room_any (q c cap : Nat) (xs : List Value) (w : World) (h : Is w q c cap xs) (hl : xs.length ≤ cap) (hm : cap ≤ 1024) :
    Calls Try.prog 23 #[.pointer (some ⟨q, 0, Option.none⟩)] w fun e w' => e = .returned (.int .i64 ((cap : Int) - xs.length)) ∧ Keeps Nil w w' :=
  (room_draw q c cap xs w h hl hm).mono fun _ _ ⟨he, m, hw⟩ => ⟨he, by rw [hw]; exact Keeps.drewN _ _⟩

set_option maxHeartbeats 400000 in
theorem push_room (q c cap : Nat) (xs : List Value) (v : Value) (w : World) (h : Is w q c cap xs) (hl : xs.length < cap) :
    Calls Try.prog 19 #[.pointer (some ⟨q, 0, Option.none⟩), v] w fun e w' => e = .returned (.int .i64 0) ∧ Is w' q c cap (xs ++ [v]) ∧ Keeps (At c) w w' := by
  have H := hid h
  obtain ⟨h1, s, r, h2⟩ := h
  have hc := cell_of_one h1
  have H2 := hid h2
  clear h1 h2
  go_enter Try.func19, Try.ntmps19
  go_upto_region 5 with (fail)
  refine wp_send_room H2.out (by simpa using hl) (v := v) (z := .int .i64 0) (zeroV _) rfl rfl ?_
  go_wp2
  go_ret
  exact ⟨rfl, H.out.set _ _ (by simp) _ _, (Keeps.refl _ _).setChan (fun _ => at_self c) _ _ _ _ _ _⟩

set_option maxHeartbeats 400000 in
theorem push_full (q c cap : Nat) (xs : List Value) (v : Value) (w : World) (h : Is w q c cap xs) (hl : cap ≤ xs.length) :
    Calls Try.prog 19 #[.pointer (some ⟨q, 0, Option.none⟩), v] w fun e w' => e = .returned (.int .i64 6) ∧ w = w' := by
  obtain ⟨h1, s, r, h2⟩ := h
  have hc := cell_of_one h1
  have H2 := hid h2
  clear h1 h2
  go_enter Try.func19, Try.ntmps19
  go_upto_region 5 with (fail)
  refine wp_send_full H2.out (by simpa using hl) (v := v) (z := .int .i64 0) (zeroV _) rfl rfl ?_
  go_wp2
  go_ret
  exact ⟨rfl, rfl⟩

set_option maxHeartbeats 400000 in
theorem pop_some (q c cap : Nat) (v : Value) (xs : List Value) (w : World) (h : Is w q c cap (v :: xs)) :
    Calls Try.prog 15 #[.pointer (some ⟨q, 0, Option.none⟩)] w fun e w' => e = .returned (.tuple #[v, .int .i64 0]) ∧ Is w' q c cap xs ∧ Keeps (At c) w w' := by
  have H := hid h
  obtain ⟨h1, s, r, h2⟩ := h
  have hc := cell_of_one h1
  have H2 := hid h2
  clear h1 h2
  go_enter Try.func15, Try.ntmps15
  go_upto_region 5 with (fail)
  refine wp_recv_some H2.out (by simp) (z := .int .i64 0) (zeroV _) rfl ?_
  go_wp2
  go_ret2
  exact ⟨rfl, H.out.set _ _ (by simp) _ _, (Keeps.refl _ _).setChan (fun _ => at_self c) _ _ _ _ _ _⟩

set_option maxHeartbeats 400000 in
theorem pop_none (q c cap : Nat) (w : World) (h : Is w q c cap []) :
    Calls Try.prog 15 #[.pointer (some ⟨q, 0, Option.none⟩)] w fun e w' => e = .returned (.tuple #[.int .i64 0, .int .i64 7]) ∧ w = w' := by
  obtain ⟨h1, s, r, h2⟩ := h
  have hc := cell_of_one h1
  have H2 := hid h2
  clear h1 h2
  go_enter Try.func15, Try.ntmps15
  go_upto_region 5 with (fail)
  refine wp_recv_none H2.out (z := .int .i64 0) (zeroV _) rfl ?_
  go_wp2
  go_ret2
  exact ⟨rfl, rfl⟩

theorem mk (w : World) (n : Nat) (hn : n ≤ 1024) : (Instr.makeChan 58 (.int .i64 n)).run Try.prog w = .ok (.chan (some w.heap.size)) (w.alloc (.chan n #[] false 0 0 false)) := by
  have h : (Try.prog.info? 3).map (fun i => decide (i.bytes ≤ 1000)) = some true := by kernel_rfl
  obtain ⟨i, hi, hb⟩ := Option.map_eq_some_iff.1 h
  simp only [decide_eq_true_eq] at hb
  exact run_makeChan Try.underlying58 hi .i64 n (by omega) (by
    have := Nat.mul_le_mul hb hn
    omega)

set_option maxHeartbeats 400000 in
theorem new_ok (n : Nat) (w : World) (h1 : 1 ≤ n) (h2 : n ≤ 1024) :
    Calls Try.prog 13 #[.int .i64 n] w fun e w' => ∃ q c, e = .returned (.tuple #[.pointer (some ⟨q, 0, Option.none⟩), .int .i64 0]) ∧ Is w' q c n [] ∧ w.heap.size ≤ q ∧ w.heap.size ≤ c ∧ Keeps Nil w w' := by
  have hmk := fun W => mk W n h2
  go_enter Try.func13, Try.ntmps13
  go_wp2
  go_ret2
  refine ⟨_, _, rfl, ⟨by have := alloc_block (w.alloc (.chan n #[] false 0 0 false)) (.cells #[.chan (some w.heap.size)] 60 (0, 0)); simpa using this, 0, 0, ?_⟩, ?_, Nat.le_refl _, ((Keeps.refl _ _).alloc _).alloc _⟩
  · rw [Below.heap_alloc _ _ _ (by simp)]; exact alloc_block _ _
  · simp

set_option maxHeartbeats 400000 in
theorem new_no (n : Int) (w : World) (h : n < 1 ∨ 1024 < n) :
    Calls Try.prog 13 #[.int .i64 n] w fun e w' => e = .returned (.tuple #[.pointer Option.none, .int .i64 2]) ∧ w = w' := by
  rcases h with h | h
  · go_enter Try.func13, Try.ntmps13
    go_wp2
    go_ret2
    exact ⟨rfl, rfl⟩
  · have h' : ¬ n < 1 := by omega
    go_enter Try.func13, Try.ntmps13
    go_wp2
    go_ret2
    exact ⟨rfl, rfl⟩
end Qi

/-! ### Qs -/
namespace Qs
theorem zeroV (w : World) : (zeroValue 9).run Try.prog w = .ok (.string ⟨#[]⟩) w := by kernel_rfl
/-- A queue lies in block q, its channel in block c: room for cap, it holds xs. -/
def Is (w : World) (q c cap : Nat) (xs : List Value) : Prop :=
  w.heap[q]? = some (.cells #[.chan (some c)] 57 (0, 0)) ∧ ∃ s r, w.heap[c]? = some (.chan cap xs.toArray false s r false)
theorem Is.ne {w : World} {q c cap : Nat} {xs : List Value} (h : Is w q c cap xs) : q ≠ c := by
  rintro rfl
  obtain ⟨h1, s, r, h2⟩ := h
  rw [h1] at h2
  cases h2
theorem Is.lt {w : World} {q c cap : Nat} {xs : List Value} (h : Is w q c cap xs) : q < w.heap.size ∧ c < w.heap.size := by
  obtain ⟨h1, s, r, h2⟩ := h
  exact ⟨lt_of_block h1, lt_of_block h2⟩
theorem Is.keep {w w' : World} {q c cap : Nat} {xs : List Value} {S : Nat → Prop} (h : Is w q c cap xs) (k : Keeps S w w') (hq : ¬ S q) (hc : ¬ S c) : Is w' q c cap xs := by
  have hl := h.lt
  obtain ⟨h1, s, r, h2⟩ := h
  exact ⟨(k.block q hl.1 hq).trans h1, s, r, (k.block c hl.2 hc).trans h2⟩
theorem Is.set {w : World} {q c cap : Nat} {xs : List Value} (h : Is w q c cap xs) (ys : List Value) (b : Array Value) (hb : b = ys.toArray) (s r : Nat) : Is (w.setChan c cap b false s r false) q c cap ys :=
  ⟨by rw [setChan_other h.ne]; exact h.1, s, r, by rw [hb]; exact heap_setChan _ _ _ _ _ _ _ _ h.lt.2⟩

set_option maxHeartbeats 400000 in
theorem len_any (q c cap : Nat) (xs : List Value) (w : World) (h : Is w q c cap xs) :
    Calls Try.prog 12 #[.pointer (some ⟨q, 0, Option.none⟩)] w fun e w' => e = .returned (.int .i64 xs.length) ∧ w = w' := by
  obtain ⟨h1, s, r, h2⟩ := h
  have hc := cell_of_one h1
  clear h1
  have hln := fun ty => run_len_chan (P := Try.prog) (ty := ty) Try.underlying55 h2
  simp only [List.size_toArray] at hln
  clear h2
  go_enter Try.func12, Try.ntmps12
  go_wp2
  go_ret
  exact ⟨rfl, rfl⟩

set_option maxHeartbeats 400000 in
theorem room_draw (q c cap : Nat) (xs : List Value) (w : World) (h : Is w q c cap xs) (hl : xs.length ≤ cap) (hm : cap ≤ 1024) :
    Calls Try.prog 24 #[.pointer (some ⟨q, 0, Option.none⟩)] w fun e w' => e = .returned (.int .i64 ((cap : Int) - xs.length)) ∧ ∃ m, w' = w.drewN m := by
  obtain ⟨h1, s, r, h2⟩ := h
  have hc := cell_of_one h1
  clear h1
  have hln := fun ty nq => run_len_chan (P := Try.prog) (ty := ty) (w := w.drewN nq) Try.underlying55 h2
  have hcp := fun ty nq => run_cap_chan (P := Try.prog) (ty := ty) (w := w.drewN nq) Try.underlying55 h2
  simp only [List.size_toArray] at hln
  clear h2
  go_enter Try.func24, Try.ntmps24
  go_wp2
  go_quiet (fail)
  go_wp2
  go_ret
  exact ⟨rfl, _, rfl⟩

theorem room_any (q c cap : Nat) (xs : List Value) (w : World) (h : Is w q c cap xs) (hl : xs.length ≤ cap) (hm : cap ≤ 1024) :
    Calls Try.prog 24 #[.pointer (some ⟨q, 0, Option.none⟩)] w fun e w' => e = .returned (.int .i64 ((cap : Int) - xs.length)) ∧ Keeps Nil w w' :=
  (room_draw q c cap xs w h hl hm).mono fun _ _ ⟨he, m, hw⟩ => ⟨he, by rw [hw]; exact Keeps.drewN _ _⟩

set_option maxHeartbeats 400000 in
theorem push_room (q c cap : Nat) (xs : List Value) (v : Value) (w : World) (h : Is w q c cap xs) (hl : xs.length < cap) :
    Calls Try.prog 9 #[.pointer (some ⟨q, 0, Option.none⟩), v] w fun e w' => e = .returned (.int .i64 0) ∧ Is w' q c cap (xs ++ [v]) ∧ Keeps (At c) w w' := by
  have H := hid h
  obtain ⟨h1, s, r, h2⟩ := h
  have hc := cell_of_one h1
  have H2 := hid h2
  clear h1 h2
  go_enter Try.func9, Try.ntmps9
  go_upto_region 5 with (fail)
  refine wp_send_room H2.out (by simpa using hl) (v := v) (z := .string ⟨#[]⟩) (zeroV _) rfl rfl ?_
  go_wp2
  go_ret
  exact ⟨rfl, H.out.set _ _ (by simp) _ _, (Keeps.refl _ _).setChan (fun _ => at_self c) _ _ _ _ _ _⟩

set_option maxHeartbeats 400000 in
theorem push_full (q c cap : Nat) (xs : List Value) (v : Value) (w : World) (h : Is w q c cap xs) (hl : cap ≤ xs.length) :
    Calls Try.prog 9 #[.pointer (some ⟨q, 0, Option.none⟩), v] w fun e w' => e = .returned (.int .i64 6) ∧ w = w' := by
  obtain ⟨h1, s, r, h2⟩ := h
  have hc := cell_of_one h1
  have H2 := hid h2
  clear h1 h2
  go_enter Try.func9, Try.ntmps9
  go_upto_region 5 with (fail)
  refine wp_send_full H2.out (by simpa using hl) (v := v) (z := .string ⟨#[]⟩) (zeroV _) rfl rfl ?_
  go_wp2
  go_ret
  exact ⟨rfl, rfl⟩

set_option maxHeartbeats 400000 in
theorem pop_some (q c cap : Nat) (v : Value) (xs : List Value) (w : World) (h : Is w q c cap (v :: xs)) :
    Calls Try.prog 11 #[.pointer (some ⟨q, 0, Option.none⟩)] w fun e w' => e = .returned (.tuple #[v, .int .i64 0]) ∧ Is w' q c cap xs ∧ Keeps (At c) w w' := by
  have H := hid h
  obtain ⟨h1, s, r, h2⟩ := h
  have hc := cell_of_one h1
  have H2 := hid h2
  clear h1 h2
  go_enter Try.func11, Try.ntmps11
  go_upto_region 5 with (fail)
  refine wp_recv_some H2.out (by simp) (z := .string ⟨#[]⟩) (zeroV _) rfl ?_
  go_wp2
  go_ret2
  exact ⟨rfl, H.out.set _ _ (by simp) _ _, (Keeps.refl _ _).setChan (fun _ => at_self c) _ _ _ _ _ _⟩

set_option maxHeartbeats 400000 in
theorem pop_none (q c cap : Nat) (w : World) (h : Is w q c cap []) :
    Calls Try.prog 11 #[.pointer (some ⟨q, 0, Option.none⟩)] w fun e w' => e = .returned (.tuple #[.string ⟨#[]⟩, .int .i64 7]) ∧ w = w' := by
  obtain ⟨h1, s, r, h2⟩ := h
  have hc := cell_of_one h1
  have H2 := hid h2
  clear h1 h2
  go_enter Try.func11, Try.ntmps11
  go_upto_region 5 with (fail)
  refine wp_recv_none H2.out (z := .string ⟨#[]⟩) (zeroV _) rfl ?_
  go_wp2
  go_ret2
  exact ⟨rfl, rfl⟩

theorem mk (w : World) (n : Nat) (hn : n ≤ 1024) : (Instr.makeChan 55 (.int .i64 n)).run Try.prog w = .ok (.chan (some w.heap.size)) (w.alloc (.chan n #[] false 0 0 false)) := by
  have h : (Try.prog.info? 9).map (fun i => decide (i.bytes ≤ 1000)) = some true := by kernel_rfl
  obtain ⟨i, hi, hb⟩ := Option.map_eq_some_iff.1 h
  simp only [decide_eq_true_eq] at hb
  exact run_makeChan Try.underlying55 hi .i64 n (by omega) (by
    have := Nat.mul_le_mul hb hn
    omega)

set_option maxHeartbeats 400000 in
theorem new_ok (n : Nat) (w : World) (h1 : 1 ≤ n) (h2 : n ≤ 1024) :
    Calls Try.prog 8 #[.int .i64 n] w fun e w' => ∃ q c, e = .returned (.tuple #[.pointer (some ⟨q, 0, Option.none⟩), .int .i64 0]) ∧ Is w' q c n [] ∧ w.heap.size ≤ q ∧ w.heap.size ≤ c ∧ Keeps Nil w w' := by
  have hmk := fun W => mk W n h2
  go_enter Try.func8, Try.ntmps8
  go_wp2
  go_ret2
  refine ⟨_, _, rfl, ⟨by have := alloc_block (w.alloc (.chan n #[] false 0 0 false)) (.cells #[.chan (some w.heap.size)] 57 (0, 0)); simpa using this, 0, 0, ?_⟩, ?_, Nat.le_refl _, ((Keeps.refl _ _).alloc _).alloc _⟩
  · rw [Below.heap_alloc _ _ _ (by simp)]; exact alloc_block _ _
  · simp

set_option maxHeartbeats 400000 in
theorem new_no (n : Int) (w : World) (h : n < 1 ∨ 1024 < n) :
    Calls Try.prog 8 #[.int .i64 n] w fun e w' => e = .returned (.tuple #[.pointer Option.none, .int .i64 2]) ∧ w = w' := by
  rcases h with h | h
  · go_enter Try.func8, Try.ntmps8
    go_wp2
    go_ret2
    exact ⟨rfl, rfl⟩
  · have h' : ¬ n < 1 := by omega
    go_enter Try.func8, Try.ntmps8
    go_wp2
    go_ret2
    exact ⟨rfl, rfl⟩
end Qs
end Go.Proofs.Ytifplckiginijaa
