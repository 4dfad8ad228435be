/-
  The contracts of package alarm: what each of its functions does to an alarm that lies in a block. Conditions: the counts are small.
-/
import Derived.Test.YtkhcaefbchcdoaaRows
import Derived.Test.YtkhcaefbchcdoaaKit
import Derived.Test.YtkhcaefbchcdoaaPlain
namespace Go.Proofs.Ytkhcaefbchcdoaa
open Go.RowKit Plain

/-- An alarm lies in block b. -/
def Lies (w : World) (b : Nat) (lo : Int) (s : St) : Prop := w.heap[b]? = some (.cells #[.int .u8 lo, .int .u8 s.st, .int .i64 s.ti, .int .u8 s.to] 35 (0, 0))

theorem lies_cells {w : World} {b : Nat} {lo st ti to : Int} (h : Lies w b lo ⟨st, ti, to⟩) :
    w.cell? ⟨b, 0, Option.none⟩ = some (.int .u8 lo) ∧ w.cell? ⟨b, 1, Option.none⟩ = some (.int .u8 st) ∧ w.cell? ⟨b, 2, Option.none⟩ = some (.int .i64 ti) ∧ w.cell? ⟨b, 3, Option.none⟩ = some (.int .u8 to) ∧
    w.frozen? ⟨b, 1, Option.none⟩ = false ∧ w.frozen? ⟨b, 2, Option.none⟩ = false ∧ w.frozen? ⟨b, 3, Option.none⟩ = false := by
  unfold Lies at h
  simp [World.cell?, World.frozen?, h]

def Turns (lo : Int) (s : St) (b : Nat) (w w' : World) : Prop := Lies w' b lo s ∧ Keeps (At b) w w'

set_option maxHeartbeats 400000 in
theorem state_any (b : Nat) (lo : Int) (s : St) (w : World) (h : Lies w b lo s) :
    Calls Try.prog 10 #[.pointer (some ⟨b, 0, Option.none⟩)] w fun e w' => e = .returned (.int .u8 s.st) ∧ w = w' := by
  obtain ⟨st, ti, to⟩ := s
  obtain ⟨c0, c1, c2, c3, f1, f2, f3⟩ := lies_cells h
  clear h
  go_enter Try.func10, Try.ntmps10
  go_wp2
  go_ret
  exact ⟨rfl, rfl⟩

set_option maxHeartbeats 400000 in
theorem told_any (b : Nat) (lo : Int) (s : St) (w : World) (h : Lies w b lo s) :
    Calls Try.prog 11 #[.pointer (some ⟨b, 0, Option.none⟩)] w fun e w' => e = .returned (.int .u8 s.to) ∧ w = w' := by
  obtain ⟨st, ti, to⟩ := s
  obtain ⟨c0, c1, c2, c3, f1, f2, f3⟩ := lies_cells h
  clear h
  go_enter Try.func11, Try.ntmps11
  go_wp2
  go_ret
  exact ⟨rfl, rfl⟩

theorem turns1 {lo st ti to ti' : Int} {b : Nat} {w : World} (h : Lies w b lo ⟨st, ti, to⟩) :
    Turns lo ⟨st, ti', to⟩ b w (w.setCell ⟨b, 2, Option.none⟩ (.int .i64 ti')) :=
  ⟨setCell_block h 2 _, (Keeps.refl _ _).set b 2 (at_self b) _⟩
theorem turns2 {lo st ti to st' ti' : Int} {b : Nat} {w : World} (h : Lies w b lo ⟨st, ti, to⟩) :
    Turns lo ⟨st', ti', to⟩ b w ((w.setCell ⟨b, 1, Option.none⟩ (.int .u8 st')).setCell ⟨b, 2, Option.none⟩ (.int .i64 ti')) :=
  ⟨setCell_block (setCell_block h 1 _) 2 _, ((Keeps.refl _ _).set b 1 (at_self b) _).set b 2 (at_self b) _⟩
theorem turns3 {lo st ti to st' ti' to' : Int} {b : Nat} {w : World} (h : Lies w b lo ⟨st, ti, to⟩) :
    Turns lo ⟨st', ti', to'⟩ b w (((w.setCell ⟨b, 1, Option.none⟩ (.int .u8 st')).setCell ⟨b, 2, Option.none⟩ (.int .i64 ti')).setCell ⟨b, 3, Option.none⟩ (.int .u8 to')) :=
  ⟨setCell_block (setCell_block (setCell_block h 1 _) 2 _) 3 _, (((Keeps.refl _ _).set b 1 (at_self b) _).set b 2 (at_self b) _).set b 3 (at_self b) _⟩
theorem turns23 {lo st ti to ti' to' : Int} {b : Nat} {w : World} (h : Lies w b lo ⟨st, ti, to⟩) :
    Turns lo ⟨st, ti', to'⟩ b w ((w.setCell ⟨b, 2, Option.none⟩ (.int .i64 ti')).setCell ⟨b, 3, Option.none⟩ (.int .u8 to')) :=
  ⟨setCell_block (setCell_block h 2 _) 3 _, ((Keeps.refl _ _).set b 2 (at_self b) _).set b 3 (at_self b) _⟩

set_option maxHeartbeats 400000 in
theorem calms_any (b : Nat) (lo : Int) (s : St) (w : World) (h : Lies w b lo s) (ht : 0 ≤ s.ti) (hu : s.ti ≤ 1000000) :
    Calls Try.prog 12 #[.pointer (some ⟨b, 0, Option.none⟩)] w fun e w' => e = .returned (.tuple #[]) ∧ Turns lo (calms s) b w w' := by
  obtain ⟨st, ti, to⟩ := s
  simp only at ht hu
  obtain ⟨c0, c1, c2, c3, f1, f2, f3⟩ := lies_cells h
  have H := hid h
  clear h
  go_enter Try.func12, Try.ntmps12
  go_wp2
  all_goals go_returns
  all_goals refine ⟨rfl, ?_⟩
  · rename_i h1 h2; rw [calms, if_pos ⟨h1, h2⟩]; exact turns1 H.out
  · rename_i h1 h2; rw [calms, if_neg (fun h => by simp only at h; omega)]; exact turns3 H.out
  · rename_i h1; rw [calms, if_neg (fun h => h1 h.1)]; exact turns3 H.out

theorem tick_close {lo : Int} {s s' : St} {x r : Int} {b : Nat} {w w' : World} {e : Ending} {m : Int} (hm : min x 4 = m) (hr : tickW lo s m = (s', r)) (he : e = .returned (.int .u8 r)) (hT : Turns lo s' b w w') :
    e = .returned (.int .u8 (tick lo s x).2) ∧ Turns lo (tick lo s x).1 b w w' := by rw [tick, hm, hr]; exact ⟨he, hT⟩

set_option maxHeartbeats 1000000 in
theorem tick_great (b : Nat) (lo : Int) (s : St) (x : Int) (w : World) (h : Lies w b lo s) (ht : 0 ≤ s.ti) (hu : s.ti ≤ 1000000) (hx : 0 ≤ x) (hx' : x ≤ 255) (hx4 : 4 < x) :
    Calls Try.prog 8 #[.pointer (some ⟨b, 0, Option.none⟩), .int .u8 x] w fun e w' => e = .returned (.int .u8 (tick lo s x).2) ∧ Turns lo (tick lo s x).1 b w w' := by
  obtain ⟨st, ti, to⟩ := s
  simp only at ht hu
  obtain ⟨c0, c1, c2, c3, f1, f2, f3⟩ := lies_cells h
  have H := hid h
  clear h
  have hm : min x 4 = 4 := by omega
  have HM := hid hm
  clear hm
  go_enter Try.func8, Try.ntmps8
  go_wp2_with (go_at_call 12; refine (calms_any b lo ⟨st, ti, to⟩ _ H.out ht hu).mono ?_; rintro e w' ⟨rfl, hT⟩)
  all_goals go_returns
  all_goals go_tidy
  all_goals have HM := HM.out
  · rename_i h1; refine tick_close HM ?_ rfl (hT); simp [tickW, h1]
  · rename_i h1 h2; refine tick_close HM ?_ rfl (turns2 H.out); simp only [beq_iff_eq] at h2; simp [tickW, Int.not_lt.2 h1, h2]
  · rename_i h1 h2 h3 h4; refine tick_close HM ?_ rfl (turns1 H.out); simp at h2 h3; simp [tickW, Int.not_lt.2 h1, h3, h4]
  · rename_i h1 h2 h3 h4 h5; refine tick_close HM ?_ rfl (turns2 H.out); simp at h2 h3; simp [tickW, Int.not_lt.2 h1, h3, h5, tells, Int.not_lt.2 h4]
  · rename_i h1 h2 h3 h4 h5; refine tick_close HM ?_ rfl (turns3 H.out); simp at h2 h3; simp [tickW, Int.not_lt.2 h1, h3, Int.not_le.2 h5, tells, Int.not_lt.2 h4]
  · rename_i h1 h2 h3 h4; refine tick_close HM ?_ rfl (turns1 H.out); simp at h2 h3; simp [tickW, Int.not_lt.2 h1, h2, h3, h4, tells]; intro h; exact h.symm
  · rename_i h1 h2 h3 h4; refine tick_close HM ?_ rfl (turns23 H.out); simp at h2 h3; simp [tickW, Int.not_lt.2 h1, h2, h3, Int.not_le.2 h4, tells]; intro h; exact h.symm

set_option maxHeartbeats 1000000 in
theorem tick_small (b : Nat) (lo : Int) (s : St) (x : Int) (w : World) (h : Lies w b lo s) (ht : 0 ≤ s.ti) (hu : s.ti ≤ 1000000) (hx : 0 ≤ x) (hx' : x ≤ 255) (hx4 : x ≤ 4) :
    Calls Try.prog 8 #[.pointer (some ⟨b, 0, Option.none⟩), .int .u8 x] w fun e w' => e = .returned (.int .u8 (tick lo s x).2) ∧ Turns lo (tick lo s x).1 b w w' := by
  obtain ⟨st, ti, to⟩ := s
  simp only at ht hu
  obtain ⟨c0, c1, c2, c3, f1, f2, f3⟩ := lies_cells h
  have H := hid h
  clear h
  have hm : min x 4 = x := by omega
  have HM := hid hm
  clear hm
  go_enter Try.func8, Try.ntmps8
  go_wp2_with (go_at_call 12; refine (calms_any b lo ⟨st, ti, to⟩ _ H.out ht hu).mono ?_; rintro e w' ⟨rfl, hT⟩)
  all_goals go_returns
  all_goals go_tidy
  all_goals have HM := HM.out
  · rename_i h1; refine tick_close HM ?_ rfl (hT); simp [tickW, h1]
  · rename_i h1 h2; refine tick_close HM ?_ rfl (turns2 H.out); simp only [beq_iff_eq] at h2; simp [tickW, Int.not_lt.2 h1, h2]
  · rename_i h1 h2 h3 h4; refine tick_close HM ?_ rfl (turns1 H.out); simp at h2 h3; simp [tickW, Int.not_lt.2 h1, h3, h4]
  · rename_i h1 h2 h3 h4 h5; refine tick_close HM ?_ rfl (turns2 H.out); simp at h2 h3; simp [tickW, Int.not_lt.2 h1, h3, h5, tells, Int.not_lt.2 h4]
  · rename_i h1 h2 h3 h4 h5; refine tick_close HM ?_ rfl (turns3 H.out); simp at h2 h3; simp [tickW, Int.not_lt.2 h1, h3, Int.not_le.2 h5, tells, Int.not_lt.2 h4]
  · rename_i h1 h2 h3 h4; refine tick_close HM ?_ rfl (turns1 H.out); simp at h2 h3; simp [tickW, Int.not_lt.2 h1, h2, h3, h4, tells]; intro h; exact h.symm
  · rename_i h1 h2 h3 h4; refine tick_close HM ?_ rfl (turns23 H.out); simp at h2 h3; simp [tickW, Int.not_lt.2 h1, h2, h3, Int.not_le.2 h4, tells]; intro h; exact h.symm

theorem tick_any (b : Nat) (lo : Int) (s : St) (x : Int) (w : World) (h : Lies w b lo s) (ht : 0 ≤ s.ti) (hu : s.ti ≤ 1000000) (hx : 0 ≤ x) (hx' : x ≤ 255) :
    Calls Try.prog 8 #[.pointer (some ⟨b, 0, Option.none⟩), .int .u8 x] w fun e w' => e = .returned (.int .u8 (tick lo s x).2) ∧ Turns lo (tick lo s x).1 b w w' := by
  by_cases h4 : 4 < x
  · exact tick_great b lo s x w h ht hu hx hx' h4
  · exact tick_small b lo s x w h ht hu hx hx' (by omega)

set_option maxHeartbeats 400000 in
theorem new_ok (lo : Int) (w : World) (h1 : 1 ≤ lo) (h2 : lo ≤ 4) :
    Calls Try.prog 7 #[.int .u8 lo] w fun e w' => e = .returned (.tuple #[.pointer (some ⟨w.heap.size, 0, Option.none⟩), .int .i64 0]) ∧
      Lies w' w.heap.size lo ⟨0, 0, 0⟩ ∧ Keeps Nil w w' := by
  go_enter Try.func7, Try.ntmps7
  go_wp2
  go_ret2
  exact ⟨rfl, alloc_block _ _, (Keeps.refl _ _).alloc _⟩

set_option maxHeartbeats 400000 in
theorem new_no (lo : Int) (w : World) (h : lo < 1 ∨ 4 < lo) :
    Calls Try.prog 7 #[.int .u8 lo] w fun e w' => e = .returned (.tuple #[.pointer Option.none, .int .i64 2]) ∧ w = w' := by
  rcases h with h | h
  · go_enter Try.func7, Try.ntmps7
    go_wp2
    go_ret2
    exact ⟨rfl, rfl⟩
  · have h' : ¬ lo < 1 := by omega
    go_enter Try.func7, Try.ntmps7
    go_wp2
    go_ret2
    exact ⟨rfl, rfl⟩
end Go.Proofs.Ytkhcaefbchcdoaa
