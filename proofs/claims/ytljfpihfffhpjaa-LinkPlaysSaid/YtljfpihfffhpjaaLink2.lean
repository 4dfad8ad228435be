/-
  The contracts of link.Link, further: Send, Up, Down, IsUp; ends that there are not; no link. No condition but that it lies so.
-/
import Derived.Test.YtljfpihfffhpjaaLink
namespace Go.Proofs.Ytljfpihfffhpjaa
open Go.RowKit Go.Conc
set_option linter.unusedVariables false

theorem two_allocs (w : World) (A B : Obj) : ((w.alloc A).alloc B).heap[w.heap.size]? = some A ∧ ((w.alloc A).alloc B).heap[w.heap.size + 1]? = some B := by
  refine ⟨(((Keeps.refl Nil (w.alloc A)).alloc B).block _ (by simp) (fun e => e)).trans (alloc_block w A), ?_⟩
  have := alloc_block (w.alloc A) B
  rw [show (w.alloc A).heap.size = w.heap.size + 1 from by simp] at this
  exact this

set_option maxHeartbeats 1000000 in
theorem isup_any (x : Nat) (u : Bool) (q0 c0 : Nat) (d0 l0 : Int) (xs0 : List Value) (q1 c1 : Nat) (d1 l1 : Int) (xs1 : List Value) (w : World) (h : Lk w x u q0 c0 d0 l0 xs0 q1 c1 d1 l1 xs1) :
    Calls Try.prog 15 #[.pointer (some ⟨x, 0, Option.none⟩)] w fun e w' => e = .returned (.bool u) ∧ w = w' := by
  have H := hid h
  have hxl := lt_of_block h.1
  obtain ⟨⟨a0, a1, a2, a3, a4, a5, a6⟩, f0, f2, f3, f5, f6⟩ := seven h.1
  clear h
  go_enter Try.func15, Try.ntmps15
  go_wp2
  go_ret
  exact ⟨by simp, rfl⟩

set_option maxHeartbeats 1000000 in
theorem up_any (x : Nat) (u : Bool) (q0 c0 : Nat) (d0 l0 : Int) (xs0 : List Value) (q1 c1 : Nat) (d1 l1 : Int) (xs1 : List Value) (w : World) (h : Lk w x u q0 c0 d0 l0 xs0 q1 c1 d1 l1 xs1) :
    Calls Try.prog 11 #[.pointer (some ⟨x, 0, Option.none⟩)] w fun e w' => e = .returned (.tuple #[]) ∧ Lk w' x true q0 c0 d0 l0 xs0 q1 c1 d1 l1 xs1 ∧ Keeps (Own x c0 c1) w w' := by
  have H := hid h
  have hxl := lt_of_block h.1
  obtain ⟨⟨a0, a1, a2, a3, a4, a5, a6⟩, f0, f2, f3, f5, f6⟩ := seven h.1
  clear h
  go_enter Try.func11, Try.ntmps11
  go_wp2
  have kk : Keeps (At x) w (w.setCell ⟨x, 0, Option.none⟩ (.bool true)) := (Keeps.refl _ _).set _ _ (at_self _) _
  have hb := setCell_block H.out.1 0 (.bool true)
  go_end0
  exact ⟨rfl, H.out.blk kk hb, At.ownx kk⟩

set_option maxHeartbeats 1000000 in
theorem send0_great (x : Nat) (u : Bool) (q0 c0 : Nat) (d0 l0 : Int) (xs0 : List Value) (q1 c1 : Nat) (d1 l1 : Int) (xs1 : List Value) (w : World) (h : Lk w x u q0 c0 d0 l0 xs0 q1 c1 d1 l1 xs1) (s : ByteArray) (hs : 1522 < s.size) :
    Calls Try.prog 13 #[.pointer (some ⟨x, 0, Option.none⟩), .int .i64 0, .string s] w fun e w' => e = .returned (.int .i64 2) ∧ Keeps Nil w w' := by
  have H := hid h
  have hxl := lt_of_block h.1
  obtain ⟨⟨a0, a1, a2, a3, a4, a5, a6⟩, f0, f2, f3, f5, f6⟩ := seven h.1
  clear h
  have hb : decide (1522 < (s.size : Int)) = true := by simp; omega
  go_enter Try.func13, Try.ntmps13
  go_wp2_with (go_in)
  go_ret
  exact ⟨rfl, by repeat' (first | exact Keeps.refl _ _ | refine Keeps.drew ?_ | refine Keeps.alloc ?_ _ | refine Keeps.setCell ?_ (fun h => absurd h (by simp)) _)⟩

set_option maxHeartbeats 1000000 in
theorem send0_down (x : Nat) (u : Bool) (q0 c0 : Nat) (d0 l0 : Int) (xs0 : List Value) (q1 c1 : Nat) (d1 l1 : Int) (xs1 : List Value) (w : World) (h : Lk w x u q0 c0 d0 l0 xs0 q1 c1 d1 l1 xs1) (s : ByteArray) (hs : s.size ≤ 1522) (hu : u = false) :
    Calls Try.prog 13 #[.pointer (some ⟨x, 0, Option.none⟩), .int .i64 0, .string s] w fun e w' => e = .returned (.int .i64 9) ∧ Keeps Nil w w' := by
  have H := hid h
  have hxl := lt_of_block h.1
  obtain ⟨⟨a0, a1, a2, a3, a4, a5, a6⟩, f0, f2, f3, f5, f6⟩ := seven h.1
  clear h
  subst hu
  have hb : decide (1522 < (s.size : Int)) = false := by simp; omega
  go_enter Try.func13, Try.ntmps13
  go_wp2_with (go_in)
  go_ret
  exact ⟨rfl, by repeat' (first | exact Keeps.refl _ _ | refine Keeps.drew ?_ | refine Keeps.alloc ?_ _ | refine Keeps.setCell ?_ (fun h => absurd h (by simp)) _)⟩

set_option maxHeartbeats 1000000 in
theorem send0_room (x : Nat) (u : Bool) (q0 c0 : Nat) (d0 l0 : Int) (xs0 : List Value) (q1 c1 : Nat) (d1 l1 : Int) (xs1 : List Value) (w : World) (h : Lk w x u q0 c0 d0 l0 xs0 q1 c1 d1 l1 xs1) (s : ByteArray) (hs : s.size ≤ 1522) (hu : u = true) (hl : xs0.length < 64) :
    Calls Try.prog 13 #[.pointer (some ⟨x, 0, Option.none⟩), .int .i64 0, .string s] w fun e w' => e = .returned (.int .i64 0) ∧ Lk w' x u q0 c0 d0 l0 (xs0 ++ [.string s]) q1 c1 d1 l1 xs1 ∧ Keeps (Own x c0 c1) w w' := by
  have H := hid h
  have hxl := lt_of_block h.1
  obtain ⟨⟨a0, a1, a2, a3, a4, a5, a6⟩, f0, f2, f3, f5, f6⟩ := seven h.1
  clear h
  subst hu
  have hb : decide (1522 < (s.size : Int)) = false := by simp; omega
  have k0 : Keeps Nil w ((w.alloc (.cells #[.pointer (some ⟨x, 0, Option.none⟩)] 24 (0, 0))).alloc (.cells #[.string s] 9 (0, 0))) := ((Keeps.refl Nil w).alloc _).alloc _
  have HL := hid (H.out.keepN k0)
  have K0 := hid k0
  have HQ := hid (HL.out.2.1)
  clear k0
  have S0 : ∀ W, Keeps (At c0) ((w.alloc (.cells #[.pointer (some ⟨x, 0, Option.none⟩)] 24 (0, 0))).alloc (.cells #[.string s] 9 (0, 0))) W → W.cell? ⟨x, 1, Option.none⟩ = some (.pointer (some ⟨q0, 0, Option.none⟩)) ∧ W.cell? ⟨w.heap.size + 1, 0, Option.none⟩ = some (.string s) := fun W K =>
    ⟨(K.cell (p := ⟨x, 1, Option.none⟩) (by simp; omega) (fun e => xc_ne H.out.1 H.out.2.1 e)).trans ((K0.out.cell (p := ⟨x, 1, Option.none⟩) hxl (fun e => e)).trans a1),
     (cell_of_one ((K.block (w.heap.size + 1) (by simp) (fun e => by have := (H.out.2.1).lt.2; rw [At] at e; omega)).trans (two_allocs w _ _).2))⟩
  have HS := hid S0
  obtain ⟨s0, s1⟩ := S0 _ (Keeps.refl _ _)
  clear S0
  go_enter Try.func13, Try.ntmps13
  go_wp2_with (go_in)
  go_region_held3 (fun w' => w'.cell? ⟨x, 1, Option.none⟩ = some (.pointer (some ⟨q0, 0, Option.none⟩)) ∧ w'.cell? ⟨w.heap.size + 1, 0, Option.none⟩ = some (.string s)) (first | exact HS.out _ kz | exact HS.out _ ((Keeps.refl _ _).drew) | go_keep) ((go_at_call 32; refine (Qs.push_room q0 c0 64 xs0 _ _ (HQ.out.keep (Keeps.drew (Keeps.refl Nil _)) (fun e => e) (fun e => e)) hl).mono ?_; rintro e w2 ⟨rfl, i2, k2⟩; have kz : Keeps (At c0) ((w.alloc (.cells #[.pointer (some ⟨x, 0, Option.none⟩)] 24 (0, 0))).alloc (.cells #[.string s] 9 (0, 0))) w2 := ((Keeps.refl _ _).drew).trans k2))
  go_wp2_with (go_in)
  go_ret
  exact ⟨rfl, HL.out.chan0 kz i2, K0.out.ofNil.trans (At.own0 kz)⟩

set_option maxHeartbeats 1000000 in
theorem send0_full (x : Nat) (u : Bool) (q0 c0 : Nat) (d0 l0 : Int) (xs0 : List Value) (q1 c1 : Nat) (d1 l1 : Int) (xs1 : List Value) (w : World) (h : Lk w x u q0 c0 d0 l0 xs0 q1 c1 d1 l1 xs1) (s : ByteArray) (hs : s.size ≤ 1522) (hu : u = true) (hl : 64 ≤ xs0.length) (hd : 0 ≤ d0) (hd' : d0 < 1000000) :
    Calls Try.prog 13 #[.pointer (some ⟨x, 0, Option.none⟩), .int .i64 0, .string s] w fun e w' => e = .returned (.int .i64 6) ∧ Lk w' x u q0 c0 (d0 + 1) l0 xs0 q1 c1 d1 l1 xs1 ∧ Keeps (Own x c0 c1) w w' := by
  have H := hid h
  have hxl := lt_of_block h.1
  obtain ⟨⟨a0, a1, a2, a3, a4, a5, a6⟩, f0, f2, f3, f5, f6⟩ := seven h.1
  clear h
  subst hu
  have hb : decide (1522 < (s.size : Int)) = false := by simp; omega
  have k0 : Keeps Nil w ((w.alloc (.cells #[.pointer (some ⟨x, 0, Option.none⟩)] 24 (0, 0))).alloc (.cells #[.string s] 9 (0, 0))) := ((Keeps.refl Nil w).alloc _).alloc _
  have HL := hid (H.out.keepN k0)
  have K0 := hid k0
  have HQ := hid (HL.out.2.1)
  clear k0
  have S0 : ∀ W, Keeps Nil ((w.alloc (.cells #[.pointer (some ⟨x, 0, Option.none⟩)] 24 (0, 0))).alloc (.cells #[.string s] 9 (0, 0))) W → W.cell? ⟨x, 1, Option.none⟩ = some (.pointer (some ⟨q0, 0, Option.none⟩)) ∧ W.cell? ⟨w.heap.size + 1, 0, Option.none⟩ = some (.string s) := fun W K =>
    ⟨(K.cell (p := ⟨x, 1, Option.none⟩) (by simp; omega) (fun e => e)).trans ((K0.out.cell (p := ⟨x, 1, Option.none⟩) hxl (fun e => e)).trans a1),
     (cell_of_one ((K.block (w.heap.size + 1) (by simp) (fun e => e)).trans (two_allocs w _ _).2))⟩
  have HS := hid S0
  obtain ⟨s0, s1⟩ := S0 _ (Keeps.refl _ _)
  clear S0
  go_enter Try.func13, Try.ntmps13
  go_wp2_with (go_in)
  go_region_held3 (fun w' => w'.cell? ⟨x, 1, Option.none⟩ = some (.pointer (some ⟨q0, 0, Option.none⟩)) ∧ w'.cell? ⟨w.heap.size + 1, 0, Option.none⟩ = some (.string s)) (first | exact HS.out _ ((Keeps.refl _ _).drew) | go_keep) ((go_at_call 32; refine (Qs.push_full q0 c0 64 xs0 _ _ (HQ.out.keep (Keeps.drew (Keeps.refl Nil _)) (fun e => e) (fun e => e)) hl).mono ?_; rintro e w2 ⟨rfl, rfl⟩))
  go_wp2_with (go_in)
  go_ret
  have kk : Keeps (At x) w (w.setCell ⟨x, 2, Option.none⟩ (.int .u64 (d0 + 1))) := (Keeps.refl _ _).set _ _ (at_self _) _
  have hl1 := H.out.blk kk (setCell_block H.out.1 2 (.int .u64 (d0 + 1)))
  have kn : Keeps Nil (w.setCell ⟨x, 2, Option.none⟩ (.int .u64 (d0 + 1))) ((((w.setCell ⟨x, 2, Option.none⟩ (.int .u64 (d0 + 1))).alloc (.cells #[.pointer (some ⟨x, 0, Option.none⟩)] 24 (0, 0))).alloc (.cells #[.string s] 9 (0, 0))).drew) := (((Keeps.refl _ _).alloc _).alloc _).drew
  exact ⟨rfl, hl1.keepN kn, (At.ownx kk).trans kn.ofNil⟩

set_option maxHeartbeats 1000000 in
theorem send1_great (x : Nat) (u : Bool) (q0 c0 : Nat) (d0 l0 : Int) (xs0 : List Value) (q1 c1 : Nat) (d1 l1 : Int) (xs1 : List Value) (w : World) (h : Lk w x u q0 c0 d0 l0 xs0 q1 c1 d1 l1 xs1) (s : ByteArray) (hs : 1522 < s.size) :
    Calls Try.prog 13 #[.pointer (some ⟨x, 0, Option.none⟩), .int .i64 1, .string s] w fun e w' => e = .returned (.int .i64 2) ∧ Keeps Nil w w' := by
  have H := hid h
  have hxl := lt_of_block h.1
  obtain ⟨⟨a0, a1, a2, a3, a4, a5, a6⟩, f0, f2, f3, f5, f6⟩ := seven h.1
  clear h
  have hb : decide (1522 < (s.size : Int)) = true := by simp; omega
  go_enter Try.func13, Try.ntmps13
  go_wp2_with (go_in)
  go_ret
  exact ⟨rfl, by repeat' (first | exact Keeps.refl _ _ | refine Keeps.drew ?_ | refine Keeps.alloc ?_ _ | refine Keeps.setCell ?_ (fun h => absurd h (by simp)) _)⟩

set_option maxHeartbeats 1000000 in
theorem send1_down (x : Nat) (u : Bool) (q0 c0 : Nat) (d0 l0 : Int) (xs0 : List Value) (q1 c1 : Nat) (d1 l1 : Int) (xs1 : List Value) (w : World) (h : Lk w x u q0 c0 d0 l0 xs0 q1 c1 d1 l1 xs1) (s : ByteArray) (hs : s.size ≤ 1522) (hu : u = false) :
    Calls Try.prog 13 #[.pointer (some ⟨x, 0, Option.none⟩), .int .i64 1, .string s] w fun e w' => e = .returned (.int .i64 9) ∧ Keeps Nil w w' := by
  have H := hid h
  have hxl := lt_of_block h.1
  obtain ⟨⟨a0, a1, a2, a3, a4, a5, a6⟩, f0, f2, f3, f5, f6⟩ := seven h.1
  clear h
  subst hu
  have hb : decide (1522 < (s.size : Int)) = false := by simp; omega
  go_enter Try.func13, Try.ntmps13
  go_wp2_with (go_in)
  go_ret
  exact ⟨rfl, by repeat' (first | exact Keeps.refl _ _ | refine Keeps.drew ?_ | refine Keeps.alloc ?_ _ | refine Keeps.setCell ?_ (fun h => absurd h (by simp)) _)⟩

set_option maxHeartbeats 1000000 in
theorem send1_room (x : Nat) (u : Bool) (q0 c0 : Nat) (d0 l0 : Int) (xs0 : List Value) (q1 c1 : Nat) (d1 l1 : Int) (xs1 : List Value) (w : World) (h : Lk w x u q0 c0 d0 l0 xs0 q1 c1 d1 l1 xs1) (s : ByteArray) (hs : s.size ≤ 1522) (hu : u = true) (hl : xs1.length < 64) :
    Calls Try.prog 13 #[.pointer (some ⟨x, 0, Option.none⟩), .int .i64 1, .string s] w fun e w' => e = .returned (.int .i64 0) ∧ Lk w' x u q0 c0 d0 l0 xs0 q1 c1 d1 l1 (xs1 ++ [.string s]) ∧ Keeps (Own x c0 c1) w w' := by
  have H := hid h
  have hxl := lt_of_block h.1
  obtain ⟨⟨a0, a1, a2, a3, a4, a5, a6⟩, f0, f2, f3, f5, f6⟩ := seven h.1
  clear h
  subst hu
  have hb : decide (1522 < (s.size : Int)) = false := by simp; omega
  have k0 : Keeps Nil w ((w.alloc (.cells #[.pointer (some ⟨x, 0, Option.none⟩)] 24 (0, 0))).alloc (.cells #[.string s] 9 (0, 0))) := ((Keeps.refl Nil w).alloc _).alloc _
  have HL := hid (H.out.keepN k0)
  have K0 := hid k0
  have HQ := hid (HL.out.2.2.1)
  clear k0
  have S0 : ∀ W, Keeps (At c1) ((w.alloc (.cells #[.pointer (some ⟨x, 0, Option.none⟩)] 24 (0, 0))).alloc (.cells #[.string s] 9 (0, 0))) W → W.cell? ⟨x, 4, Option.none⟩ = some (.pointer (some ⟨q1, 0, Option.none⟩)) ∧ W.cell? ⟨w.heap.size + 1, 0, Option.none⟩ = some (.string s) := fun W K =>
    ⟨(K.cell (p := ⟨x, 4, Option.none⟩) (by simp; omega) (fun e => xc_ne H.out.1 H.out.2.2.1 e)).trans ((K0.out.cell (p := ⟨x, 4, Option.none⟩) hxl (fun e => e)).trans a4),
     (cell_of_one ((K.block (w.heap.size + 1) (by simp) (fun e => by have := (H.out.2.2.1).lt.2; rw [At] at e; omega)).trans (two_allocs w _ _).2))⟩
  have HS := hid S0
  obtain ⟨s0, s1⟩ := S0 _ (Keeps.refl _ _)
  clear S0
  go_enter Try.func13, Try.ntmps13
  go_wp2_with (go_in)
  go_region_held3 (fun w' => w'.cell? ⟨x, 4, Option.none⟩ = some (.pointer (some ⟨q1, 0, Option.none⟩)) ∧ w'.cell? ⟨w.heap.size + 1, 0, Option.none⟩ = some (.string s)) (first | exact HS.out _ kz | exact HS.out _ ((Keeps.refl _ _).drew) | go_keep) ((go_at_call 32; refine (Qs.push_room q1 c1 64 xs1 _ _ (HQ.out.keep (Keeps.drew (Keeps.refl Nil _)) (fun e => e) (fun e => e)) hl).mono ?_; rintro e w2 ⟨rfl, i2, k2⟩; have kz : Keeps (At c1) ((w.alloc (.cells #[.pointer (some ⟨x, 0, Option.none⟩)] 24 (0, 0))).alloc (.cells #[.string s] 9 (0, 0))) w2 := ((Keeps.refl _ _).drew).trans k2))
  go_wp2_with (go_in)
  go_ret
  exact ⟨rfl, HL.out.chan1 kz i2, K0.out.ofNil.trans (At.own1 kz)⟩

set_option maxHeartbeats 1000000 in
theorem send1_full (x : Nat) (u : Bool) (q0 c0 : Nat) (d0 l0 : Int) (xs0 : List Value) (q1 c1 : Nat) (d1 l1 : Int) (xs1 : List Value) (w : World) (h : Lk w x u q0 c0 d0 l0 xs0 q1 c1 d1 l1 xs1) (s : ByteArray) (hs : s.size ≤ 1522) (hu : u = true) (hl : 64 ≤ xs1.length) (hd : 0 ≤ d1) (hd' : d1 < 1000000) :
    Calls Try.prog 13 #[.pointer (some ⟨x, 0, Option.none⟩), .int .i64 1, .string s] w fun e w' => e = .returned (.int .i64 6) ∧ Lk w' x u q0 c0 d0 l0 xs0 q1 c1 (d1 + 1) l1 xs1 ∧ Keeps (Own x c0 c1) w w' := by
  have H := hid h
  have hxl := lt_of_block h.1
  obtain ⟨⟨a0, a1, a2, a3, a4, a5, a6⟩, f0, f2, f3, f5, f6⟩ := seven h.1
  clear h
  subst hu
  have hb : decide (1522 < (s.size : Int)) = false := by simp; omega
  have k0 : Keeps Nil w ((w.alloc (.cells #[.pointer (some ⟨x, 0, Option.none⟩)] 24 (0, 0))).alloc (.cells #[.string s] 9 (0, 0))) := ((Keeps.refl Nil w).alloc _).alloc _
  have HL := hid (H.out.keepN k0)
  have K0 := hid k0
  have HQ := hid (HL.out.2.2.1)
  clear k0
  have S0 : ∀ W, Keeps Nil ((w.alloc (.cells #[.pointer (some ⟨x, 0, Option.none⟩)] 24 (0, 0))).alloc (.cells #[.string s] 9 (0, 0))) W → W.cell? ⟨x, 4, Option.none⟩ = some (.pointer (some ⟨q1, 0, Option.none⟩)) ∧ W.cell? ⟨w.heap.size + 1, 0, Option.none⟩ = some (.string s) := fun W K =>
    ⟨(K.cell (p := ⟨x, 4, Option.none⟩) (by simp; omega) (fun e => e)).trans ((K0.out.cell (p := ⟨x, 4, Option.none⟩) hxl (fun e => e)).trans a4),
     (cell_of_one ((K.block (w.heap.size + 1) (by simp) (fun e => e)).trans (two_allocs w _ _).2))⟩
  have HS := hid S0
  obtain ⟨s0, s1⟩ := S0 _ (Keeps.refl _ _)
  clear S0
  go_enter Try.func13, Try.ntmps13
  go_wp2_with (go_in)
  go_region_held3 (fun w' => w'.cell? ⟨x, 4, Option.none⟩ = some (.pointer (some ⟨q1, 0, Option.none⟩)) ∧ w'.cell? ⟨w.heap.size + 1, 0, Option.none⟩ = some (.string s)) (first | exact HS.out _ ((Keeps.refl _ _).drew) | go_keep) ((go_at_call 32; refine (Qs.push_full q1 c1 64 xs1 _ _ (HQ.out.keep (Keeps.drew (Keeps.refl Nil _)) (fun e => e) (fun e => e)) hl).mono ?_; rintro e w2 ⟨rfl, rfl⟩))
  go_wp2_with (go_in)
  go_ret
  have kk : Keeps (At x) w (w.setCell ⟨x, 5, Option.none⟩ (.int .u64 (d1 + 1))) := (Keeps.refl _ _).set _ _ (at_self _) _
  have hl1 := H.out.blk kk (setCell_block H.out.1 5 (.int .u64 (d1 + 1)))
  have kn : Keeps Nil (w.setCell ⟨x, 5, Option.none⟩ (.int .u64 (d1 + 1))) ((((w.setCell ⟨x, 5, Option.none⟩ (.int .u64 (d1 + 1))).alloc (.cells #[.pointer (some ⟨x, 0, Option.none⟩)] 24 (0, 0))).alloc (.cells #[.string s] 9 (0, 0))).drew) := (((Keeps.refl _ _).alloc _).alloc _).drew
  exact ⟨rfl, hl1.keepN kn, (At.ownx kk).trans kn.ofNil⟩

end Go.Proofs.Ytljfpihfffhpjaa