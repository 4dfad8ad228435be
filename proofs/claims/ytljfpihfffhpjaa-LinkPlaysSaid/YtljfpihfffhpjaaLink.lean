/-
  The contracts of link.Link: a block of seven cells, two queues. No condition but that it lies so.
-/
import Derived.Test.YtljfpihfffhpjaaQueue
import Derived.Deep.RegionHeld3
import Derived.Deep.DeepCutAuto
namespace Go.Proofs.Ytljfpihfffhpjaa
open Go.RowKit Go.Conc
set_option linter.unusedVariables false

/-- The link's own cells. -/
abbrev lcells (u : Bool) (q0 : Nat) (d0 l0 : Int) (q1 : Nat) (d1 l1 : Int) : Array Value :=
  #[.bool u, .pointer (some ⟨q0, 0, Option.none⟩), .int .u64 d0, .int .u64 l0, .pointer (some ⟨q1, 0, Option.none⟩), .int .u64 d1, .int .u64 l1]
/-- A link lies in block x: its queues in q0, q1, their channels in c0, c1. -/
def Lk (w : World) (x : Nat) (u : Bool) (q0 c0 : Nat) (d0 l0 : Int) (xs0 : List Value) (q1 c1 : Nat) (d1 l1 : Int) (xs1 : List Value) : Prop :=
  w.heap[x]? = some (.cells (lcells u q0 d0 l0 q1 d1 l1) 57 (0, 0)) ∧ Qs.Is w q0 c0 64 xs0 ∧ Qs.Is w q1 c1 64 xs1 ∧ q0 ≠ q1 ∧ c0 ≠ c1
/-- What a link may turn. -/
def Own (x c0 c1 : Nat) : Nat → Prop := fun k => k = x ∨ k = c0 ∨ k = c1
section
variable {w w' : World} {x : Nat} {u : Bool} {q0 c0 : Nat} {d0 l0 : Int} {xs0 : List Value} {q1 c1 : Nat} {d1 l1 : Int} {xs1 : List Value}
theorem qc_ne {w : World} {q c cap q' c' cap' : Nat} {xs ys : List Value} (h : Qs.Is w q c cap xs) (h' : Qs.Is w q' c' cap' ys) : q ≠ c' := by
  rintro rfl
  obtain ⟨h1, _⟩ := h
  obtain ⟨_, s, r, h2⟩ := h'
  rw [h1] at h2; cases h2
theorem xc_ne {w : World} {x q c cap : Nat} {cs : Array Value} {T : TypeId} {f : Nat × Nat} {xs : List Value} (hx : w.heap[x]? = some (.cells cs T f)) (h : Qs.Is w q c cap xs) : x ≠ c := by
  rintro rfl
  obtain ⟨_, s, r, h2⟩ := h
  rw [hx] at h2; cases h2
theorem xq_ne {w : World} {x q c cap : Nat} {cs : Array Value} {f : Nat × Nat} {xs : List Value} (hx : w.heap[x]? = some (.cells cs 57 f)) (h : Qs.Is w q c cap xs) : x ≠ q := by
  rintro rfl
  obtain ⟨h1, _⟩ := h
  rw [hx] at h1; cases h1
theorem Lk.chan0 (h : Lk w x u q0 c0 d0 l0 xs0 q1 c1 d1 l1 xs1) (k : Keeps (At c0) w w') {ys : List Value} (hi : Qs.Is w' q0 c0 64 ys) : Lk w' x u q0 c0 d0 l0 ys q1 c1 d1 l1 xs1 := by
  obtain ⟨hx, h0, h1, hq, hc⟩ := h
  exact ⟨(k.block x (lt_of_block hx) (fun e => xc_ne hx h0 e)).trans hx, hi, h1.keep k (fun e => qc_ne h1 h0 e) (fun e => hc e.symm), hq, hc⟩
theorem Lk.chan1 (h : Lk w x u q0 c0 d0 l0 xs0 q1 c1 d1 l1 xs1) (k : Keeps (At c1) w w') {ys : List Value} (hi : Qs.Is w' q1 c1 64 ys) : Lk w' x u q0 c0 d0 l0 xs0 q1 c1 d1 l1 ys := by
  obtain ⟨hx, h0, h1, hq, hc⟩ := h
  exact ⟨(k.block x (lt_of_block hx) (fun e => xc_ne hx h1 e)).trans hx, h0.keep k (fun e => qc_ne h0 h1 e) (fun e => hc e), hi, hq, hc⟩
theorem Lk.blk (h : Lk w x u q0 c0 d0 l0 xs0 q1 c1 d1 l1 xs1) (k : Keeps (At x) w w') {u' : Bool} {d0' l0' d1' l1' : Int} (hb : w'.heap[x]? = some (.cells (lcells u' q0 d0' l0' q1 d1' l1') 57 (0, 0))) : Lk w' x u' q0 c0 d0' l0' xs0 q1 c1 d1' l1' xs1 := by
  obtain ⟨hx, h0, h1, hq, hc⟩ := h
  exact ⟨hb, h0.keep k (fun e => xq_ne hx h0 e.symm) (fun e => xc_ne hx h0 e.symm), h1.keep k (fun e => xq_ne hx h1 e.symm) (fun e => xc_ne hx h1 e.symm), hq, hc⟩
theorem Lk.keep {S : Nat → Prop} (h : Lk w x u q0 c0 d0 l0 xs0 q1 c1 d1 l1 xs1) (k : Keeps S w w') (hS : ∀ g, g < w.heap.size → ¬ S g) : Lk w' x u q0 c0 d0 l0 xs0 q1 c1 d1 l1 xs1 := by
  obtain ⟨hx, h0, h1, hq, hc⟩ := h
  exact ⟨(k.block x (lt_of_block hx) (hS x (lt_of_block hx))).trans hx, h0.keep k (hS _ h0.lt.1) (hS _ h0.lt.2), h1.keep k (hS _ h1.lt.1) (hS _ h1.lt.2), hq, hc⟩
theorem Lk.lt (h : Lk w x u q0 c0 d0 l0 xs0 q1 c1 d1 l1 xs1) : x < w.heap.size ∧ q0 < w.heap.size ∧ c0 < w.heap.size ∧ q1 < w.heap.size ∧ c1 < w.heap.size :=
  ⟨lt_of_block h.1, h.2.1.lt.1, h.2.1.lt.2, h.2.2.1.lt.1, h.2.2.1.lt.2⟩
/-- What turns lies past where the link lay before. -/
theorem Lk.past {ws : World} {u' : Bool} {d0' l0' : Int} {ys0 : List Value} {d1' l1' : Int} {ys1 : List Value} {S : Nat → Prop} (H : Lk ws x u' q0 c0 d0' l0' ys0 q1 c1 d1' l1' ys1)
    (h : Lk w x u q0 c0 d0 l0 xs0 q1 c1 d1 l1 xs1) (k : Keeps S w w') (hS : ∀ g, g < ws.heap.size → ¬ S g) : Lk w' x u q0 c0 d0 l0 xs0 q1 c1 d1 l1 xs1 := by
  obtain ⟨b0, b1, b2, b3, b4⟩ := H.lt
  obtain ⟨hx, h0, h1, hq, hc⟩ := h
  exact ⟨(k.block x (lt_of_block hx) (hS x b0)).trans hx, h0.keep k (hS _ b1) (hS _ b2), h1.keep k (hS _ b3) (hS _ b4), hq, hc⟩
theorem Lk.keepN (h : Lk w x u q0 c0 d0 l0 xs0 q1 c1 d1 l1 xs1) (k : Keeps Nil w w') : Lk w' x u q0 c0 d0 l0 xs0 q1 c1 d1 l1 xs1 := h.keep k (fun _ _ e => e)
end
theorem At.own0 {x c0 c1 : Nat} {w w' : World} (k : Keeps (At c0) w w') : Keeps (Own x c0 c1) w w' := k.mono (fun _ e => .inr (.inl e))
theorem At.own1 {x c0 c1 : Nat} {w w' : World} (k : Keeps (At c1) w w') : Keeps (Own x c0 c1) w w' := k.mono (fun _ e => .inr (.inr e))
theorem At.ownx {x c0 c1 : Nat} {w w' : World} (k : Keeps (At x) w w') : Keeps (Own x c0 c1) w w' := k.mono (fun _ e => .inl e)
theorem seven {w : World} {b : Nat} {T : TypeId} {x0 x1 x2 x3 x4 x5 x6 : Value} (h : w.heap[b]? = some (.cells #[x0, x1, x2, x3, x4, x5, x6] T (0, 0))) :
    (w.cell? ⟨b, 0, Option.none⟩ = some x0 ∧ w.cell? ⟨b, 1, Option.none⟩ = some x1 ∧ w.cell? ⟨b, 2, Option.none⟩ = some x2 ∧ w.cell? ⟨b, 3, Option.none⟩ = some x3 ∧ w.cell? ⟨b, 4, Option.none⟩ = some x4 ∧ w.cell? ⟨b, 5, Option.none⟩ = some x5 ∧ w.cell? ⟨b, 6, Option.none⟩ = some x6) ∧
    w.frozen? ⟨b, 0, Option.none⟩ = false ∧ w.frozen? ⟨b, 2, Option.none⟩ = false ∧ w.frozen? ⟨b, 3, Option.none⟩ = false ∧ w.frozen? ⟨b, 5, Option.none⟩ = false ∧ w.frozen? ⟨b, 6, Option.none⟩ = false := by
  simp [World.cell?, World.frozen?, h]


set_option maxHeartbeats 1000000 in
theorem len0 (x : Nat) (u : Bool) (q0 c0 : Nat) (d0 l0 : Int) (xs0 : List Value) (q1 c1 : Nat) (d1 l1 : Int) (xs1 : List Value) (w : World) (h : Lk w x u q0 c0 d0 l0 xs0 q1 c1 d1 l1 xs1) :
    Calls Try.prog 8 #[.pointer (some ⟨x, 0, Option.none⟩), .int .i64 0] w fun e w' => e = .returned (.int .i64 xs0.length) ∧ Keeps Nil w w' := by
  have H := hid h
  have hxl := lt_of_block h.1
  obtain ⟨⟨a0, a1, a2, a3, a4, a5, a6⟩, f0, f2, f3, f5, f6⟩ := seven h.1
  clear h
  have HQ := hid (H.out.2.1.keep ((Keeps.refl Nil w).alloc (.cells #[.int .i64 0] 3 (0, 0))) (fun e => e) (fun e => e))
  go_enter Try.func8, Try.ntmps8
  go_wp2_with (first | (go_at_call 26; refine (Qs.len_any q0 c0 64 xs0 _ HQ.out).mono ?_; rintro e w' ⟨rfl, rfl⟩) | go_in)
  refine bodyPost_ret (v := .int .i64 xs0.length) (by simp [results, Try.results8, go_sem]) rfl ?_
  exact ⟨rfl, (Keeps.refl _ _).alloc _⟩

set_option maxHeartbeats 1000000 in
theorem come0_some (x : Nat) (u : Bool) (q0 c0 : Nat) (d0 l0 : Int) (xs0 : List Value) (q1 c1 : Nat) (d1 l1 : Int) (xs1 : List Value) (w : World) (h : Lk w x u q0 c0 d0 l0 xs0 q1 c1 d1 l1 xs1) (s : ByteArray) (ys : List Value) (hs : xs0 = .string s :: ys) :
    Calls Try.prog 9 #[.pointer (some ⟨x, 0, Option.none⟩), .int .i64 0] w fun e w' => e = .returned (.tuple #[.string s, .int .i64 0]) ∧ Lk w' x u q0 c0 d0 l0 ys q1 c1 d1 l1 xs1 ∧ Keeps (Own x c0 c1) w w' := by
  have H := hid h
  have hxl := lt_of_block h.1
  obtain ⟨⟨a0, a1, a2, a3, a4, a5, a6⟩, f0, f2, f3, f5, f6⟩ := seven h.1
  clear h
  subst hs
  have k0 : Keeps Nil w (w.alloc (.cells #[.string ⟨#[]⟩] 9 (0, 0))) := (Keeps.refl Nil w).alloc _
  have HL := hid (H.out.keepN k0)
  have K0 := hid k0
  have HQ := hid (HL.out.2.1)
  clear k0
  go_enter Try.func9, Try.ntmps9
  go_wp2_with (first | (go_at_call 28; refine (Qs.pop_some q0 c0 64 _ _ _ HQ.out).mono ?_; rintro e w2 ⟨rfl, i2, k2⟩; have hb := (k2.block w.heap.size (by simp) (fun e => by have := (H.out.2.1).lt.2; rw [At] at e; omega)).trans (alloc_block w _); have hc := cell_of_one hb; have hf := free_of_one hb; have HB := hid hb; clear hb) | go_in)
  have kk : Keeps (At w.heap.size) w2 (w2.setCell ⟨w.heap.size, 0, Option.none⟩ (.string s)) := (Keeps.refl _ _).set _ _ (at_self _) _
  refine bodyPost_ret (v := .tuple #[.string s, .int .i64 0]) (by simp [results, Try.results9, go_sem, *]) rfl ?_
  have hl2 := HL.out.chan0 k2 i2
  exact ⟨rfl, H.out.past hl2 kk (fun g hg e => by rw [At] at e; omega), (K0.out.ofNil.trans (At.own0 k2)).thenAt kk (Nat.le_refl _)⟩

set_option maxHeartbeats 1000000 in
theorem come0_none (x : Nat) (u : Bool) (q0 c0 : Nat) (d0 l0 : Int) (xs0 : List Value) (q1 c1 : Nat) (d1 l1 : Int) (xs1 : List Value) (w : World) (h : Lk w x u q0 c0 d0 l0 xs0 q1 c1 d1 l1 xs1) (hs : xs0 = []) :
    Calls Try.prog 9 #[.pointer (some ⟨x, 0, Option.none⟩), .int .i64 0] w fun e w' => e = .returned (.tuple #[.string ⟨#[]⟩, .int .i64 7]) ∧ Keeps Nil w w' := by
  have H := hid h
  have hxl := lt_of_block h.1
  obtain ⟨⟨a0, a1, a2, a3, a4, a5, a6⟩, f0, f2, f3, f5, f6⟩ := seven h.1
  clear h
  subst hs
  have k0 : Keeps Nil w (w.alloc (.cells #[.string ⟨#[]⟩] 9 (0, 0))) := (Keeps.refl Nil w).alloc _
  have HL := hid (H.out.keepN k0)
  have HQ := hid (HL.out.2.1)
  clear k0
  go_enter Try.func9, Try.ntmps9
  go_wp2_with (first | (go_at_call 28; refine (Qs.pop_none q0 c0 64 _ HQ.out).mono ?_; rintro e w2 ⟨rfl, rfl⟩) | go_in)
  refine bodyPost_ret (v := .tuple #[.string ⟨#[]⟩, .int .i64 7]) (by simp [results, Try.results9, go_sem, *]) rfl ?_
  exact ⟨rfl, (Keeps.refl _ _).alloc _⟩

set_option maxHeartbeats 1000000 in
theorem lose0_some (x : Nat) (u : Bool) (q0 c0 : Nat) (d0 l0 : Int) (xs0 : List Value) (q1 c1 : Nat) (d1 l1 : Int) (xs1 : List Value) (w : World) (h : Lk w x u q0 c0 d0 l0 xs0 q1 c1 d1 l1 xs1) (s : Value) (ys : List Value) (hs : xs0 = s :: ys) (hl : 0 ≤ l0) (hl' : l0 < 1000000) :
    Calls Try.prog 10 #[.pointer (some ⟨x, 0, Option.none⟩), .int .i64 0] w fun e w' => e = .returned (.int .i64 0) ∧ Lk w' x u q0 c0 d0 (l0 + 1) ys q1 c1 d1 l1 xs1 ∧ Keeps (Own x c0 c1) w w' := by
  have H := hid h
  have hxl := lt_of_block h.1
  obtain ⟨⟨a0, a1, a2, a3, a4, a5, a6⟩, f0, f2, f3, f5, f6⟩ := seven h.1
  clear h
  subst hs
  have HQ := hid (H.out.2.1)
  go_enter Try.func10, Try.ntmps10
  go_wp2_with (first | (go_at_call 28; refine (Qs.pop_some q0 c0 64 _ _ _ HQ.out).mono ?_; rintro e w2 ⟨rfl, i2, k2⟩; have hl2 := H.out.chan0 k2 i2; obtain ⟨⟨a0, a1, a2, a3, a4, a5, a6⟩, f0, f2, f3, f5, f6⟩ := seven hl2.1; have HL2 := hid hl2; clear hl2) | go_in)
  go_ret
  have kk : Keeps (At x) w2 (w2.setCell ⟨x, 3, Option.none⟩ (.int .u64 (l0 + 1))) := (Keeps.refl _ _).set _ _ (at_self _) _
  have hb := setCell_block HL2.out.1 3 (.int .u64 (l0 + 1))
  exact ⟨rfl, HL2.out.blk kk hb, (At.own0 k2).trans (At.ownx kk)⟩

set_option maxHeartbeats 1000000 in
theorem lose0_none (x : Nat) (u : Bool) (q0 c0 : Nat) (d0 l0 : Int) (xs0 : List Value) (q1 c1 : Nat) (d1 l1 : Int) (xs1 : List Value) (w : World) (h : Lk w x u q0 c0 d0 l0 xs0 q1 c1 d1 l1 xs1) (hs : xs0 = []) :
    Calls Try.prog 10 #[.pointer (some ⟨x, 0, Option.none⟩), .int .i64 0] w fun e w' => e = .returned (.int .i64 7) ∧ w = w' := by
  have H := hid h
  have hxl := lt_of_block h.1
  obtain ⟨⟨a0, a1, a2, a3, a4, a5, a6⟩, f0, f2, f3, f5, f6⟩ := seven h.1
  clear h
  subst hs
  have HQ := hid (H.out.2.1)
  go_enter Try.func10, Try.ntmps10
  go_wp2_with (first | (go_at_call 28; refine (Qs.pop_none q0 c0 64 _ HQ.out).mono ?_; rintro e w2 ⟨rfl, rfl⟩) | go_in)
  go_ret
  exact ⟨rfl, rfl⟩

set_option maxHeartbeats 1000000 in
theorem lost0 (x : Nat) (u : Bool) (q0 c0 : Nat) (d0 l0 : Int) (xs0 : List Value) (q1 c1 : Nat) (d1 l1 : Int) (xs1 : List Value) (w : World) (h : Lk w x u q0 c0 d0 l0 xs0 q1 c1 d1 l1 xs1) :
    Calls Try.prog 16 #[.pointer (some ⟨x, 0, Option.none⟩), .int .i64 0] w fun e w' => e = .returned (.int .u64 l0) ∧ Keeps Nil w w' := by
  have H := hid h
  have hxl := lt_of_block h.1
  obtain ⟨⟨a0, a1, a2, a3, a4, a5, a6⟩, f0, f2, f3, f5, f6⟩ := seven h.1
  clear h
  go_enter Try.func16, Try.ntmps16
  go_wp2_with (go_in)
  go_ret
  exact ⟨rfl, by repeat' (first | exact Keeps.refl _ _ | refine Keeps.drew ?_ | refine Keeps.alloc ?_ _ | refine Keeps.setCell ?_ (fun h => absurd h (by simp)) _)⟩

set_option maxHeartbeats 1000000 in
theorem dropped0 (x : Nat) (u : Bool) (q0 c0 : Nat) (d0 l0 : Int) (xs0 : List Value) (q1 c1 : Nat) (d1 l1 : Int) (xs1 : List Value) (w : World) (h : Lk w x u q0 c0 d0 l0 xs0 q1 c1 d1 l1 xs1) :
    Calls Try.prog 22 #[.pointer (some ⟨x, 0, Option.none⟩), .int .i64 0] w fun e w' => e = .returned (.int .u64 d0) ∧ Keeps Nil w w' := by
  have H := hid h
  have hxl := lt_of_block h.1
  obtain ⟨⟨a0, a1, a2, a3, a4, a5, a6⟩, f0, f2, f3, f5, f6⟩ := seven h.1
  clear h
  go_enter Try.func22, Try.ntmps22
  go_wp2_with (go_in)
  go_ret
  exact ⟨rfl, by repeat' (first | exact Keeps.refl _ _ | refine Keeps.drew ?_ | refine Keeps.alloc ?_ _ | refine Keeps.setCell ?_ (fun h => absurd h (by simp)) _)⟩

set_option maxHeartbeats 1000000 in
theorem len1 (x : Nat) (u : Bool) (q0 c0 : Nat) (d0 l0 : Int) (xs0 : List Value) (q1 c1 : Nat) (d1 l1 : Int) (xs1 : List Value) (w : World) (h : Lk w x u q0 c0 d0 l0 xs0 q1 c1 d1 l1 xs1) :
    Calls Try.prog 8 #[.pointer (some ⟨x, 0, Option.none⟩), .int .i64 1] w fun e w' => e = .returned (.int .i64 xs1.length) ∧ Keeps Nil w w' := by
  have H := hid h
  have hxl := lt_of_block h.1
  obtain ⟨⟨a0, a1, a2, a3, a4, a5, a6⟩, f0, f2, f3, f5, f6⟩ := seven h.1
  clear h
  have HQ := hid (H.out.2.2.1.keep ((Keeps.refl Nil w).alloc (.cells #[.int .i64 0] 3 (0, 0))) (fun e => e) (fun e => e))
  go_enter Try.func8, Try.ntmps8
  go_wp2_with (first | (go_at_call 26; refine (Qs.len_any q1 c1 64 xs1 _ HQ.out).mono ?_; rintro e w' ⟨rfl, rfl⟩) | go_in)
  refine bodyPost_ret (v := .int .i64 xs1.length) (by simp [results, Try.results8, go_sem]) rfl ?_
  exact ⟨rfl, (Keeps.refl _ _).alloc _⟩

set_option maxHeartbeats 1000000 in
theorem come1_some (x : Nat) (u : Bool) (q0 c0 : Nat) (d0 l0 : Int) (xs0 : List Value) (q1 c1 : Nat) (d1 l1 : Int) (xs1 : List Value) (w : World) (h : Lk w x u q0 c0 d0 l0 xs0 q1 c1 d1 l1 xs1) (s : ByteArray) (ys : List Value) (hs : xs1 = .string s :: ys) :
    Calls Try.prog 9 #[.pointer (some ⟨x, 0, Option.none⟩), .int .i64 1] w fun e w' => e = .returned (.tuple #[.string s, .int .i64 0]) ∧ Lk w' x u q0 c0 d0 l0 xs0 q1 c1 d1 l1 ys ∧ Keeps (Own x c0 c1) w w' := by
  have H := hid h
  have hxl := lt_of_block h.1
  obtain ⟨⟨a0, a1, a2, a3, a4, a5, a6⟩, f0, f2, f3, f5, f6⟩ := seven h.1
  clear h
  subst hs
  have k0 : Keeps Nil w (w.alloc (.cells #[.string ⟨#[]⟩] 9 (0, 0))) := (Keeps.refl Nil w).alloc _
  have HL := hid (H.out.keepN k0)
  have K0 := hid k0
  have HQ := hid (HL.out.2.2.1)
  clear k0
  go_enter Try.func9, Try.ntmps9
  go_wp2_with (first | (go_at_call 28; refine (Qs.pop_some q1 c1 64 _ _ _ HQ.out).mono ?_; rintro e w2 ⟨rfl, i2, k2⟩; have hb := (k2.block w.heap.size (by simp) (fun e => by have := (H.out.2.2.1).lt.2; rw [At] at e; omega)).trans (alloc_block w _); have hc := cell_of_one hb; have hf := free_of_one hb; have HB := hid hb; clear hb) | go_in)
  have kk : Keeps (At w.heap.size) w2 (w2.setCell ⟨w.heap.size, 0, Option.none⟩ (.string s)) := (Keeps.refl _ _).set _ _ (at_self _) _
  refine bodyPost_ret (v := .tuple #[.string s, .int .i64 0]) (by simp [results, Try.results9, go_sem, *]) rfl ?_
  have hl2 := HL.out.chan1 k2 i2
  exact ⟨rfl, H.out.past hl2 kk (fun g hg e => by rw [At] at e; omega), (K0.out.ofNil.trans (At.own1 k2)).thenAt kk (Nat.le_refl _)⟩

set_option maxHeartbeats 1000000 in
theorem come1_none (x : Nat) (u : Bool) (q0 c0 : Nat) (d0 l0 : Int) (xs0 : List Value) (q1 c1 : Nat) (d1 l1 : Int) (xs1 : List Value) (w : World) (h : Lk w x u q0 c0 d0 l0 xs0 q1 c1 d1 l1 xs1) (hs : xs1 = []) :
    Calls Try.prog 9 #[.pointer (some ⟨x, 0, Option.none⟩), .int .i64 1] w fun e w' => e = .returned (.tuple #[.string ⟨#[]⟩, .int .i64 7]) ∧ Keeps Nil w w' := by
  have H := hid h
  have hxl := lt_of_block h.1
  obtain ⟨⟨a0, a1, a2, a3, a4, a5, a6⟩, f0, f2, f3, f5, f6⟩ := seven h.1
  clear h
  subst hs
  have k0 : Keeps Nil w (w.alloc (.cells #[.string ⟨#[]⟩] 9 (0, 0))) := (Keeps.refl Nil w).alloc _
  have HL := hid (H.out.keepN k0)
  have HQ := hid (HL.out.2.2.1)
  clear k0
  go_enter Try.func9, Try.ntmps9
  go_wp2_with (first | (go_at_call 28; refine (Qs.pop_none q1 c1 64 _ HQ.out).mono ?_; rintro e w2 ⟨rfl, rfl⟩) | go_in)
  refine bodyPost_ret (v := .tuple #[.string ⟨#[]⟩, .int .i64 7]) (by simp [results, Try.results9, go_sem, *]) rfl ?_
  exact ⟨rfl, (Keeps.refl _ _).alloc _⟩

set_option maxHeartbeats 1000000 in
theorem lose1_some (x : Nat) (u : Bool) (q0 c0 : Nat) (d0 l0 : Int) (xs0 : List Value) (q1 c1 : Nat) (d1 l1 : Int) (xs1 : List Value) (w : World) (h : Lk w x u q0 c0 d0 l0 xs0 q1 c1 d1 l1 xs1) (s : Value) (ys : List Value) (hs : xs1 = s :: ys) (hl : 0 ≤ l1) (hl' : l1 < 1000000) :
    Calls Try.prog 10 #[.pointer (some ⟨x, 0, Option.none⟩), .int .i64 1] w fun e w' => e = .returned (.int .i64 0) ∧ Lk w' x u q0 c0 d0 l0 xs0 q1 c1 d1 (l1 + 1) ys ∧ Keeps (Own x c0 c1) w w' := by
  have H := hid h
  have hxl := lt_of_block h.1
  obtain ⟨⟨a0, a1, a2, a3, a4, a5, a6⟩, f0, f2, f3, f5, f6⟩ := seven h.1
  clear h
  subst hs
  have HQ := hid (H.out.2.2.1)
  go_enter Try.func10, Try.ntmps10
  go_wp2_with (first | (go_at_call 28; refine (Qs.pop_some q1 c1 64 _ _ _ HQ.out).mono ?_; rintro e w2 ⟨rfl, i2, k2⟩; have hl2 := H.out.chan1 k2 i2; obtain ⟨⟨a0, a1, a2, a3, a4, a5, a6⟩, f0, f2, f3, f5, f6⟩ := seven hl2.1; have HL2 := hid hl2; clear hl2) | go_in)
  go_ret
  have kk : Keeps (At x) w2 (w2.setCell ⟨x, 6, Option.none⟩ (.int .u64 (l1 + 1))) := (Keeps.refl _ _).set _ _ (at_self _) _
  have hb := setCell_block HL2.out.1 6 (.int .u64 (l1 + 1))
  exact ⟨rfl, HL2.out.blk kk hb, (At.own1 k2).trans (At.ownx kk)⟩

set_option maxHeartbeats 1000000 in
theorem lose1_none (x : Nat) (u : Bool) (q0 c0 : Nat) (d0 l0 : Int) (xs0 : List Value) (q1 c1 : Nat) (d1 l1 : Int) (xs1 : List Value) (w : World) (h : Lk w x u q0 c0 d0 l0 xs0 q1 c1 d1 l1 xs1) (hs : xs1 = []) :
    Calls Try.prog 10 #[.pointer (some ⟨x, 0, Option.none⟩), .int .i64 1] w fun e w' => e = .returned (.int .i64 7) ∧ w = w' := by
  have H := hid h
  have hxl := lt_of_block h.1
  obtain ⟨⟨a0, a1, a2, a3, a4, a5, a6⟩, f0, f2, f3, f5, f6⟩ := seven h.1
  clear h
  subst hs
  have HQ := hid (H.out.2.2.1)
  go_enter Try.func10, Try.ntmps10
  go_wp2_with (first | (go_at_call 28; refine (Qs.pop_none q1 c1 64 _ HQ.out).mono ?_; rintro e w2 ⟨rfl, rfl⟩) | go_in)
  go_ret
  exact ⟨rfl, rfl⟩

set_option maxHeartbeats 1000000 in
theorem lost1 (x : Nat) (u : Bool) (q0 c0 : Nat) (d0 l0 : Int) (xs0 : List Value) (q1 c1 : Nat) (d1 l1 : Int) (xs1 : List Value) (w : World) (h : Lk w x u q0 c0 d0 l0 xs0 q1 c1 d1 l1 xs1) :
    Calls Try.prog 16 #[.pointer (some ⟨x, 0, Option.none⟩), .int .i64 1] w fun e w' => e = .returned (.int .u64 l1) ∧ Keeps Nil w w' := by
  have H := hid h
  have hxl := lt_of_block h.1
  obtain ⟨⟨a0, a1, a2, a3, a4, a5, a6⟩, f0, f2, f3, f5, f6⟩ := seven h.1
  clear h
  go_enter Try.func16, Try.ntmps16
  go_wp2_with (go_in)
  go_ret
  exact ⟨rfl, by repeat' (first | exact Keeps.refl _ _ | refine Keeps.drew ?_ | refine Keeps.alloc ?_ _ | refine Keeps.setCell ?_ (fun h => absurd h (by simp)) _)⟩

set_option maxHeartbeats 1000000 in
theorem dropped1 (x : Nat) (u : Bool) (q0 c0 : Nat) (d0 l0 : Int) (xs0 : List Value) (q1 c1 : Nat) (d1 l1 : Int) (xs1 : List Value) (w : World) (h : Lk w x u q0 c0 d0 l0 xs0 q1 c1 d1 l1 xs1) :
    Calls Try.prog 22 #[.pointer (some ⟨x, 0, Option.none⟩), .int .i64 1] w fun e w' => e = .returned (.int .u64 d1) ∧ Keeps Nil w w' := by
  have H := hid h
  have hxl := lt_of_block h.1
  obtain ⟨⟨a0, a1, a2, a3, a4, a5, a6⟩, f0, f2, f3, f5, f6⟩ := seven h.1
  clear h
  go_enter Try.func22, Try.ntmps22
  go_wp2_with (go_in)
  go_ret
  exact ⟨rfl, by repeat' (first | exact Keeps.refl _ _ | refine Keeps.drew ?_ | refine Keeps.alloc ?_ _ | refine Keeps.setCell ?_ (fun h => absurd h (by simp)) _)⟩

end Go.Proofs.Ytljfpihfffhpjaa