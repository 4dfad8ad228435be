/-
  The contracts of link.Link, further: New, Down; ends that there are not; no link. No condition but that it lies so.
-/
import Derived.Test.YtljfpihfffhpjaaLink2
namespace Go.Proofs.Ytljfpihfffhpjaa
open Go.RowKit Go.Conc
set_option linter.unusedVariables false

theorem frees {w : World} {b : Nat} {cs : Array Value} {T : TypeId} (h : w.heap[b]? = some (.cells cs T (0, 0))) (i : Nat) : w.frozen? ⟨b, i, Option.none⟩ = false := by
  simp [World.frozen?, h]

set_option maxHeartbeats 1000000 in
theorem down_any (x : Nat) (u : Bool) (q0 c0 : Nat) (d0 l0 : Int) (xs0 : List Value) (q1 c1 : Nat) (d1 l1 : Int) (xs1 : List Value) (w : World) (h : Lk w x u q0 c0 d0 l0 xs0 q1 c1 d1 l1 xs1) (h0 : xs0.length ≤ 64) (h1 : xs1.length ≤ 64) (hl0 : 0 ≤ l0) (hl0' : l0 < 1000000) (hl1 : 0 ≤ l1) (hl1' : l1 < 1000000) :
    Calls Try.prog 12 #[.pointer (some ⟨x, 0, Option.none⟩)] w fun e w' => e = .returned (.int .i64 (xs0.length + xs1.length : Nat)) ∧ Lk w' x false q0 c0 d0 (l0 + xs0.length) [] q1 c1 d1 (l1 + xs1.length) [] ∧ Keeps (Own x c0 c1) w w' := by
  have H := hid h
  have hxl := lt_of_block h.1
  obtain ⟨⟨a0, a1, a2, a3, a4, a5, a6⟩, f0, f2, f3, f5, f6⟩ := seven h.1
  clear h
  have kk : Keeps (At x) w (w.setCell ⟨x, 0, Option.none⟩ (.bool false)) := (Keeps.refl _ _).set _ _ (at_self _) _
  have HA := hid (H.out.blk kk (setCell_block H.out.1 0 (.bool false)))
  have KA := hid kk
  clear kk
  go_enter Try.func12, Try.ntmps12
  go_wp2_with fail
  refine wp_loop_rounds 3 ?_
  rw [rounds_succ]
  go_wp2_with fail
  refine (Qs.clear_any q0 c0 64 xs0 _ (HA.out.2.1) (by omega)).mono ?_; rintro e wc0 ⟨rfl, i0, k0⟩
  have HC0 := hid (HA.out.chan0 k0 i0)
  obtain ⟨⟨a0, a1, a2, a3, a4, a5, a6⟩, f0, f2, f3, f5, f6⟩ := seven HC0.out.1
  go_wp2_with fail
  go_region
  go_wp2_with fail
  have k1 : Keeps (At x) wc0 (wc0.setCell ⟨x, 3, Option.none⟩ (.int .u64 (l0 + xs0.length))) := (Keeps.refl _ _).set _ _ (at_self _) _
  have HB := hid (HC0.out.blk (k1.drew) (setCell_block HC0.out.1 3 (.int .u64 (l0 + xs0.length))))
  have KB := hid ((At.ownx (c0 := c0) (c1 := c1) KA.out).trans ((At.own0 k0).trans (At.ownx k1.drew)))
  clear k1 k0 i0
  rw [rounds_succ]
  go_wp2_with fail
  refine (Qs.clear_any q1 c1 64 xs1 _ (HB.out.2.2.1) (by omega)).mono ?_; rintro e wc1 ⟨rfl, i1, k1⟩
  have HC1 := hid (HB.out.chan1 k1 i1)
  obtain ⟨⟨a0, a1, a2, a3, a4, a5, a6⟩, f0, f2, f3, f5, f6⟩ := seven HC1.out.1
  go_wp2_with fail
  go_region
  go_wp2_with fail
  rw [rounds_succ]
  go_wp2_with fail
  go_ret
  have kz : Keeps (At x) wc1 (wc1.setCell ⟨x, 6, Option.none⟩ (.int .u64 (l1 + xs1.length))) := (Keeps.refl _ _).set _ _ (at_self _) _
  have hz := HC1.out.blk (kz.drew) (setCell_block HC1.out.1 6 (.int .u64 (l1 + xs1.length)))
  exact ⟨by simp, hz, KB.out.trans ((At.own1 k1).trans (At.ownx kz.drew))⟩

set_option maxHeartbeats 1000000 in
theorem new_any (w : World) : Calls Try.prog 7 #[] w fun e w' => ∃ x q0 c0 q1 c1, e = .returned (.pointer (some ⟨x, 0, Option.none⟩)) ∧ Lk w' x false q0 c0 0 0 [] q1 c1 0 0 [] ∧ w.heap.size ≤ x ∧ w.heap.size ≤ c0 ∧ w.heap.size ≤ c1 ∧ Keeps Nil w w' := by
  go_enter Try.func7, Try.ntmps7
  go_wp2_with fail
  refine wp_loop_rounds 3 ?_
  rw [rounds_succ]
  go_wp2_with fail
  go_region_held3 (fun w' => True) (trivial) ((go_at_call 23; refine (Qs.new_ok 64 _ (by omega) (by omega)).mono ?_; rintro e w1 ⟨q0, c0, rfl, i0, hq0, hc0, k0⟩; have hb0 := (k0.block w.heap.size (by simp) (fun e => e)).trans (alloc_block w _); have f1 := frees hb0 1; obtain ⟨⟨a0, a1, a2, a3, a4, a5, a6⟩, _⟩ := seven hb0; have HB0 := hid hb0; clear hb0))
  have kx0 : Keeps (At w.heap.size) w1 (w1.setCell ⟨w.heap.size, 1, Option.none⟩ (.pointer (some ⟨q0, 0, Option.none⟩))) := (Keeps.refl _ _).set _ _ (at_self _) _
  simp at hq0 hc0
  have j0 := i0.keep kx0 (fun e => by rw [At] at e; omega) (fun e => by rw [At] at e; omega)
  have hb1 := setCell_block HB0.out 1 (.pointer (some ⟨q0, 0, Option.none⟩))
  have HB1 := hid hb1
  have J0 := hid j0
  have HX : Hid (w.heap.size < w1.heap.size) := hid (by have := k0.size; simp at this; omega)
  have KW := hid ((((Keeps.refl Nil w).alloc _).drew.trans k0).thenAt kx0 (Nat.le_refl _))
  clear hb1 j0 i0 kx0 a0 a1 a2 a3 a4 a5 a6 f1 k0
  go_wp2_with fail
  rw [rounds_succ]
  go_wp2_with fail
  go_region_held3 (fun w' => True) (trivial) ((go_at_call 23; refine (Qs.new_ok 64 _ (by omega) (by omega)).mono ?_; rintro e w2 ⟨q1, c1, rfl, i1, hq1, hc1, k1⟩; have hb0 := (k1.block w.heap.size (by simp [World.setCell]; have := HX.out; omega) (fun e => e)).trans HB1.out; have f4 := frees hb0 4; obtain ⟨⟨a0, a1, a2, a3, a4, a5, a6⟩, _⟩ := seven hb0; have HB2 := hid hb0; clear hb0))
  have kx1 : Keeps (At w.heap.size) w2 (w2.setCell ⟨w.heap.size, 4, Option.none⟩ (.pointer (some ⟨q1, 0, Option.none⟩))) := (Keeps.refl _ _).set _ _ (at_self _) _
  simp [World.setCell] at hq1 hc1
  have l0 := J0.out.lt
  simp [World.setCell] at l0
  have hx := HX.out
  have j0 := (J0.out.keep (Keeps.drew (Keeps.refl Nil _)) (fun e => e) (fun e => e)).keep k1 (fun e => e) (fun e => e)
  have j0' := j0.keep kx1 (fun e => by rw [At] at e; omega) (fun e => by rw [At] at e; omega)
  have j1' := i1.keep kx1 (fun e => by rw [At] at e; omega) (fun e => by rw [At] at e; omega)
  have hb := setCell_block HB2.out 4 (.pointer (some ⟨q1, 0, Option.none⟩))
  have hl : Lk (w2.setCell ⟨w.heap.size, 4, Option.none⟩ (.pointer (some ⟨q1, 0, Option.none⟩))) w.heap.size false q0 c0 0 0 [] q1 c1 0 0 [] := ⟨hb, j0', j1', by omega, by omega⟩
  have HL := hid hl
  have KZ := hid ((KW.out.drew.trans k1).thenAt kx1 (Nat.le_refl _))
  clear hl hb j0 j0' j1' kx1 k1 i1
  go_wp2_with fail
  rw [rounds_succ]
  go_wp2_with fail
  go_ret
  exact ⟨_, q0, c0, q1, c1, rfl, HL.out, Nat.le_refl _, by omega, by omega, KZ.out⟩

end Go.Proofs.Ytljfpihfffhpjaa