/-
  The document's link (layer 23): Lose; Down. Conditions: the frames lie in their cells.
-/
import Derived.Test.YtljfpihfffhpjaaRLink2
import Derived.Deep.DrawnRows
namespace Go.Proofs.Ytljfpihfffhpjaa
open Go.RowKit Go.Conc
set_option linter.unusedVariables false
theorem sevenf {w : World} {b : Nat} {T : TypeId} {x0 x1 x2 x3 x4 x5 x6 : Value} (h : w.heap[b]? = some (.cells #[x0, x1, x2, x3, x4, x5, x6] T (0, 0))) :
    w.frozen? ⟨b, 0, Option.none⟩ = false ∧ w.frozen? ⟨b, 1, Option.none⟩ = false ∧ w.frozen? ⟨b, 2, Option.none⟩ = false ∧ w.frozen? ⟨b, 3, Option.none⟩ = false ∧ w.frozen? ⟨b, 4, Option.none⟩ = false ∧ w.frozen? ⟨b, 5, Option.none⟩ = false ∧ w.frozen? ⟨b, 6, Option.none⟩ = false := by
  simp [World.frozen?, h]
/-- An empty link's cells. -/
abbrev nocells : Obj := .cells #[.bool false, .slice Option.none 0 0, .slice Option.none 0 0, .int .i64 0, .int .i64 0, .int .i64 0, .int .i64 0] 43 (0, 0)
theorem wrap_less (x : Int) (h1 : 0 ≤ x) (h2 : x < 10000000) : IntKind.i64.wrap x = x := by
  rw [IntKind.wrap_i64]; omega

/-- A block of seven cells that is written anew. -/
theorem set7 {W : World} {b : Nat} {T : TypeId} {x0 x1 x2 x3 x4 x5 x6 : Value} (h : W.heap[b]? = some (.cells #[x0, x1, x2, x3, x4, x5, x6] T (0, 0))) (v0 v1 v2 v3 v4 v5 v6 : Value) :
    ∃ W7, (((((((W.setCell ⟨b, 0, Option.none⟩ v0).setCell ⟨b, 1, Option.none⟩ v1).setCell ⟨b, 2, Option.none⟩ v2).setCell ⟨b, 3, Option.none⟩ v3).setCell ⟨b, 4, Option.none⟩ v4).setCell ⟨b, 5, Option.none⟩ v5).setCell ⟨b, 6, Option.none⟩ v6) = W7 ∧
      W7.heap[b]? = some (.cells #[v0, v1, v2, v3, v4, v5, v6] T (0, 0)) ∧ Keeps (At b) W W7 := by
  have h0 : (W.setCell ⟨b, 0, Option.none⟩ v0).heap[b]? = some (.cells #[v0, x1, x2, x3, x4, x5, x6] T (0, 0)) := setCell_block h 0 v0
  have h1 : ((W.setCell ⟨b, 0, Option.none⟩ v0).setCell ⟨b, 1, Option.none⟩ v1).heap[b]? = some (.cells #[v0, v1, x2, x3, x4, x5, x6] T (0, 0)) := setCell_block h0 1 v1
  have h2 : (((W.setCell ⟨b, 0, Option.none⟩ v0).setCell ⟨b, 1, Option.none⟩ v1).setCell ⟨b, 2, Option.none⟩ v2).heap[b]? = some (.cells #[v0, v1, v2, x3, x4, x5, x6] T (0, 0)) := setCell_block h1 2 v2
  have h3 : ((((W.setCell ⟨b, 0, Option.none⟩ v0).setCell ⟨b, 1, Option.none⟩ v1).setCell ⟨b, 2, Option.none⟩ v2).setCell ⟨b, 3, Option.none⟩ v3).heap[b]? = some (.cells #[v0, v1, v2, v3, x4, x5, x6] T (0, 0)) := setCell_block h2 3 v3
  have h4 : (((((W.setCell ⟨b, 0, Option.none⟩ v0).setCell ⟨b, 1, Option.none⟩ v1).setCell ⟨b, 2, Option.none⟩ v2).setCell ⟨b, 3, Option.none⟩ v3).setCell ⟨b, 4, Option.none⟩ v4).heap[b]? = some (.cells #[v0, v1, v2, v3, v4, x5, x6] T (0, 0)) := setCell_block h3 4 v4
  have h5 : ((((((W.setCell ⟨b, 0, Option.none⟩ v0).setCell ⟨b, 1, Option.none⟩ v1).setCell ⟨b, 2, Option.none⟩ v2).setCell ⟨b, 3, Option.none⟩ v3).setCell ⟨b, 4, Option.none⟩ v4).setCell ⟨b, 5, Option.none⟩ v5).heap[b]? = some (.cells #[v0, v1, v2, v3, v4, v5, x6] T (0, 0)) := setCell_block h4 5 v5
  have h6 : (((((((W.setCell ⟨b, 0, Option.none⟩ v0).setCell ⟨b, 1, Option.none⟩ v1).setCell ⟨b, 2, Option.none⟩ v2).setCell ⟨b, 3, Option.none⟩ v3).setCell ⟨b, 4, Option.none⟩ v4).setCell ⟨b, 5, Option.none⟩ v5).setCell ⟨b, 6, Option.none⟩ v6).heap[b]? = some (.cells #[v0, v1, v2, v3, v4, v5, v6] T (0, 0)) := setCell_block h5 6 v6
  refine ⟨_, rfl, h6, ?_⟩
  · exact ((((((((Keeps.refl (At b) W).set b 0 (at_self b) v0).set b 1 (at_self b) v1).set b 2 (at_self b) v2).set b 3 (at_self b) v3).set b 4 (at_self b) v4).set b 5 (at_self b) v5).set b 6 (at_self b) v6)

set_option maxHeartbeats 2000000 in
theorem rlose0_none (u : Bool) (p0 : Option Addr) (n0 k0 : Nat) (p1 : Option Addr) (n1 k1 : Nat) (a0 a1 b0 b1 : Int) (w : World) : Calls Try.prog 19 #[rlink u p0 0 k0 p1 n1 k1 a0 a1 b0 b1, .int .i64 0] w fun ee w' => ee = .returned (.tuple #[rlink u p0 0 k0 p1 n1 k1 a0 a1 b0 b1, .int .i64 7]) ∧ Keeps Nil w w' := by
  obtain ⟨hA, hB⟩ := two_allocs w (.cells #[Value.bool u, Value.slice p0 0 k0, Value.slice p1 n1 k1, Value.int IntKind.i64 a0, Value.int IntKind.i64 a1, Value.int IntKind.i64 b0, Value.int IntKind.i64 b1] 43 (0, 0)) nocells
  have HB := hid hB
  clear hA hB
  go_enter Try.func19, Try.ntmps19
  go_wp2_with fail
  refine (rcome0_none u p0 n0 k0 p1 n1 k1 a0 a1 b0 b1 _).mono ?_; rintro ee w' ⟨rfl, kz⟩
  have hb := kz.lies HB.out
  go_upto_region 2 with (fail)
  have kx : Keeps Nil w' (w'.alloc (Obj.cells #[Value.bool u, Value.slice p0 0 k0, Value.slice p1 n1 k1, Value.int IntKind.i64 a0, Value.int IntKind.i64 a1, Value.int IntKind.i64 b0, Value.int IntKind.i64 b1] 43)) := (Keeps.refl _ _).alloc _
  have hb4 := kx.lies hb
  have h6 := alloc_block w' (Obj.cells #[Value.bool u, Value.slice p0 0 k0, Value.slice p1 n1 k1, Value.int IntKind.i64 a0, Value.int IntKind.i64 a1, Value.int IntKind.i64 b0, Value.int IntKind.i64 b1] 43)
  generalize (w'.alloc (Obj.cells #[Value.bool u, Value.slice p0 0 k0, Value.slice p1 n1 k1, Value.int IntKind.i64 a0, Value.int IntKind.i64 a1, Value.int IntKind.i64 b0, Value.int IntKind.i64 b1] 43)) = W at *
  have hb6 : w.heap.size + 2 ≤ w'.heap.size := by have := kz.size; simpa using this
  generalize w'.heap.size = b6 at *
  generalize hb4e : w.heap.size + 1 = b4 at *
  have hne : b4 ≠ b6 := by omega
  have h4w : w.heap.size ≤ b4 := by omega
  have h6w : w.heap.size ≤ b6 := by omega
  have HKZ := hid (((Keeps.refl Nil w).alloc _).alloc _ |>.trans (kz.trans kx))
  obtain ⟨⟨y0, y1, y2, y3, y4, y5, y6⟩, _⟩ := seven h6
  obtain ⟨z0, z1, z2, z3, z4, z5, z6⟩ := sevenf hb4
  obtain ⟨t0, t1, t2, t3, t4, t5, t6⟩ := sevenf h6
  obtain ⟨⟨x0, x1, x2, x3, x4, x5, x6⟩, _⟩ := seven hb4
  have HB4 := hid hb4
  have HN := hid (And.intro hne (And.intro h4w h6w))
  clear hb hb4 h6 HB kz kx hb4e hb6 h4w h6w
  go_wp2_with fail
  obtain ⟨W7, hW7, hF, hK⟩ := set7 HB4.out (.bool u) (.slice p0 0 k0) (.slice p1 n1 k1) (.int .i64 a0) (.int .i64 a1) (.int .i64 b0) (.int .i64 b1)
  rw [hW7]
  obtain ⟨⟨f0, f1, f2, f3, f4, f5, f6⟩, _⟩ := seven hF
  clear y0 y1 y2 y3 y4 y5 y6 z0 z1 z2 z3 z4 z5 z6 t0 t1 t2 t3 t4 t5 t6 x0 x1 x2 x3 x4 x5 x6 hW7 hF hne
  refine bodyPost_ret (v := .tuple #[rlink u p0 0 k0 p1 n1 k1 a0 a1 b0 b1, .int .i64 7]) (by simp [results, Try.results19, go_sem, f0, f1, f2, f3, f4, f5, f6]) rfl ?_
  exact ⟨rfl, HKZ.out.thenAt hK HN.out.2.1⟩

set_option maxHeartbeats 2000000 in
theorem rlose0_some (B g o n k : Nat) (s : ByteArray) (ys : List Value) (u : Bool) (p0 : Option Addr) (n0 k0 : Nat) (p1 : Option Addr) (n1 k1 : Nat) (a0 a1 b0 b1 : Int) (w : World) (hv : View w B (some ⟨g, o, Option.none⟩) (n + 1) k (.string s :: ys)) (hm : n ≤ 64) (hl : 0 ≤ b0) (hl' : b0 < 1000000) :
    Calls Try.prog 19 #[rlink u (some ⟨g, o, Option.none⟩) (n + 1) k p1 n1 k1 a0 a1 b0 b1, .int .i64 0] w fun ee w' => (∃ p k', ee = .returned (.tuple #[rlink u p n k' p1 n1 k1 a0 a1 (b0 + 1) b1, .int .i64 0]) ∧ ∀ W, View W B (some ⟨g, o, Option.none⟩) (n + 1) k (.string s :: ys) → View W B p n k' ys) ∧ Keeps Nil w w' := by
  obtain ⟨hA, hB⟩ := two_allocs w (.cells #[Value.bool u, Value.slice (some ⟨g, o, Option.none⟩) (n + 1) k, Value.slice p1 n1 k1, Value.int IntKind.i64 a0, Value.int IntKind.i64 a1, Value.int IntKind.i64 b0, Value.int IntKind.i64 b1] 43 (0, 0)) nocells
  have HB := hid hB
  have HV := hid (hv.keepN (((Keeps.refl Nil w).alloc (.cells #[Value.bool u, Value.slice (some ⟨g, o, Option.none⟩) (n + 1) k, Value.slice p1 n1 k1, Value.int IntKind.i64 a0, Value.int IntKind.i64 a1, Value.int IntKind.i64 b0, Value.int IntKind.i64 b1] 43 (0, 0))).alloc nocells))
  clear hA hB hv
  have hw := wrap_less (b0 + 1) (by omega) (by omega)
  go_enter Try.func19, Try.ntmps19
  go_wp2_with fail
  refine (rcome0_some B g o n k s ys u p0 n0 k0 p1 n1 k1 a0 a1 b0 b1 _ HV.out hm).mono ?_; rintro ee w' ⟨⟨p, k', rfl, vz⟩, kz⟩
  have VZ := hid vz
  clear vz HV
  have hb := kz.lies HB.out
  go_upto_region 2 with (fail)
  have kx : Keeps Nil w' (w'.alloc (Obj.cells #[Value.bool u, Value.slice p n k', Value.slice p1 n1 k1, Value.int IntKind.i64 a0, Value.int IntKind.i64 a1, Value.int IntKind.i64 b0, Value.int IntKind.i64 b1] 43)) := (Keeps.refl _ _).alloc _
  have hb4 := kx.lies hb
  have h6 := alloc_block w' (Obj.cells #[Value.bool u, Value.slice p n k', Value.slice p1 n1 k1, Value.int IntKind.i64 a0, Value.int IntKind.i64 a1, Value.int IntKind.i64 b0, Value.int IntKind.i64 b1] 43)
  generalize (w'.alloc (Obj.cells #[Value.bool u, Value.slice p n k', Value.slice p1 n1 k1, Value.int IntKind.i64 a0, Value.int IntKind.i64 a1, Value.int IntKind.i64 b0, Value.int IntKind.i64 b1] 43)) = W at *
  have hb6 : w.heap.size + 2 ≤ w'.heap.size := by have := kz.size; simpa using this
  generalize w'.heap.size = b6 at *
  generalize hb4e : w.heap.size + 1 = b4 at *
  have hne : b4 ≠ b6 := by omega
  have h4w : w.heap.size ≤ b4 := by omega
  have h6w : w.heap.size ≤ b6 := by omega
  have HKZ := hid (((Keeps.refl Nil w).alloc _).alloc _ |>.trans (kz.trans kx))
  obtain ⟨⟨y0, y1, y2, y3, y4, y5, y6⟩, _⟩ := seven h6
  obtain ⟨z0, z1, z2, z3, z4, z5, z6⟩ := sevenf hb4
  obtain ⟨t0, t1, t2, t3, t4, t5, t6⟩ := sevenf h6
  obtain ⟨⟨x0, x1, x2, x3, x4, x5, x6⟩, _⟩ := seven hb4
  have HB4 := hid hb4
  have HN := hid (And.intro hne (And.intro h4w h6w))
  clear hb hb4 h6 HB kz kx hb4e hb6 h4w h6w
  go_wp2_with fail
  have k5 : Keeps (At b6) W (W.setCell ⟨b6, 5, Option.none⟩ (.int .i64 (b0 + 1))) := (Keeps.refl _ _).set _ _ (at_self _) _
  obtain ⟨W7, hW7, hF, hK⟩ := set7 (k5.lies HB4.out (fun e => hne e)) (.bool u) (.slice p n k') (.slice p1 n1 k1) (.int .i64 a0) (.int .i64 a1) (.int .i64 (b0 + 1)) (.int .i64 b1)
  rw [hW7]
  obtain ⟨⟨f0, f1, f2, f3, f4, f5, f6⟩, _⟩ := seven hF
  clear y0 y1 y2 y3 y4 y5 y6 z0 z1 z2 z3 z4 z5 z6 t0 t1 t2 t3 t4 t5 t6 x0 x1 x2 x3 x4 x5 x6 hW7 hF hne
  refine bodyPost_ret (v := .tuple #[rlink u p n k' p1 n1 k1 a0 a1 (b0 + 1) b1, .int .i64 0]) (by simp [results, Try.results19, go_sem, f0, f1, f2, f3, f4, f5, f6]) rfl ?_
  have K := (HKZ.out.thenAt k5 HN.out.2.2).thenAt hK HN.out.2.1
  exact ⟨⟨p, k', rfl, VZ.out⟩, K⟩

set_option maxHeartbeats 2000000 in
theorem rlose1_none (u : Bool) (p0 : Option Addr) (n0 k0 : Nat) (p1 : Option Addr) (n1 k1 : Nat) (a0 a1 b0 b1 : Int) (w : World) : Calls Try.prog 19 #[rlink u p0 n0 k0 p1 0 k1 a0 a1 b0 b1, .int .i64 1] w fun ee w' => ee = .returned (.tuple #[rlink u p0 n0 k0 p1 0 k1 a0 a1 b0 b1, .int .i64 7]) ∧ Keeps Nil w w' := by
  obtain ⟨hA, hB⟩ := two_allocs w (.cells #[Value.bool u, Value.slice p0 n0 k0, Value.slice p1 0 k1, Value.int IntKind.i64 a0, Value.int IntKind.i64 a1, Value.int IntKind.i64 b0, Value.int IntKind.i64 b1] 43 (0, 0)) nocells
  have HB := hid hB
  clear hA hB
  go_enter Try.func19, Try.ntmps19
  go_wp2_with fail
  refine (rcome1_none u p0 n0 k0 p1 n1 k1 a0 a1 b0 b1 _).mono ?_; rintro ee w' ⟨rfl, kz⟩
  have hb := kz.lies HB.out
  go_upto_region 2 with (fail)
  have kx : Keeps Nil w' (w'.alloc (Obj.cells #[Value.bool u, Value.slice p0 n0 k0, Value.slice p1 0 k1, Value.int IntKind.i64 a0, Value.int IntKind.i64 a1, Value.int IntKind.i64 b0, Value.int IntKind.i64 b1] 43)) := (Keeps.refl _ _).alloc _
  have hb4 := kx.lies hb
  have h6 := alloc_block w' (Obj.cells #[Value.bool u, Value.slice p0 n0 k0, Value.slice p1 0 k1, Value.int IntKind.i64 a0, Value.int IntKind.i64 a1, Value.int IntKind.i64 b0, Value.int IntKind.i64 b1] 43)
  generalize (w'.alloc (Obj.cells #[Value.bool u, Value.slice p0 n0 k0, Value.slice p1 0 k1, Value.int IntKind.i64 a0, Value.int IntKind.i64 a1, Value.int IntKind.i64 b0, Value.int IntKind.i64 b1] 43)) = W at *
  have hb6 : w.heap.size + 2 ≤ w'.heap.size := by have := kz.size; simpa using this
  generalize w'.heap.size = b6 at *
  generalize hb4e : w.heap.size + 1 = b4 at *
  have hne : b4 ≠ b6 := by omega
  have h4w : w.heap.size ≤ b4 := by omega
  have h6w : w.heap.size ≤ b6 := by omega
  have HKZ := hid (((Keeps.refl Nil w).alloc _).alloc _ |>.trans (kz.trans kx))
  obtain ⟨⟨y0, y1, y2, y3, y4, y5, y6⟩, _⟩ := seven h6
  obtain ⟨z0, z1, z2, z3, z4, z5, z6⟩ := sevenf hb4
  obtain ⟨t0, t1, t2, t3, t4, t5, t6⟩ := sevenf h6
  obtain ⟨⟨x0, x1, x2, x3, x4, x5, x6⟩, _⟩ := seven hb4
  have HB4 := hid hb4
  have HN := hid (And.intro hne (And.intro h4w h6w))
  clear hb hb4 h6 HB kz kx hb4e hb6 h4w h6w
  go_wp2_with fail
  obtain ⟨W7, hW7, hF, hK⟩ := set7 HB4.out (.bool u) (.slice p0 n0 k0) (.slice p1 0 k1) (.int .i64 a0) (.int .i64 a1) (.int .i64 b0) (.int .i64 b1)
  rw [hW7]
  obtain ⟨⟨f0, f1, f2, f3, f4, f5, f6⟩, _⟩ := seven hF
  clear y0 y1 y2 y3 y4 y5 y6 z0 z1 z2 z3 z4 z5 z6 t0 t1 t2 t3 t4 t5 t6 x0 x1 x2 x3 x4 x5 x6 hW7 hF hne
  refine bodyPost_ret (v := .tuple #[rlink u p0 n0 k0 p1 0 k1 a0 a1 b0 b1, .int .i64 7]) (by simp [results, Try.results19, go_sem, f0, f1, f2, f3, f4, f5, f6]) rfl ?_
  exact ⟨rfl, HKZ.out.thenAt hK HN.out.2.1⟩

set_option maxHeartbeats 2000000 in
theorem rlose1_some (B g o n k : Nat) (s : ByteArray) (ys : List Value) (u : Bool) (p0 : Option Addr) (n0 k0 : Nat) (p1 : Option Addr) (n1 k1 : Nat) (a0 a1 b0 b1 : Int) (w : World) (hv : View w B (some ⟨g, o, Option.none⟩) (n + 1) k (.string s :: ys)) (hm : n ≤ 64) (hl : 0 ≤ b1) (hl' : b1 < 1000000) :
    Calls Try.prog 19 #[rlink u p0 n0 k0 (some ⟨g, o, Option.none⟩) (n + 1) k a0 a1 b0 b1, .int .i64 1] w fun ee w' => (∃ p k', ee = .returned (.tuple #[rlink u p0 n0 k0 p n k' a0 a1 b0 (b1 + 1), .int .i64 0]) ∧ ∀ W, View W B (some ⟨g, o, Option.none⟩) (n + 1) k (.string s :: ys) → View W B p n k' ys) ∧ Keeps Nil w w' := by
  obtain ⟨hA, hB⟩ := two_allocs w (.cells #[Value.bool u, Value.slice p0 n0 k0, Value.slice (some ⟨g, o, Option.none⟩) (n + 1) k, Value.int IntKind.i64 a0, Value.int IntKind.i64 a1, Value.int IntKind.i64 b0, Value.int IntKind.i64 b1] 43 (0, 0)) nocells
  have HB := hid hB
  have HV := hid (hv.keepN (((Keeps.refl Nil w).alloc (.cells #[Value.bool u, Value.slice p0 n0 k0, Value.slice (some ⟨g, o, Option.none⟩) (n + 1) k, Value.int IntKind.i64 a0, Value.int IntKind.i64 a1, Value.int IntKind.i64 b0, Value.int IntKind.i64 b1] 43 (0, 0))).alloc nocells))
  clear hA hB hv
  have hw := wrap_less (b1 + 1) (by omega) (by omega)
  go_enter Try.func19, Try.ntmps19
  go_wp2_with fail
  refine (rcome1_some B g o n k s ys u p0 n0 k0 p1 n1 k1 a0 a1 b0 b1 _ HV.out hm).mono ?_; rintro ee w' ⟨⟨p, k', rfl, vz⟩, kz⟩
  have VZ := hid vz
  clear vz HV
  have hb := kz.lies HB.out
  go_upto_region 2 with (fail)
  have kx : Keeps Nil w' (w'.alloc (Obj.cells #[Value.bool u, Value.slice p0 n0 k0, Value.slice p n k', Value.int IntKind.i64 a0, Value.int IntKind.i64 a1, Value.int IntKind.i64 b0, Value.int IntKind.i64 b1] 43)) := (Keeps.refl _ _).alloc _
  have hb4 := kx.lies hb
  have h6 := alloc_block w' (Obj.cells #[Value.bool u, Value.slice p0 n0 k0, Value.slice p n k', Value.int IntKind.i64 a0, Value.int IntKind.i64 a1, Value.int IntKind.i64 b0, Value.int IntKind.i64 b1] 43)
  generalize (w'.alloc (Obj.cells #[Value.bool u, Value.slice p0 n0 k0, Value.slice p n k', Value.int IntKind.i64 a0, Value.int IntKind.i64 a1, Value.int IntKind.i64 b0, Value.int IntKind.i64 b1] 43)) = W at *
  have hb6 : w.heap.size + 2 ≤ w'.heap.size := by have := kz.size; simpa using this
  generalize w'.heap.size = b6 at *
  generalize hb4e : w.heap.size + 1 = b4 at *
  have hne : b4 ≠ b6 := by omega
  have h4w : w.heap.size ≤ b4 := by omega
  have h6w : w.heap.size ≤ b6 := by omega
  have HKZ := hid (((Keeps.refl Nil w).alloc _).alloc _ |>.trans (kz.trans kx))
  obtain ⟨⟨y0, y1, y2, y3, y4, y5, y6⟩, _⟩ := seven h6
  obtain ⟨z0, z1, z2, z3, z4, z5, z6⟩ := sevenf hb4
  obtain ⟨t0, t1, t2, t3, t4, t5, t6⟩ := sevenf h6
  obtain ⟨⟨x0, x1, x2, x3, x4, x5, x6⟩, _⟩ := seven hb4
  have HB4 := hid hb4
  have HN := hid (And.intro hne (And.intro h4w h6w))
  clear hb hb4 h6 HB kz kx hb4e hb6 h4w h6w
  go_wp2_with fail
  have k5 : Keeps (At b6) W (W.setCell ⟨b6, 6, Option.none⟩ (.int .i64 (b1 + 1))) := (Keeps.refl _ _).set _ _ (at_self _) _
  obtain ⟨W7, hW7, hF, hK⟩ := set7 (k5.lies HB4.out (fun e => hne e)) (.bool u) (.slice p0 n0 k0) (.slice p n k') (.int .i64 a0) (.int .i64 a1) (.int .i64 b0) (.int .i64 (b1 + 1))
  rw [hW7]
  obtain ⟨⟨f0, f1, f2, f3, f4, f5, f6⟩, _⟩ := seven hF
  clear y0 y1 y2 y3 y4 y5 y6 z0 z1 z2 z3 z4 z5 z6 t0 t1 t2 t3 t4 t5 t6 x0 x1 x2 x3 x4 x5 x6 hW7 hF hne
  refine bodyPost_ret (v := .tuple #[rlink u p0 n0 k0 p n k' a0 a1 b0 (b1 + 1), .int .i64 0]) (by simp [results, Try.results19, go_sem, f0, f1, f2, f3, f4, f5, f6]) rfl ?_
  have K := (HKZ.out.thenAt k5 HN.out.2.2).thenAt hK HN.out.2.1
  exact ⟨⟨p, k', rfl, VZ.out⟩, K⟩
end Go.Proofs.Ytljfpihfffhpjaa
