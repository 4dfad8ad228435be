/-
  The document's link (layer 23): Send of a frame where there is room. Conditions: the frames lie in their cells.
-/
import Derived.Test.YtljfpihfffhpjaaRSend
import Derived.Test.YtljfpihfffhpjaaApp
namespace Go.Proofs.Ytljfpihfffhpjaa
open Go.RowKit Go.Conc
set_option linter.unusedVariables false

theorem sinfo : (Try.prog.info? 9).map (fun i => (i.zero, i.size, i.bytes)) = some (some (.string ⟨#[]⟩), 1, 16) := by kernel_rfl
theorem own_keep {S : Nat → Prop} {w w' : World} {base : Nat} {e : TypeId} {v : Value} {n : Nat} {xs : List Value} (h : w.ownsRow base e 1 v n xs) (k : Keeps S w w') (hS : ∀ g, base ≤ g → ¬ S g) : w'.ownsRow base e 1 v n xs := ownsRow_keep h k hS
theorem new_view (w : World) (v : Value) (T : TypeId) : View (w.alloc (.cells #[v] T (0, 0))) 0 (some ⟨w.heap.size, 0, Option.none⟩) 1 1 [v] :=
  ⟨rfl, Nat.le_refl _, fun _ => ⟨_, _, rfl, Nat.zero_le _, by simp, fun j u hu => by
    rcases j with _ | j
    · have hu' : v = u := by simpa using hu
      subst hu'
      exact cell_of_one (alloc_block w _)
    · simp at hu⟩⟩
theorem own_lt {w : World} {base : Nat} {e : TypeId} {v : Value} {n : Nat} {xs : List Value} (h : w.ownsRow base e 1 v n xs) {g : Nat} (hg : v.ownBlock = some g) : base ≤ g := by
  rcases h.2 with ⟨rfl, _⟩ | ⟨g', cap, cur, rfl, hb, _⟩
  · simp [Value.ownBlock] at hg
  · simp [Value.ownBlock] at hg; omega

set_option maxHeartbeats 2000000 in
theorem rsend0_room (s : ByteArray) (hs : s.size ≤ 1522) (B : Nat) (ys : List Value) (p0 : Option Addr) (n0 k0 : Nat) (p1 : Option Addr) (n1 k1 : Nat) (a0 a1 b0 b1 : Int) (w : World) (hB : B ≤ w.heap.size) (hn : n0 < 64) (hv : View w B p0 n0 k0 ys) (hall : ∀ u ∈ ys, u.oneCell' = true) :
    Calls Try.prog 21 #[rlink true p0 n0 k0 p1 n1 k1 a0 a1 b0 b1, .int .i64 0, .string s] w fun ee w' => (∃ p k', ee = .returned (.tuple #[rlink true p (n0 + 1) k' p1 n1 k1 a0 a1 b0 b1, .int .i64 0]) ∧ View w' B p (n0 + 1) k' (ys ++ [.string s])) ∧ Keeps Nil w w' := by
  obtain ⟨i0, hi, hz0, hz1, hz2⟩ := info_parts sinfo
  have HI := hid (And.intro hi (And.intro hz0 (And.intro hz1 hz2)))
  clear hi hz0 hz1 hz2
  obtain ⟨hA, hB'⟩ := two_allocs w (.cells #[.bool true, .slice p0 n0 k0, .slice p1 n1 k1, .int .i64 a0, .int .i64 a1, .int .i64 b0, .int .i64 b1] 43 (0, 0)) nocells
  have HA := hid hA
  have HB := hid hB'
  have HV := hid hv
  have HALL := hid hall
  have HBB := hid hB
  clear hA hB' hv hall hB
  go_enter Try.func21, Try.ntmps21
  go_upto_region 8 with (go_at_call 35; refine (rmay_any _ _).mono ?_; rintro ee w' ⟨rfl, rfl⟩)
  have kw0 : Keeps Nil w ((w.alloc (.cells #[.bool true, .slice p0 n0 k0, .slice p1 n1 k1, .int .i64 a0, .int .i64 a1, .int .i64 b0, .int .i64 b1] 43 (0, 0))).alloc nocells) := ((Keeps.refl _ _).alloc _).alloc _
  have hz2 : w.heap.size + 2 = ((w.alloc (.cells #[.bool true, .slice p0 n0 k0, .slice p1 n1 k1, .int .i64 a0, .int .i64 a1, .int .i64 b0, .int .i64 b1] 43 (0, 0))).alloc nocells).heap.size := by simp
  have KW0 := hid kw0
  have HZ2 := hid hz2
  clear kw0 hz2
  generalize (w.alloc (.cells #[.bool true, .slice p0 n0 k0, .slice p1 n1 k1, .int .i64 a0, .int .i64 a1, .int .i64 b0, .int .i64 b1] 43 (0, 0))).alloc nocells = W2 at *
  generalize hb0 : w.heap.size = x0 at *
  generalize hb1 : x0 + 1 = x1 at *
  have HX := hid (And.intro hb0 hb1)
  clear hb0 hb1
  obtain ⟨⟨y0, y1, y2, y3, y4, y5, y6⟩, _⟩ := seven HA.out
  go_wp2_with (at_builtin; first
    | (refine wpList_append_view (o := ⟨some 40, _, _, _, _, _⟩) _ rfl _ _ 40 rfl (x0 + 2) 9 i0 (.string ⟨#[]⟩) 16 Try.underlying40 HI.out.1 HI.out.2.1 HI.out.2.2.1 HI.out.2.2.2 rfl (.slice Option.none 0 0) 0 [] rfl (World.ownsRow_nil _ _ _ _) B p0 n0 k0 ys rfl (HV.out.keepN KW0.out) HALL.out (by unfold maxLen; omega) (by omega) (Nat.le_of_eq HZ2.out) ?_
       intro v1 w1 own1 hg1 hat1
       simp only [Nat.zero_add, List.nil_append] at own1
       have kw1 := hid ((Keeps.refl Nil W2).grown hg1 (fun k hk => by simp [Value.ownBlock] at hk)))
    | (refine wpList_append_view (o := ⟨some 43, _, _, _, _, _⟩) _ rfl _ _ 40 rfl (x0 + 2) 9 i0 (.string ⟨#[]⟩) 16 Try.underlying40 HI.out.1 HI.out.2.1 HI.out.2.2.1 HI.out.2.2.2 rfl v1 n0 ys rfl (own_keep own1 ((Keeps.refl Nil w1).alloc _) (fun _ _ h => h)) 0 (some ⟨w1.heap.size, 0, Option.none⟩) 1 1 [.string s] rfl (new_view w1 (.string s) 9) (by simp [Value.oneCell']) (by unfold maxLen; omega) (by omega) (by have := kw1.out.size; have := HZ2.out; simp; omega) ?_
       intro v2 w2 own2 hg2 hat2
       have kw2 := hid ((kw1.out.alloc (.cells #[.string s] 9 (0, 0))).grown hg2 (fun g hg hlt => by have := own_lt own1 hg; have := HZ2.out; omega))
       obtain ⟨p2, c2, hv2⟩ := own_shape own2
       subst hv2
       have hA2 := kw2.out.lies HA.out
       have hB2 := kw2.out.lies HB.out
       obtain ⟨⟨y0, y1, y2, y3, y4, y5, y6⟩, _⟩ := seven hA2
       obtain ⟨⟨z0, z1, z2, z3, z4, z5, z6⟩, _⟩ := seven hB2
       obtain ⟨f0, f1, f2, f3, f4, f5, f6⟩ := sevenf hA2
       obtain ⟨g0, g1, g2, g3, g4, g5, g6⟩ := sevenf hB2
       have OWN2 := hid own2
       have HB2 := hid hB2
       have hx01 : x0 ≠ x1 := by have := HX.out; omega
       clear own2 own1 hg2 hg1 hat2 hat1 hA2 hB2))
  have k5 : Keeps (At x0) w2 (w2.setCell ⟨x0, 1, Option.none⟩ (.slice p2 (n0 + 1) c2)) := (Keeps.refl _ _).set _ _ (at_self _) _
  obtain ⟨W7, hW7, hF, hK⟩ := set7 (k5.lies HB2.out (fun e => hx01 e.symm)) (.bool true) (.slice p2 (n0 + 1) c2) (.slice p1 n1 k1) (.int .i64 a0) (.int .i64 a1) (.int .i64 b0) (.int .i64 b1)
  rw [hW7]
  obtain ⟨⟨q0, q1, q2, q3, q4, q5, q6⟩, _⟩ := seven hF
  clear y0 y1 y2 y3 y4 y5 y6 z0 z1 z2 z3 z4 z5 z6 f0 f1 f2 f3 f4 f5 f6 g0 g1 g2 g3 g4 g5 g6 hW7 hF hx01
  refine bodyPost_ret (v := .tuple #[rlink true p2 (n0 + 1) c2 p1 n1 k1 a0 a1 b0 b1, .int .i64 0]) (by simp [results, Try.results21, go_sem, q0, q1, q2, q3, q4, q5, q6]) rfl ?_
  have hx := HX.out
  have K := ((KW0.out.trans kw2.out).thenAt k5 (by omega)).thenAt hK (by omega)
  exact ⟨⟨p2, c2, rfl, ((View.of_own (ownsRow_keep (ownsRow_keep OWN2.out k5 (fun g hg e => by rw [At] at e; omega)) hK (fun g hg e => by rw [At] at e; omega))).mono (by have := HBB.out; omega))⟩, K⟩

set_option maxHeartbeats 2000000 in
theorem rsend1_room (s : ByteArray) (hs : s.size ≤ 1522) (B : Nat) (ys : List Value) (p0 : Option Addr) (n0 k0 : Nat) (p1 : Option Addr) (n1 k1 : Nat) (a0 a1 b0 b1 : Int) (w : World) (hB : B ≤ w.heap.size) (hn : n1 < 64) (hv : View w B p1 n1 k1 ys) (hall : ∀ u ∈ ys, u.oneCell' = true) :
    Calls Try.prog 21 #[rlink true p0 n0 k0 p1 n1 k1 a0 a1 b0 b1, .int .i64 1, .string s] w fun ee w' => (∃ p k', ee = .returned (.tuple #[rlink true p0 n0 k0 p (n1 + 1) k' a0 a1 b0 b1, .int .i64 0]) ∧ View w' B p (n1 + 1) k' (ys ++ [.string s])) ∧ Keeps Nil w w' := by
  obtain ⟨i0, hi, hz0, hz1, hz2⟩ := info_parts sinfo
  have HI := hid (And.intro hi (And.intro hz0 (And.intro hz1 hz2)))
  clear hi hz0 hz1 hz2
  obtain ⟨hA, hB'⟩ := two_allocs w (.cells #[.bool true, .slice p0 n0 k0, .slice p1 n1 k1, .int .i64 a0, .int .i64 a1, .int .i64 b0, .int .i64 b1] 43 (0, 0)) nocells
  have HA := hid hA
  have HB := hid hB'
  have HV := hid hv
  have HALL := hid hall
  have HBB := hid hB
  clear hA hB' hv hall hB
  go_enter Try.func21, Try.ntmps21
  go_upto_region 8 with (go_at_call 35; refine (rmay_any _ _).mono ?_; rintro ee w' ⟨rfl, rfl⟩)
  have kw0 : Keeps Nil w ((w.alloc (.cells #[.bool true, .slice p0 n0 k0, .slice p1 n1 k1, .int .i64 a0, .int .i64 a1, .int .i64 b0, .int .i64 b1] 43 (0, 0))).alloc nocells) := ((Keeps.refl _ _).alloc _).alloc _
  have hz2 : w.heap.size + 2 = ((w.alloc (.cells #[.bool true, .slice p0 n0 k0, .slice p1 n1 k1, .int .i64 a0, .int .i64 a1, .int .i64 b0, .int .i64 b1] 43 (0, 0))).alloc nocells).heap.size := by simp
  have KW0 := hid kw0
  have HZ2 := hid hz2
  clear kw0 hz2
  generalize (w.alloc (.cells #[.bool true, .slice p0 n0 k0, .slice p1 n1 k1, .int .i64 a0, .int .i64 a1, .int .i64 b0, .int .i64 b1] 43 (0, 0))).alloc nocells = W2 at *
  generalize hb0 : w.heap.size = x0 at *
  generalize hb1 : x0 + 1 = x1 at *
  have HX := hid (And.intro hb0 hb1)
  clear hb0 hb1
  obtain ⟨⟨y0, y1, y2, y3, y4, y5, y6⟩, _⟩ := seven HA.out
  go_wp2_with (at_builtin; first
    | (refine wpList_append_view (o := ⟨some 40, _, _, _, _, _⟩) _ rfl _ _ 40 rfl (x0 + 2) 9 i0 (.string ⟨#[]⟩) 16 Try.underlying40 HI.out.1 HI.out.2.1 HI.out.2.2.1 HI.out.2.2.2 rfl (.slice Option.none 0 0) 0 [] rfl (World.ownsRow_nil _ _ _ _) B p1 n1 k1 ys rfl (HV.out.keepN KW0.out) HALL.out (by unfold maxLen; omega) (by omega) (Nat.le_of_eq HZ2.out) ?_
       intro v1 w1 own1 hg1 hat1
       simp only [Nat.zero_add, List.nil_append] at own1
       have kw1 := hid ((Keeps.refl Nil W2).grown hg1 (fun k hk => by simp [Value.ownBlock] at hk)))
    | (refine wpList_append_view (o := ⟨some 43, _, _, _, _, _⟩) _ rfl _ _ 40 rfl (x0 + 2) 9 i0 (.string ⟨#[]⟩) 16 Try.underlying40 HI.out.1 HI.out.2.1 HI.out.2.2.1 HI.out.2.2.2 rfl v1 n1 ys rfl (own_keep own1 ((Keeps.refl Nil w1).alloc _) (fun _ _ h => h)) 0 (some ⟨w1.heap.size, 0, Option.none⟩) 1 1 [.string s] rfl (new_view w1 (.string s) 9) (by simp [Value.oneCell']) (by unfold maxLen; omega) (by omega) (by have := kw1.out.size; have := HZ2.out; simp; omega) ?_
       intro v2 w2 own2 hg2 hat2
       have kw2 := hid ((kw1.out.alloc (.cells #[.string s] 9 (0, 0))).grown hg2 (fun g hg hlt => by have := own_lt own1 hg; have := HZ2.out; omega))
       obtain ⟨p2, c2, hv2⟩ := own_shape own2
       subst hv2
       have hA2 := kw2.out.lies HA.out
       have hB2 := kw2.out.lies HB.out
       obtain ⟨⟨y0, y1, y2, y3, y4, y5, y6⟩, _⟩ := seven hA2
       obtain ⟨⟨z0, z1, z2, z3, z4, z5, z6⟩, _⟩ := seven hB2
       obtain ⟨f0, f1, f2, f3, f4, f5, f6⟩ := sevenf hA2
       obtain ⟨g0, g1, g2, g3, g4, g5, g6⟩ := sevenf hB2
       have OWN2 := hid own2
       have HB2 := hid hB2
       have hx01 : x0 ≠ x1 := by have := HX.out; omega
       clear own2 own1 hg2 hg1 hat2 hat1 hA2 hB2))
  have k5 : Keeps (At x0) w2 (w2.setCell ⟨x0, 2, Option.none⟩ (.slice p2 (n1 + 1) c2)) := (Keeps.refl _ _).set _ _ (at_self _) _
  obtain ⟨W7, hW7, hF, hK⟩ := set7 (k5.lies HB2.out (fun e => hx01 e.symm)) (.bool true) (.slice p0 n0 k0) (.slice p2 (n1 + 1) c2) (.int .i64 a0) (.int .i64 a1) (.int .i64 b0) (.int .i64 b1)
  rw [hW7]
  obtain ⟨⟨q0, q1, q2, q3, q4, q5, q6⟩, _⟩ := seven hF
  clear y0 y1 y2 y3 y4 y5 y6 z0 z1 z2 z3 z4 z5 z6 f0 f1 f2 f3 f4 f5 f6 g0 g1 g2 g3 g4 g5 g6 hW7 hF hx01
  refine bodyPost_ret (v := .tuple #[rlink true p0 n0 k0 p2 (n1 + 1) c2 a0 a1 b0 b1, .int .i64 0]) (by simp [results, Try.results21, go_sem, q0, q1, q2, q3, q4, q5, q6]) rfl ?_
  have hx := HX.out
  have K := ((KW0.out.trans kw2.out).thenAt k5 (by omega)).thenAt hK (by omega)
  exact ⟨⟨p2, c2, rfl, ((View.of_own (ownsRow_keep (ownsRow_keep OWN2.out k5 (fun g hg e => by rw [At] at e; omega)) hK (fun g hg e => by rw [At] at e; omega))).mono (by have := HBB.out; omega))⟩, K⟩
end Go.Proofs.Ytljfpihfffhpjaa
