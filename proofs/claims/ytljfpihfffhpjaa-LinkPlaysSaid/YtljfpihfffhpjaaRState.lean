/-
  The document's link follows the plain state (layer 23). Conditions: the numbers are little.
-/
import Derived.Test.YtljfpihfffhpjaaLState
namespace Go.Proofs.Ytljfpihfffhpjaa
open Go.RowKit Go.Conc
set_option linter.unusedVariables false

abbrev LS.val (σ : LS) (p0 : Option Addr) (k0 : Nat) (p1 : Option Addr) (k1 : Nat) : Value :=
  rlink σ.u p0 (strsV σ.xs0).length k0 p1 (strsV σ.xs1).length k1 σ.d0 σ.d1 σ.l0 σ.l1
def RepS (w : World) (B : Nat) (p0 : Option Addr) (k0 : Nat) (p1 : Option Addr) (k1 : Nat) (σ : LS) : Prop :=
  View w B p0 (strsV σ.xs0).length k0 (strsV σ.xs0) ∧ View w B p1 (strsV σ.xs1).length k1 (strsV σ.xs1)
theorem RepS.keepN {w w' : World} {B : Nat} {p0 : Option Addr} {k0 : Nat} {p1 : Option Addr} {k1 : Nat} {σ : LS} (h : RepS w B p0 k0 p1 k1 σ) (k : Keeps Nil w w') : RepS w' B p0 k0 p1 k1 σ := ⟨h.1.keepN k, h.2.keepN k⟩
theorem RepS.keep {S : Nat → Prop} {w w' : World} {B : Nat} {p0 : Option Addr} {k0 : Nat} {p1 : Option Addr} {k1 : Nat} {σ : LS} (h : RepS w B p0 k0 p1 k1 σ) (k : Keeps S w w') (hS : ∀ g, B ≤ g → g < w.heap.size → ¬ S g) : RepS w' B p0 k0 p1 k1 σ := ⟨h.1.keep k hS, h.2.keep k hS⟩

theorem ptr_some {w : World} {B : Nat} {p : Option Addr} {n k : Nat} {xs : List Value} (h : View w B p (n + 1) k xs) : ∃ g o, p = some ⟨g, o, Option.none⟩ := by
  obtain ⟨g, o, e, _⟩ := h.2.2 (by omega)
  exact ⟨g, o, e⟩

theorem r_come {w : World} {B : Nat} {p0 : Option Addr} {k0 : Nat} {p1 : Option Addr} {k1 : Nat} {σ : LS} {k : Nat} (h : RepS w B p0 k0 p1 k1 σ) (ok : σ.Ok k) (e : Int) :
    Calls Try.prog 18 #[σ.val p0 k0 p1 k1, .int .i64 e] w fun ee w' => (∃ p0' k0' p1' k1', ee = .returned (.tuple #[(σ.come e).1.val p0' k0' p1' k1', .string (σ.come e).2.1, .int .i64 (σ.come e).2.2]) ∧ RepS w' B p0' k0' p1' k1' (σ.come e).1) ∧ Keeps Nil w w' := by
  obtain ⟨u, d0, l0, xs0, d1, l1, xs1⟩ := σ
  have m0 := ok.n0
  have m1 := ok.n1
  by_cases h0 : e = 0
  · subst h0
    rcases xs0 with _ | ⟨s, ys⟩
    · refine (rcome0_none u p0 0 k0 p1 (strsV xs1).length k1 d0 d1 l0 l1 w).mono ?_
      rintro ee w' ⟨rfl, k⟩
      exact ⟨⟨p0, k0, p1, k1, rfl, h.keepN k⟩, k⟩
    · obtain ⟨g, o, rfl⟩ := ptr_some h.1
      refine (rcome0_some B g o (strsV ys).length k0 s (strsV ys) u Option.none 0 0 p1 (strsV xs1).length k1 d0 d1 l0 l1 w h.1 (by simp [strsV] at m0 ⊢; omega)).mono ?_
      rintro ee w' ⟨⟨p, k', rfl, hV⟩, k⟩
      exact ⟨⟨p, k', p1, k1, rfl, hV _ (h.1.keepN k), h.2.keepN k⟩, k⟩
  · by_cases h1 : e = 1
    · subst h1
      rcases xs1 with _ | ⟨s, ys⟩
      · refine (rcome1_none u p0 (strsV xs0).length k0 p1 0 k1 d0 d1 l0 l1 w).mono ?_
        rintro ee w' ⟨rfl, k⟩
        exact ⟨⟨p0, k0, p1, k1, rfl, h.keepN k⟩, k⟩
      · obtain ⟨g, o, rfl⟩ := ptr_some h.2
        refine (rcome1_some B g o (strsV ys).length k1 s (strsV ys) u p0 (strsV xs0).length k0 Option.none 0 0 d0 d1 l0 l1 w h.2 (by simp [strsV] at m1 ⊢; omega)).mono ?_
        rintro ee w' ⟨⟨p, k', rfl, hV⟩, k⟩
        exact ⟨⟨p0, k0, p, k', rfl, h.1.keepN k, hV _ (h.2.keepN k)⟩, k⟩
    · have e1 : LS.come ⟨u, d0, l0, xs0, d1, l1, xs1⟩ e = (⟨u, d0, l0, xs0, d1, l1, xs1⟩, ⟨#[]⟩, 2) := by simp [LS.come, h0, h1]
      rw [e1]
      refine (rcome_out e (by omega) _ ⟨_, _, _, _, _, _, _, _, _, _, _, rfl⟩ w).mono ?_
      rintro ee w' ⟨rfl, k⟩
      exact ⟨⟨p0, k0, p1, k1, rfl, h.keepN k⟩, k⟩

theorem r_down {w : World} {B : Nat} {p0 : Option Addr} {k0 : Nat} {p1 : Option Addr} {k1 : Nat} {σ : LS} {k : Nat} (ok : σ.Ok k) (hk : k ≤ 300) :
    Calls Try.prog 20 #[σ.val p0 k0 p1 k1] w fun ee w' => ee = .returned (.tuple #[σ.down.1.val Option.none 0 Option.none 0, .int .i64 σ.down.2]) ∧ RepS w' B Option.none 0 Option.none 0 σ.down.1 ∧ Keeps Nil w w' := by
  obtain ⟨u, d0, l0, xs0, d1, l1, xs1⟩ := σ
  have b5 : 0 ≤ l0 ∧ l0 ≤ 64 * k := ok.l0
  have b6 : 0 ≤ l1 ∧ l1 ≤ 64 * k := ok.l1
  refine (rdown_any u p0 (strsV xs0).length k0 p1 (strsV xs1).length k1 d0 d1 l0 l1 w ok.n0 ok.n1 (by omega) (by omega) (by omega) (by omega)).mono ?_
  rintro ee w' ⟨rfl, k⟩
  exact ⟨rfl, ⟨View.nil _ _ _ _, View.nil _ _ _ _⟩, k⟩

set_option maxHeartbeats 2000000 in
theorem rlose_out (e : Int) (he : e < 0 ∨ 1 < e) (u : Bool) (p0 : Option Addr) (n0 k0 : Nat) (p1 : Option Addr) (n1 k1 : Nat) (a0 a1 b0 b1 : Int) (w : World) :
    Calls Try.prog 19 #[rlink u p0 n0 k0 p1 n1 k1 a0 a1 b0 b1, .int .i64 e] w fun ee w' => ee = .returned (.tuple #[rlink u p0 n0 k0 p1 n1 k1 a0 a1 b0 b1, .int .i64 2]) ∧ Keeps Nil w w' := by
  obtain ⟨hA, hB⟩ := two_allocs w (.cells #[Value.bool u, Value.slice p0 n0 k0, Value.slice p1 n1 k1, Value.int IntKind.i64 a0, Value.int IntKind.i64 a1, Value.int IntKind.i64 b0, Value.int IntKind.i64 b1] 43 (0, 0)) nocells
  have HB := hid hB
  have HE := hid he
  clear hA hB he
  go_enter Try.func19, Try.ntmps19
  go_wp2_with fail
  refine (rcome_out e HE.out _ ⟨u, p0, n0, k0, p1, n1, k1, a0, a1, b0, b1, rfl⟩ _).mono ?_; rintro ee w' ⟨rfl, kz⟩
  have hb := kz.lies HB.out
  go_upto_region 2 with (fail)
  have kx : Keeps Nil w' (w'.alloc (Obj.cells #[Value.bool u, Value.slice p0 n0 k0, Value.slice p1 n1 k1, Value.int IntKind.i64 a0, Value.int IntKind.i64 a1, Value.int IntKind.i64 b0, Value.int IntKind.i64 b1] 43)) := (Keeps.refl _ _).alloc _
  have hb4 := kx.lies hb
  have h6 := alloc_block w' (Obj.cells #[Value.bool u, Value.slice p0 n0 k0, Value.slice p1 n1 k1, Value.int IntKind.i64 a0, Value.int IntKind.i64 a1, Value.int IntKind.i64 b0, Value.int IntKind.i64 b1] 43)
  generalize (w'.alloc (Obj.cells #[Value.bool u, Value.slice p0 n0 k0, Value.slice p1 n1 k1, Value.int IntKind.i64 a0, Value.int IntKind.i64 a1, Value.int IntKind.i64 b0, Value.int IntKind.i64 b1] 43)) = W at *
  have hb6 : w.heap.size + 2 ≤ w'.heap.size := by have := kz.size; simpa using this
  generalize w'.heap.size = b6 at *
  generalize hb4e : w.heap.size + 1 = b4 at *
  have hne : b4 ≠ b6 := by omega
  have h4w : w.heap.size ≤ b4 := by omega
  have h6w : w.heap.size ≤ b6 := by omega
  have HKZ := hid (((Keeps.refl Nil w).alloc _).alloc _ |>.trans (kz.trans kx))
  obtain ⟨⟨y0, y1, y2, y3, y4, y5, y6⟩, _⟩ := seven h6
  obtain ⟨z0, z1, z2, z3, z4, z5, z6⟩ := sevenf hb4
  obtain ⟨t0, t1, t2, t3, t4, t5, t6⟩ := sevenf h6
  obtain ⟨⟨x0, x1, x2, x3, x4, x5, x6⟩, _⟩ := seven hb4
  have HB4 := hid hb4
  have HN := hid (And.intro hne (And.intro h4w h6w))
  clear hb hb4 h6 HB kz kx hb4e hb6 h4w h6w
  go_wp2_with fail
  obtain ⟨W7, hW7, hF, hK⟩ := set7 HB4.out (.bool u) (.slice p0 n0 k0) (.slice p1 n1 k1) (.int .i64 a0) (.int .i64 a1) (.int .i64 b0) (.int .i64 b1)
  rw [hW7]
  obtain ⟨⟨f0, f1, f2, f3, f4, f5, f6⟩, _⟩ := seven hF
  clear y0 y1 y2 y3 y4 y5 y6 z0 z1 z2 z3 z4 z5 z6 t0 t1 t2 t3 t4 t5 t6 x0 x1 x2 x3 x4 x5 x6 hW7 hF hne
  refine bodyPost_ret (v := .tuple #[rlink u p0 n0 k0 p1 n1 k1 a0 a1 b0 b1, .int .i64 2]) (by simp [results, Try.results19, go_sem, f0, f1, f2, f3, f4, f5, f6]) rfl ?_
  exact ⟨rfl, HKZ.out.thenAt hK HN.out.2.1⟩

theorem r_lose {w : World} {B : Nat} {p0 : Option Addr} {k0 : Nat} {p1 : Option Addr} {k1 : Nat} {σ : LS} {k : Nat} (h : RepS w B p0 k0 p1 k1 σ) (ok : σ.Ok k) (hk : k ≤ 300) (e : Int) :
    Calls Try.prog 19 #[σ.val p0 k0 p1 k1, .int .i64 e] w fun ee w' => (∃ p0' k0' p1' k1', ee = .returned (.tuple #[(σ.lose e).1.val p0' k0' p1' k1', .int .i64 (σ.lose e).2]) ∧ RepS w' B p0' k0' p1' k1' (σ.lose e).1) ∧ Keeps Nil w w' := by
  obtain ⟨u, d0, l0, xs0, d1, l1, xs1⟩ := σ
  have m0 := ok.n0
  have m1 := ok.n1
  have b5 : 0 ≤ l0 ∧ l0 ≤ 64 * k := ok.l0
  have b6 : 0 ≤ l1 ∧ l1 ≤ 64 * k := ok.l1
  by_cases h0 : e = 0
  · subst h0
    rcases xs0 with _ | ⟨s, ys⟩
    · refine (rlose0_none u p0 0 k0 p1 (strsV xs1).length k1 d0 d1 l0 l1 w).mono ?_
      rintro ee w' ⟨rfl, k⟩
      exact ⟨⟨p0, k0, p1, k1, rfl, h.keepN k⟩, k⟩
    · obtain ⟨g, o, rfl⟩ := ptr_some h.1
      refine (rlose0_some B g o (strsV ys).length k0 s (strsV ys) u Option.none 0 0 p1 (strsV xs1).length k1 d0 d1 l0 l1 w h.1 (by simp [strsV] at m0 ⊢; omega) (by omega) (by omega)).mono ?_
      rintro ee w' ⟨⟨p, k', rfl, hV⟩, k⟩
      exact ⟨⟨p, k', p1, k1, rfl, hV _ (h.1.keepN k), h.2.keepN k⟩, k⟩
  · by_cases h1 : e = 1
    · subst h1
      rcases xs1 with _ | ⟨s, ys⟩
      · refine (rlose1_none u p0 (strsV xs0).length k0 p1 0 k1 d0 d1 l0 l1 w).mono ?_
        rintro ee w' ⟨rfl, k⟩
        exact ⟨⟨p0, k0, p1, k1, rfl, h.keepN k⟩, k⟩
      · obtain ⟨g, o, rfl⟩ := ptr_some h.2
        refine (rlose1_some B g o (strsV ys).length k1 s (strsV ys) u p0 (strsV xs0).length k0 Option.none 0 0 d0 d1 l0 l1 w h.2 (by simp [strsV] at m1 ⊢; omega) (by omega) (by omega)).mono ?_
        rintro ee w' ⟨⟨p, k', rfl, hV⟩, k⟩
        exact ⟨⟨p0, k0, p, k', rfl, h.1.keepN k, hV _ (h.2.keepN k)⟩, k⟩
    · have e1 : LS.lose ⟨u, d0, l0, xs0, d1, l1, xs1⟩ e = (⟨u, d0, l0, xs0, d1, l1, xs1⟩, 2) := by simp [LS.lose, h0, h1]
      rw [e1]
      refine (rlose_out e (by omega) u p0 (strsV xs0).length k0 p1 (strsV xs1).length k1 d0 d1 l0 l1 w).mono ?_
      rintro ee w' ⟨rfl, k⟩
      exact ⟨⟨p0, k0, p1, k1, rfl, h.keepN k⟩, k⟩

theorem r_send {w : World} {B : Nat} {p0 : Option Addr} {k0 : Nat} {p1 : Option Addr} {k1 : Nat} {σ : LS} {k : Nat} (h : RepS w B p0 k0 p1 k1 σ) (hB : B ≤ w.heap.size) (ok : σ.Ok k) (hk : k ≤ 300) (e : Int) (s : ByteArray) :
    Calls Try.prog 21 #[σ.val p0 k0 p1 k1, .int .i64 e, .string s] w fun ee w' => (∃ p0' k0' p1' k1', ee = .returned (.tuple #[(σ.send e s).1.val p0' k0' p1' k1', .int .i64 (σ.send e s).2]) ∧ RepS w' B p0' k0' p1' k1' (σ.send e s).1) ∧ Keeps Nil w w' := by
  obtain ⟨u, d0, l0, xs0, d1, l1, xs1⟩ := σ
  have m0 : (strsV xs0).length ≤ 64 := ok.n0
  have m1 : (strsV xs1).length ≤ 64 := ok.n1
  have b5 : 0 ≤ d0 ∧ d0 ≤ k := ok.d0
  have b6 : 0 ≤ d1 ∧ d1 ≤ k := ok.d1
  by_cases h0 : e = 0
  · subst h0
    by_cases hs : 1522 < s.size
    · have e1 : LS.send ⟨u, d0, l0, xs0, d1, l1, xs1⟩ 0 s = (⟨u, d0, l0, xs0, d1, l1, xs1⟩, 2) := by simp [LS.send, hs]
      rw [e1]
      refine (rsend0_great s hs u p0 (strsV xs0).length k0 p1 (strsV xs1).length k1 d0 d1 l0 l1 w).mono ?_
      rintro ee w' ⟨rfl, k⟩
      exact ⟨⟨p0, k0, p1, k1, rfl, h.keepN k⟩, k⟩
    · rcases u with _ | _
      · have e1 : LS.send ⟨false, d0, l0, xs0, d1, l1, xs1⟩ 0 s = (⟨false, d0, l0, xs0, d1, l1, xs1⟩, 9) := by simp [LS.send, hs]
        rw [e1]
        refine (rsend0_down s (by omega) false p0 (strsV xs0).length k0 p1 (strsV xs1).length k1 d0 d1 l0 l1 w).mono ?_
        rintro ee w' ⟨rfl, k⟩
        exact ⟨⟨p0, k0, p1, k1, rfl, h.keepN k⟩, k⟩
      · by_cases hl : (strsV xs0).length < 64
        · have e1 : LS.send ⟨true, d0, l0, xs0, d1, l1, xs1⟩ 0 s = (⟨true, d0, l0, xs0 ++ [s], d1, l1, xs1⟩, 0) := by simp [LS.send, hs, hl]
          rw [e1]
          refine (rsend0_room s (by omega) B (strsV xs0) p0 (strsV xs0).length k0 p1 (strsV xs1).length k1 d0 d1 l0 l1 w hB hl h.1 (strsV_one _)).mono ?_
          rintro ee w' ⟨⟨p, k', rfl, hV⟩, k⟩
          have hlen : (strsV (xs0 ++ [s])).length = (strsV xs0).length + 1 := by simp [strsV]
          rw [strsV_push] at hV
          refine ⟨⟨p, k', p1, k1, ?_, ?_⟩, k⟩
          · simp only [LS.val]; rw [hlen]
          · refine ⟨?_, ?_⟩
            · show View _ _ _ (strsV (xs0 ++ [s])).length _ _; rw [hlen]; exact hV
            · exact h.2.keepN k
        · have e1 : LS.send ⟨true, d0, l0, xs0, d1, l1, xs1⟩ 0 s = (⟨true, d0 + 1, l0, xs0, d1, l1, xs1⟩, 6) := by simp [LS.send, hs, hl]
          rw [e1]
          refine (rsend0_full s (by omega) true p0 (strsV xs0).length k0 p1 (strsV xs1).length k1 d0 d1 l0 l1 w (by omega) (by omega) (by omega)).mono ?_
          rintro ee w' ⟨rfl, k⟩
          exact ⟨⟨p0, k0, p1, k1, rfl, h.keepN k⟩, k⟩
  · by_cases h1 : e = 1
    · subst h1
      by_cases hs : 1522 < s.size
      · have e1 : LS.send ⟨u, d0, l0, xs0, d1, l1, xs1⟩ 1 s = (⟨u, d0, l0, xs0, d1, l1, xs1⟩, 2) := by simp [LS.send, hs]
        rw [e1]
        refine (rsend1_great s hs u p0 (strsV xs0).length k0 p1 (strsV xs1).length k1 d0 d1 l0 l1 w).mono ?_
        rintro ee w' ⟨rfl, k⟩
        exact ⟨⟨p0, k0, p1, k1, rfl, h.keepN k⟩, k⟩
      · rcases u with _ | _
        · have e1 : LS.send ⟨false, d0, l0, xs0, d1, l1, xs1⟩ 1 s = (⟨false, d0, l0, xs0, d1, l1, xs1⟩, 9) := by simp [LS.send, hs]
          rw [e1]
          refine (rsend1_down s (by omega) false p0 (strsV xs0).length k0 p1 (strsV xs1).length k1 d0 d1 l0 l1 w).mono ?_
          rintro ee w' ⟨rfl, k⟩
          exact ⟨⟨p0, k0, p1, k1, rfl, h.keepN k⟩, k⟩
        · by_cases hl : (strsV xs1).length < 64
          · have e1 : LS.send ⟨true, d0, l0, xs0, d1, l1, xs1⟩ 1 s = (⟨true, d0, l0, xs0, d1, l1, xs1 ++ [s]⟩, 0) := by simp [LS.send, hs, hl]
            rw [e1]
            refine (rsend1_room s (by omega) B (strsV xs1) p0 (strsV xs0).length k0 p1 (strsV xs1).length k1 d0 d1 l0 l1 w hB hl h.2 (strsV_one _)).mono ?_
            rintro ee w' ⟨⟨p, k', rfl, hV⟩, k⟩
            have hlen : (strsV (xs1 ++ [s])).length = (strsV xs1).length + 1 := by simp [strsV]
            rw [strsV_push] at hV
            refine ⟨⟨p0, k0, p, k', ?_, ?_⟩, k⟩
            · simp only [LS.val]; rw [hlen]
            · refine ⟨?_, ?_⟩
              · exact h.1.keepN k
              · show View _ _ _ (strsV (xs1 ++ [s])).length _ _; rw [hlen]; exact hV
          · have e1 : LS.send ⟨true, d0, l0, xs0, d1, l1, xs1⟩ 1 s = (⟨true, d0, l0, xs0, d1 + 1, l1, xs1⟩, 6) := by simp [LS.send, hs, hl]
            rw [e1]
            refine (rsend1_full s (by omega) true p0 (strsV xs0).length k0 p1 (strsV xs1).length k1 d0 d1 l0 l1 w (by omega) (by omega) (by omega)).mono ?_
            rintro ee w' ⟨rfl, k⟩
            exact ⟨⟨p0, k0, p1, k1, rfl, h.keepN k⟩, k⟩
    · have e1 : LS.send ⟨u, d0, l0, xs0, d1, l1, xs1⟩ e s = (⟨u, d0, l0, xs0, d1, l1, xs1⟩, 2) := by simp [LS.send, h0, h1]
      rw [e1]
      refine (rsend_out e (by omega) s _ ⟨_, _, _, _, _, _, _, _, _, _, _, rfl⟩ w).mono ?_
      rintro ee w' ⟨rfl, k⟩
      exact ⟨⟨p0, k0, p1, k1, rfl, h.keepN k⟩, k⟩
end Go.Proofs.Ytljfpihfffhpjaa
