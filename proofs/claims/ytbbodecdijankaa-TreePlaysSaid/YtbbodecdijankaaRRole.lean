/-
  Layer 9: the document's machine: link, own vector, role, does it forward? Conditions: it lies so.
-/
import Derived.Test.YtbbodecdijankaaRMem
import Derived.Test.YtbbodecdijankaaRole0
import Derived.Test.YtbbodecdijankaaFar
import Derived.BigRegion
import Derived.RegionTactic
import Derived.BigGuard
import Derived.BigQuiet
namespace Go.Proofs.Ytbbodecdijankaa
open Go.RowKit
set_option linter.unusedVariables false
set_option linter.unusedSimpArgs false
set_option maxRecDepth 4000

set_option maxHeartbeats 2000000 in
theorem rlink_any {w : World} {m g c f i : Nat} {τ : TM} {x : Pt} (h : RMach w m g c f τ) (hx : τ.P[i]? = some x) :
    Calls Try.prog 38 #[.pointer (some ⟨m, 0, Option.none⟩), .int .i64 (i : Int)] w fun e w' => e = .returned (.bool x.link) ∧ w = w' := by
  have hi := (List.getElem?_eq_some_iff.1 hx).1
  obtain ⟨⟨m0, m1, m2, m3, m4, m5, m6, m7⟩, _⟩ := h.cells
  obtain ⟨c0, c1, _⟩ := h.row.read hx
  clear h hx m0 m2 m3 m4 m5 m6 m7
  unfold Pt.link
  obtain ⟨x0, x1, xh, x2, x3, x4⟩ := x
  simp only at c0 c1
  cases x1 with
  | false =>
    go_enter Try.func38, Try.ntmps38
    go_wp2_with fail
    go_ret
    exact ⟨rfl, rfl⟩
  | true =>
    by_cases h0 : 0 < x0
    · have hd : decide (0 < x0) = true := by simp [h0]
      have H0 := hid h0
      clear h0
      go_enter Try.func38, Try.ntmps38
      go_wp2_with fail
      go_ret
      exact ⟨by simp [H0.out], rfl⟩
    · have hd : decide (0 < x0) = false := by simp; omega
      have H0 := hid h0
      clear h0
      go_enter Try.func38, Try.ntmps38
      go_wp2_with fail
      go_ret
      exact ⟨by simp [H0.out], rfl⟩
theorem u8i (i : Nat) (h : i < 256) : IntKind.u8.wrap (i : Int) = i := by
  simp [IntKind.wrap, IntKind.signed, IntKind.bits]; omega
set_option maxHeartbeats 4000000 in
theorem rown_any {w : World} {m g c f i : Nat} {τ : TM} (h : RMach w m g c f τ) (h8 : i < 256) :
    Calls Try.prog 56 #[.pointer (some ⟨m, 0, Option.none⟩), .int .i64 (i : Int)] w fun e w' => e = .returned (vec τ.root τ.cost τ.id (i : Int)) ∧ Keeps Nil w w' := by
  obtain ⟨⟨c0, c1, c2, c3, c4, c5, c6, c7⟩, _⟩ := h.cells
  have hl := h.lt.1
  have hw := u8i i h8
  clear h c1 c4 c5 c6 c7
  go_enter Try.func56, Try.ntmps56
  go_wp2_with fail
  have d0 : (w.alloc (.cells #[.int .u64 0, .int .u32 0, .int .u64 0, .int .u8 0] 35 (0, 0))).cell? ⟨m, 0, Option.none⟩ = some (.int .u64 τ.id) := by rw [World.cell?_alloc_lt w _ ⟨m, 0, Option.none⟩ hl]; exact c0
  have d2 : (w.alloc (.cells #[.int .u64 0, .int .u32 0, .int .u64 0, .int .u8 0] 35 (0, 0))).cell? ⟨m, 2, Option.none⟩ = some (.int .u64 τ.root) := by rw [World.cell?_alloc_lt w _ ⟨m, 2, Option.none⟩ hl]; exact c2
  have d3 : (w.alloc (.cells #[.int .u64 0, .int .u32 0, .int .u64 0, .int .u8 0] 35 (0, 0))).cell? ⟨m, 3, Option.none⟩ = some (.int .u32 τ.cost) := by rw [World.cell?_alloc_lt w _ ⟨m, 3, Option.none⟩ hl]; exact c3
  go_region
  all_goals go_wp2_with fail
  all_goals (refine bodyPost_ret (v := vec τ.root τ.cost τ.id (i : Int)) (by simp [results, Try.results56, go_sem, hw]) rfl ?_)
  all_goals exact ⟨rfl, by repeat' (first | exact Keeps.refl _ _ | refine Keeps.drew ?_ | refine Keeps.alloc ?_ _ | refine Keeps.setCell ?_ (fun h => absurd h (by simp)) _)⟩
set_option maxHeartbeats 1000000 in
theorem rrole_far {w : World} {m g c f i : Nat} {τ : TM} (h : RMach w m g c f τ) (hi : τ.P.length ≤ i) :
    Calls Try.prog 43 #[.pointer (some ⟨m, 0, Option.none⟩), .int .i64 (i : Int)] w fun e w' => e = .returned (.int .u8 0) ∧ w = w' := by
  obtain ⟨⟨m0, m1, m2, m3, m4, m5, m6, m7⟩, _⟩ := h.cells
  have hd : decide (i < τ.P.length) = false := by simp; omega
  clear h m0 m2 m3 m4 m5 m6 m7
  go_enter Try.func43, Try.ntmps43
  go_wp2_with fail
  go_ret
  exact ⟨rfl, rfl⟩
set_option maxHeartbeats 8000000 in
theorem rrole_any {w : World} {m g c f i : Nat} {τ : TM} {x : Pt} (h : RMach w m g c f τ) (hx : τ.P[i]? = some x) (h8 : i < 256) :
    Calls Try.prog 43 #[.pointer (some ⟨m, 0, Option.none⟩), .int .i64 (i : Int)] w fun e w' => e = .returned (.int .u8 (τ.roleOf i x)) ∧ Keeps Nil w w' := by
  have hi := (List.getElem?_eq_some_iff.1 hx).1
  have hd : decide (i < τ.P.length) = true := by simp; omega
  obtain ⟨⟨m0, m1, m2, m3, m4, m5, m6, m7⟩, _⟩ := h.cells
  obtain ⟨c0, c1, c2, c3, c4, c5, c6, c7, c8, c9, c10, c11, c12, c13, c14, c15⟩ := h.row.read hx
  have HM := hid h
  have HX := hid hx
  obtain ⟨ro, hro⟩ : ∃ ro, τ.roleOf i x = ro := ⟨_, rfl⟩
  rw [hro]
  unfold TM.roleOf roleP at hro
  have HRO := hid hro
  clear hro h hx m2 m3 m5 m6 m7 c6 c7 c8 c9 c10 c11 c12 c14 c15
  obtain ⟨x0, x1, xh, x2, x3, x4⟩ := x
  simp only at c0 c1 c2 c3 c4 c5 c13
  cases x1 with
  | false =>
    have hv : ro = 0 := by rw [← HRO.out]; simp
    clear HRO
    subst hv
    go_enter Try.func43, Try.ntmps43
    go_wp2_with fail
    go_ret
    exact ⟨rfl, Keeps.refl _ _⟩
  | true =>
    by_cases h0 : x0 = 0
    · have hv : ro = 5 := by rw [← HRO.out]; simp [h0]
      clear HRO
      subst hv
      have h0' : (x0 == 0) = true := by simp [h0]
      have H0 := hid h0
      clear h0
      go_enter Try.func43, Try.ntmps43
      go_wp2_with fail
      go_ret
      exact ⟨rfl, Keeps.refl _ _⟩
    · have h0' : (x0 == 0) = false := by simp [h0]
      by_cases h1 : τ.port = i
      · have hv : ro = 1 := by rw [← HRO.out]; simp [h0, h1]
        clear HRO
        subst hv
        have h1' : (τ.port == (i : Int)) = true := by simp [h1]
        have H1 := hid h1
        clear h1
        go_enter Try.func43, Try.ntmps43
        go_wp2_with fail
        go_ret
        exact ⟨rfl, Keeps.refl _ _⟩
      · have h1' : (τ.port == (i : Int)) = false := by simp [h1]
        by_cases h2 : x2 = 0
        · have hv : ro = 2 := by rw [← HRO.out]; simp [h0, h1, h2]
          clear HRO
          subst hv
          have h2' : (x2 == 0) = true := by simp [h2]
          have H2 := hid h2
          clear h2
          go_enter Try.func43, Try.ntmps43
          go_wp2_with fail
          go_quiet (fail)
          go_wp2_with fail
          go_ret
          exact ⟨rfl, Keeps.drewN _ _⟩
        · have h2' : (x2 == 0) = false := by simp [h2]
          have HS : ∀ W, Keeps Nil w W → (W.cell? ⟨m, 1, Option.none⟩ = some (.slice (some ⟨g, 0, Option.none⟩) τ.P.length c) ∧ W.cell? ⟨g, i * 16 + 13, Option.none⟩ = some (.int .i64 x2) ∧ W.cell? ⟨g, i * 16 + 2, Option.none⟩ = some (.int .u64 xh.r) ∧ W.cell? ⟨g, i * 16 + 3, Option.none⟩ = some (.int .u32 xh.c) ∧ W.cell? ⟨g, i * 16 + 4, Option.none⟩ = some (.int .u64 xh.b) ∧ W.cell? ⟨g, i * 16 + 5, Option.none⟩ = some (.int .u8 xh.p)) := fun W k => by
            obtain ⟨_, _, c2, c3, c4, c5, _, _, _, _, _, _, _, c13, _, _⟩ := (HM.out.keepN k).row.read HX.out
            exact ⟨(HM.out.keepN k).cells.1.2.1, c13, c2, c3, c4, c5⟩
          have HS' := hid HS
          by_cases h3 : lessB τ.root τ.cost τ.id i xh.r xh.c xh.b xh.p = true
          · have hv : ro = 2 := by rw [← HRO.out]; simp [h0, h1, h2, h3]
            have SLH := hid h3
            clear HRO HS h3
            subst hv
            go_enter Try.func43, Try.ntmps43
            go_wp2_with fail
            have kk : Keeps Nil w w := Keeps.refl _ _
            go_region_held3 (fun W => W.cell? ⟨m, 1, Option.none⟩ = some (.slice (some ⟨g, 0, Option.none⟩) τ.P.length c) ∧ W.cell? ⟨g, i * 16 + 13, Option.none⟩ = some (.int .i64 x2) ∧ W.cell? ⟨g, i * 16 + 2, Option.none⟩ = some (.int .u64 xh.r) ∧ W.cell? ⟨g, i * 16 + 3, Option.none⟩ = some (.int .u32 xh.c) ∧ W.cell? ⟨g, i * 16 + 4, Option.none⟩ = some (.int .u64 xh.b) ∧ W.cell? ⟨g, i * 16 + 5, Option.none⟩ = some (.int .u8 xh.p)) (first | with_reducible exact HS'.out _ kk | with_reducible exact HS'.out _ kk.drew | go_keep) ((first | (go_at_call 56; refine (rown_any (HM.out.keepN (by first | exact kk | exact kk.drew)) h8).mono ?_; rintro e w2 ⟨rfl, k2⟩; replace kk : Keeps Nil w w2 := (by first | exact kk.trans k2 | exact kk.drew.trans k2); clear k2) | (go_at_call 57; refine (less_any _ _ _ _ _ _ _ _ _).mono ?_; rintro e w2 ⟨rfl, k2⟩; rw [SLH.out]; replace kk : Keeps Nil w w2 := (by first | exact kk.trans k2 | exact kk.drew.trans k2); clear k2)))
            go_wp2_with fail
            go_ret
            exact ⟨rfl, kk⟩
          · have h3' : lessB τ.root τ.cost τ.id i xh.r xh.c xh.b xh.p = false := by simpa using h3
            have SLH := hid h3'
            have hv : ro = if (xh.b == τ.id) = true then 4 else 3 := by rw [← HRO.out]; simp [h0, h1, h2, h3]
            clear HRO HS h3 h3'
            cases h4' : (xh.b == τ.id)
            all_goals
              rw [h4'] at hv
              simp only [if_true, Bool.false_eq_true, if_false] at hv
              subst hv
              go_enter Try.func43, Try.ntmps43
              go_wp2_with fail
              have kk : Keeps Nil w w := Keeps.refl _ _
              go_region_held3 (fun W => W.cell? ⟨m, 1, Option.none⟩ = some (.slice (some ⟨g, 0, Option.none⟩) τ.P.length c) ∧ W.cell? ⟨g, i * 16 + 13, Option.none⟩ = some (.int .i64 x2) ∧ W.cell? ⟨g, i * 16 + 2, Option.none⟩ = some (.int .u64 xh.r) ∧ W.cell? ⟨g, i * 16 + 3, Option.none⟩ = some (.int .u32 xh.c) ∧ W.cell? ⟨g, i * 16 + 4, Option.none⟩ = some (.int .u64 xh.b) ∧ W.cell? ⟨g, i * 16 + 5, Option.none⟩ = some (.int .u8 xh.p)) (first | with_reducible exact HS'.out _ kk | with_reducible exact HS'.out _ kk.drew | go_keep) ((first | (go_at_call 56; refine (rown_any (HM.out.keepN (by first | exact kk | exact kk.drew)) h8).mono ?_; rintro e w2 ⟨rfl, k2⟩; replace kk : Keeps Nil w w2 := (by first | exact kk.trans k2 | exact kk.drew.trans k2); clear k2) | (go_at_call 57; refine (less_any _ _ _ _ _ _ _ _ _).mono ?_; rintro e w2 ⟨rfl, k2⟩; rw [SLH.out]; replace kk : Keeps Nil w w2 := (by first | exact kk.trans k2 | exact kk.drew.trans k2); clear k2)))
              have M2 := hid (HM.out.keepN kk)
              obtain ⟨⟨n0, n1, _⟩, _⟩ := M2.out.cells
              obtain ⟨_, _, _, _, e4, _⟩ := M2.out.row.read HX.out
              go_wp2_with fail
              go_quiet (fail)
              go_wp2_with fail
              go_ret
              exact ⟨rfl, kk.trans (Keeps.drewN _ _)⟩
end Go.Proofs.Ytbbodecdijankaa
