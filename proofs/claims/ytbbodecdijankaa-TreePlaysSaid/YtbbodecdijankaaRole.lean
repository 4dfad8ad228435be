/-
  Layer 9: a port's role. Conditions: the machine lies so.
-/
import Derived.Test.YtbbodecdijankaaRole0
namespace Go.Proofs.Ytbbodecdijankaa
open Go.RowKit
set_option linter.unusedVariables false
set_option linter.unusedSimpArgs false

/-- Which one of two vectors is less, as the comparison tells it. -/
theorem stand_less (r c b p r' c' b' p' : Int) : decide (stand r c b p r' c' b' p' < 0) = lessB r c b p r' c' b' p' := by
  unfold stand lessB
  simp only [firstOf, way]
  by_cases h0 : r = r'
  · subst h0
    by_cases h1 : c = c'
    · subst h1
      by_cases h2 : b = b'
      · subst h2
        by_cases h3 : p < p'
        · simp [h3]
        · by_cases h4 : p' < p <;> simp [h3, h4]
      · by_cases h3 : b < b'
        · simp [h2, h3]
        · have : b' < b := by omega
          simp [h2, h3, this]
    · by_cases h3 : c < c'
      · simp [h1, h3]
      · have : c' < c := by omega
        simp [h1, h3, this]
  · by_cases h3 : r < r'
    · simp [h0, h3]
    · have : r' < r := by omega
      simp [h0, h3, this]
set_option maxHeartbeats 4000000 in
theorem role_any {w : World} {m g c i : Nat} {τ : TM} {x : Pt} (h : Mach w m g c τ) (hx : τ.P[i]? = some x) (h8 : i < 256) :
    Calls Try.prog 24 #[.pointer (some ⟨m, 0, Option.none⟩), .int .u8 (i : Int)] w fun e w' => e = .returned (.int .u8 (τ.roleOf i x)) ∧ Keeps Nil w w' := by
  have hi := (List.getElem?_eq_some_iff.1 hx).1
  obtain ⟨⟨m0, m1, m2, m3, m4, m5, m6, m7⟩, _⟩ := h.cells
  obtain ⟨c0, c1, c2, c3, c4, c5, c6, c7, c8, c9, c10, c11, c12, c13, c14, c15⟩ := h.row.read hx
  have AT := hid (at_some h hi)
  have HM := hid h
  have HX := hid hx
  obtain ⟨ro, hro⟩ : ∃ ro, τ.roleOf i x = ro := ⟨_, rfl⟩
  rw [hro]
  unfold TM.roleOf roleP at hro
  have HRO := hid hro
  clear hro h hx m1 m2 m3 m5 m6 m7 c6 c7 c8 c9 c10 c11 c12 c14 c15
  obtain ⟨x0, x1, xh, x2, x3, x4⟩ := x
  simp only at c0 c1 c2 c3 c4 c5 c13
  cases x1 with
  | false =>
    have hv : ro = 0 := by rw [← HRO.out]; simp
    clear HRO
    subst hv
    go_enter Try.func24, Try.ntmps24
    go_wp2_with (go_at_call 40; refine AT.out.mono ?_; rintro e w' ⟨rfl, rfl⟩)
    go_ret
    exact ⟨rfl, Keeps.refl _ _⟩
  | true =>
    by_cases h0 : x0 = 0
    · have hv : ro = 5 := by rw [← HRO.out]; simp [h0]
      clear HRO
      subst hv
      have h0' : (x0 == 0) = true := by simp [h0]
      have H0 := hid h0
      clear h0
      go_enter Try.func24, Try.ntmps24
      go_wp2_with (go_at_call 40; refine AT.out.mono ?_; rintro e w' ⟨rfl, rfl⟩)
      go_ret
      exact ⟨rfl, Keeps.refl _ _⟩
    · have h0' : (x0 == 0) = false := by simp [h0]
      by_cases h1 : τ.port = i
      · have hv : ro = 1 := by rw [← HRO.out]; simp [h0, h1]
        clear HRO
        subst hv
        have h1' : (τ.port == (i : Int)) = true := by simp [h1]
        have H1 := hid h1
        clear h1
        go_enter Try.func24, Try.ntmps24
        go_wp2_with (go_at_call 40; refine AT.out.mono ?_; rintro e w' ⟨rfl, rfl⟩)
        go_ret
        exact ⟨rfl, Keeps.refl _ _⟩
      · have h1' : (τ.port == (i : Int)) = false := by simp [h1]
        by_cases h2 : x2 = 0
        · have hv : ro = 2 := by rw [← HRO.out]; simp [h0, h1, h2]
          clear HRO
          subst hv
          have h2' : (x2 == 0) = true := by simp [h2]
          have H2 := hid h2
          clear h2
          go_enter Try.func24, Try.ntmps24
          go_wp2_with (go_at_call 40; refine AT.out.mono ?_; rintro e w' ⟨rfl, rfl⟩)
          go_quiet (fail)
          go_wp2_with fail
          go_ret
          exact ⟨rfl, Keeps.drewN _ _⟩
        · have h2' : (x2 == 0) = false := by simp [h2]
          have HS : ∀ W, Keeps Nil w W → (W.cell? ⟨g, i * 16 + 13, Option.none⟩ = some (.int .i64 x2) ∧ W.cell? ⟨g, i * 16 + 2, Option.none⟩ = some (.int .u64 xh.r) ∧ W.cell? ⟨g, i * 16 + 3, Option.none⟩ = some (.int .u32 xh.c) ∧ W.cell? ⟨g, i * 16 + 4, Option.none⟩ = some (.int .u64 xh.b) ∧ W.cell? ⟨g, i * 16 + 5, Option.none⟩ = some (.int .u8 xh.p)) := fun W k => by
            obtain ⟨_, _, c2, c3, c4, c5, _, _, _, _, _, _, _, c13, _, _⟩ := (HM.out.keepN k).row.read HX.out
            exact ⟨c13, c2, c3, c4, c5⟩
          have HS' := hid HS
          have SL := stand_less τ.root τ.cost τ.id i xh.r xh.c xh.b xh.p
          have hdr : ∀ W, Keeps Nil w W → Keeps Nil w W.drew := fun W k => k.drew
          by_cases h3 : lessB τ.root τ.cost τ.id i xh.r xh.c xh.b xh.p = true
          · have hv : ro = 2 := by rw [← HRO.out]; simp [h0, h1, h2, h3]
            rw [h3] at SL
            have SLH := hid SL
            clear HRO HS SL h3
            subst hv
            go_enter Try.func24, Try.ntmps24
            go_wp2_with (go_at_call 40; refine AT.out.mono ?_; rintro e w' ⟨rfl, rfl⟩)
            have kk := (Keeps.refl Nil w).drew
            have SLX := SLH.out
            go_region_held3 (fun W => W.cell? ⟨g, i * 16 + 13, Option.none⟩ = some (.int .i64 x2) ∧ W.cell? ⟨g, i * 16 + 2, Option.none⟩ = some (.int .u64 xh.r) ∧ W.cell? ⟨g, i * 16 + 3, Option.none⟩ = some (.int .u32 xh.c) ∧ W.cell? ⟨g, i * 16 + 4, Option.none⟩ = some (.int .u64 xh.b) ∧ W.cell? ⟨g, i * 16 + 5, Option.none⟩ = some (.int .u8 xh.p)) (first | go_keep | exact HS'.out _ kk) ((first
              | (go_at_call 46; refine (own_any (i : Int) (HM.out.keepN kk)).mono ?_; rintro e w2 ⟨rfl, k2⟩; replace kk := kk.trans k2)
              | (go_at_call 45; refine (compare_any _ _ _ _ _ _ _ _ _).mono ?_; rintro e w2 ⟨rfl, k2⟩; replace kk := kk.trans k2)))
            go_wp2_with fail
            go_ret
            exact ⟨rfl, kk⟩
          · have h3' : lessB τ.root τ.cost τ.id i xh.r xh.c xh.b xh.p = false := by simpa using h3
            rw [h3'] at SL
            have SLH := hid SL
            have hv : ro = if (xh.b == τ.id) = true then 4 else 3 := by rw [← HRO.out]; simp [h0, h1, h2, h3]
            clear HRO HS SL h3 h3'
            cases h4' : (xh.b == τ.id)
            all_goals
              rw [h4'] at hv
              simp only [if_true, Bool.false_eq_true, if_false] at hv
              subst hv
              go_enter Try.func24, Try.ntmps24
              go_wp2_with (go_at_call 40; refine AT.out.mono ?_; rintro e w' ⟨rfl, rfl⟩)
              have kk := (Keeps.refl Nil w).drew
              have SLX := SLH.out
              go_region_held3 (fun W => W.cell? ⟨g, i * 16 + 13, Option.none⟩ = some (.int .i64 x2) ∧ W.cell? ⟨g, i * 16 + 2, Option.none⟩ = some (.int .u64 xh.r) ∧ W.cell? ⟨g, i * 16 + 3, Option.none⟩ = some (.int .u32 xh.c) ∧ W.cell? ⟨g, i * 16 + 4, Option.none⟩ = some (.int .u64 xh.b) ∧ W.cell? ⟨g, i * 16 + 5, Option.none⟩ = some (.int .u8 xh.p)) (first | go_keep | exact HS'.out _ kk) ((first
                | (go_at_call 46; refine (own_any (i : Int) (HM.out.keepN kk)).mono ?_; rintro e w2 ⟨rfl, k2⟩; replace kk := kk.trans k2)
                | (go_at_call 45; refine (compare_any _ _ _ _ _ _ _ _ _).mono ?_; rintro e w2 ⟨rfl, k2⟩; replace kk := kk.trans k2)))
              have M2 := hid (HM.out.keepN kk)
              obtain ⟨⟨n0, _⟩, _⟩ := M2.out.cells
              obtain ⟨_, _, _, _, e4, _⟩ := M2.out.row.read HX.out
              go_wp2_with fail
              go_quiet (fail)
              go_wp2_with fail
              go_ret
              exact ⟨rfl, kk.trans (Keeps.drewN _ _)⟩
end Go.Proofs.Ytbbodecdijankaa
