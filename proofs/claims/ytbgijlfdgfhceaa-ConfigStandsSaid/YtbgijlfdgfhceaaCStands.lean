/-
  Layer 16: the law of ConfigStands. Condition: the acts lie so.
-/
import Derived.Test.YtbgijlfdgfhceaaStands
import Derived.Test.YtbgijlfdgfhceaaLaw16b
import Derived.IntWalk
import Derived.Deep.DeepCutAuto
import Derived.BigGuard
namespace Go.Proofs.Ytbgijlfdgfhceaa
open Go.RowKit
set_option linter.unusedVariables false
set_option linter.unusedSimpArgs false
set_option maxRecDepth 8000

theorem great_len {L : List Ac} (h : greatB L = false) : L.length ≤ 60 := by
  unfold greatB at h
  simp at h
  exact h.1
theorem tells_cases {d er : Int} {a b q : Nat} (h : Tells d er a b q) (hd : 0 ≤ d) : (((er != 0) = false) ∧ ((er == 0) = true) ∧ ((d == 0) = true) ∧ ((d == 1) = false) ∧ (¬ 1 < d) ∧ (decide (1 < d) = false) ∧ (¬ (1 : Int) < (q : Int)) ∧ (decide ((1 : Int) < (q : Int)) = false) ∧ (((b : Int) != (a : Int) + 1) = false) ∧ ((b != a + 1) = false) ∧ (((q : Int) != 1) = false)) ∨
    (((er != 0) = true) ∧ ((er == 0) = false) ∧ ((d == 0) = true) ∧ ((d == 1) = false) ∧ (¬ 1 < d) ∧ (decide (1 < d) = false) ∧ (¬ (1 : Int) < (q : Int)) ∧ (decide ((1 : Int) < (q : Int)) = false) ∧ (((b : Int) != (a : Int)) = false) ∧ ((b != a) = false) ∧ ((b == a) = true)) ∨
    (((er != 0) = false) ∧ ((er == 0) = true) ∧ ((d == 0) = false) ∧ ((d == 1) = true) ∧ (¬ 1 < d) ∧ (decide (1 < d) = false) ∧ (¬ (1 : Int) < (q : Int)) ∧ (decide ((1 : Int) < (q : Int)) = false) ∧ (((b : Int) != (a : Int) - 1) = false)) ∨
    (((er != 0) = true) ∧ ((er == 0) = false) ∧ ((d == 0) = false) ∧ ((d == 1) = true) ∧ (¬ 1 < d) ∧ (decide (1 < d) = false) ∧ (¬ (1 : Int) < (q : Int)) ∧ (decide ((1 : Int) < (q : Int)) = false) ∧ (((b : Int) != (a : Int)) = false) ∧ ((b != a) = false) ∧ ((b == a) = true)) ∨
    (((er != 0) = false) ∧ ((er == 0) = true) ∧ ((d == 0) = false) ∧ ((d == 1) = false) ∧ (1 < d) ∧ (decide (1 < d) = true) ∧ (¬ (1 : Int) < (q : Int)) ∧ (decide ((1 : Int) < (q : Int)) = false) ∧ (((b : Int) != (a : Int)) = false) ∧ ((b != a) = false) ∧ ((b == a) = true)) ∨
    (((er != 0) = true) ∧ ((er == 0) = false) ∧ ((d == 0) = false) ∧ ((d == 1) = false) ∧ (1 < d) ∧ (decide (1 < d) = true) ∧ (¬ (1 : Int) < (q : Int)) ∧ (decide ((1 : Int) < (q : Int)) = false) ∧ (((b : Int) != (a : Int)) = false) ∧ ((b != a) = false) ∧ ((b == a) = true)) := by
  have h1 := h.once
  rcases (show d = 0 ∨ d = 1 ∨ 1 < d by omega) with c | c | c
  · by_cases e : er = 0
    · have h2 := h.add c e
      exact .inl (by subst c e; simp; omega)
    · have h2 := h.no e
      exact .inr (.inl (by subst c; simp [e]; omega))
  · by_cases e : er = 0
    · have h2 := h.drop c e
      exact .inr (.inr (.inl (by subst c e; simp; omega)))
    · have h2 := h.no e
      exact .inr (.inr (.inr (.inl (by subst c; simp [e]; omega))))
  · have h2 := h.else_ c
    by_cases e : er = 0
    · exact .inr (.inr (.inr (.inr (.inl (by subst e; simp; omega)))))
    · exact .inr (.inr (.inr (.inr (.inr (by simp [e]; omega)))))
set_option maxHeartbeats 16000000 in
theorem cstands_any (p : Option Addr) (n c : Nat) (L : List Ac) (w : World) (hl : WV w 0 14 p n c (flatX L)) (hok : ∀ x ∈ L, x.Ok ∧ MsV w 0 x.a) (hm : n ≤ 9223372036854775807) :
    Calls Try.prog 5 #[.slice p n c] w fun e w' => e = .returned (.bool true) ∧ Keeps Nil w w' := by
  have WA := fun W => wakes_any W
  have GR := great_any 0 p n c L w hl hm
  have hlen : L.length = n := by have := hl.1; rw [flatX_len] at this; omega
  have HL := hid hl
  have HOK := hid hok
  have HLEN := hid hlen
  have hnc := hl.2.1
  clear hl hok
  cases hg : greatB L with
  | true =>
    rw [hg] at GR
    clear hlen
    go_enter Try.func5, Try.ntmps5
    go_wp2_with fail
    refine GR.mono ?_; rintro e w2 ⟨rfl, k2⟩
    go_wp2_with fail
    refine (WA _).mono ?_; rintro e w3 ⟨rfl, k3⟩
    go_wp2_with fail
    go_ret
    exact ⟨rfl, k2.trans k3⟩
  | false =>
    rw [hg] at GR
    have h60 := great_len hg
    rw [hlen] at h60
    clear hlen hg
    go_enter Try.func5, Try.ntmps5
    go_wp2_with fail
    refine GR.mono ?_; rintro e w2 ⟨rfl, k2⟩
    go_wp2_with fail
    refine (p_new 8 (by decide) (by decide) _).mono ?_; rintro e w3 ⟨⟨t, rfl, T3⟩, k3⟩
    have T3 := hid (OwnT.made T3 k3)
    have K2 := hid k2
    clear k2 k3
    go_wp2_with fail
    go_loopw [5] (fun i wr => ∃ k : Nat, k ≤ n ∧ i = .int .i64 k ∧ Hid (∃ τ, OwnT w2 wr t τ ∧ τ.Ok k ∧ τ.Inv)) (fun i _ => n - (intOf i).toNat)
    case atStart => exact ⟨0, Nat.zero_le _, rfl, hid ⟨_, T3.out, CT.Ok.start (by decide) (by decide), CT.Inv.start _⟩⟩
    case round =>
      obtain ⟨k, hk, rfl, HR⟩ := hrel
      obtain ⟨τ, hT, hO, hI⟩ := HR.out
      by_cases hlt : k < n
      · obtain ⟨x, hx⟩ : ∃ x, L[k]? = some x := ⟨_, List.getElem?_eq_getElem (by have := HLEN.out; omega)⟩
        have hmem := List.mem_of_getElem? hx
        have hG := hO.good (by omega)
        have hxo := (HOK.out x hmem).1
        have hd0 : 0 ≤ x.d := hxo.1.1
        have hd1 : x.d < 256 := hxo.1.2
        have PM := p_meps hT.1 hG
        have HX := hid hx
        have HT := hid hT
        have HO := hid hO
        have HI := hid hI
        have HG := hid hG
        have HXO := hid hxo
        have HMS := hid (HOK.out x hmem).2
        clear hx hmem hT hO hI hG hxo
        go_wp2_with fail
        refine PM.mono ?_; rintro e w4 ⟨⟨pw, cw, rfl, ow⟩, k4⟩
        have T4 := hid (HT.out.keep k4)
        obtain ⟨g, off, rfl, _, hgl, _, c0, c1, c2, c3, c4, c5, c6, c7, c8, c9, c10, c11, c12, c13⟩ := WV.atX (HL.out.keepN (K2.out.trans T4.out.2)) HX.out
        have PD := p_does x HXO.out 0 T4.out.1 HG.out (HMS.out.keepN (K2.out.trans T4.out.2))
        clear k4 ow
        go_wp2_with fail
        refine PD.mono ?_; rintro e w5 ⟨rfl, h5, k5⟩
        have T5 := hid (T4.out.step h5 k5)
        have O5 := hid (HO.out.does HXO.out)
        have I5 := hid (HI.out.does HG.out HXO.out)
        have TE := hid (does_tells HI.out HXO.out I5.out)
        clear h5 k5 c0 c1 c2 c3 c4 c5 c6 c7 c8 c9 c10 c11 c12 c13
        generalize (τ.does x).1 = τ2 at *
        generalize (τ.does x).2.1 = er1 at *
        generalize (τ.does x).2.2 = er at *
        have PM2 := p_meps T5.out.1 (O5.out.good (by omega))
        go_wp2_with fail
        refine PM2.mono ?_; rintro e w6 ⟨⟨pn, cn, rfl, on⟩, k6⟩
        have T6 := hid (T5.out.keep k6)
        have HN := hid (WV.of_own on)
        obtain ⟨g', off', e, _, hgl6, _, c0, c1, c2, c3, c4, c5, c6, c7, c8, c9, c10, c11, c12, c13⟩ := WV.atX (HL.out.keepN (K2.out.trans T6.out.2)) HX.out
        injection e with e; injection e with e1 e2; subst e1 e2
        clear k6 on
        go_wp2_with fail
        refine (mep_any x.e.ai x.e.id x.e.port x.e.up w6).mono ?_; rintro e w7 ⟨rfl, k7⟩
        have k8 : Keeps Nil w7 (w7.alloc (.cells #[.int .i64 x.e.ai, .int .u16 x.e.id, .int .u8 x.e.port, .bool x.e.up] 59 (0, 0))) := (Keeps.refl _ _).alloc _
        have hb10 := alloc_block w7 (.cells #[.int .i64 x.e.ai, .int .u16 x.e.id, .int .u8 x.e.port, .bool x.e.up] 59 (0, 0))
        go_upto_region 13 with (fail)
        generalize (w7.alloc (.cells #[.int .i64 x.e.ai, .int .u16 x.e.id, .int .u8 x.e.port, .bool x.e.up] 59 (0, 0))) = w8 at *
        obtain ⟨b10, e10⟩ : ∃ b10, b10 = w7.heap.size := ⟨_, rfl⟩
        rw [← e10] at hb10 ⊢
        have T8 := hid ((T6.out.keep k7).keep k8)
        have HN8 := hid ((HN.out.keepN k7).keepN k8)
        have hn2 := HN8.out.2.1
        have hE2 := O5.out.E
        have HB10 := hid hb10
        clear k7 k8 hb10 e10 c0 c1 c2 c3 c4 c5 c6 c7 c8 c9 c10 c11 c12 c13
        go_cut [11] from 26 to 64 (fun s11 wx => s11 = .int .i64 0 ∧ wx = w8)
        case first =>
          go_wp2_with fail
          go_meet
          exact ⟨rfl, rfl⟩
        case rest =>
        obtain ⟨rfl, hwc⟩ := hcut
        have hwc := hwc.symm
        subst hwc
        go_wp2_with fail
        go_loopw [11, 12] (fun s11 s12 wx => ∃ j q : Nat, j ≤ τ2.E.length ∧ s12 = .int .i64 j ∧ s11 = .int .i64 q ∧ Hid (q = cnt (τ2.E.take j) x.e ∧ Keeps Nil w8 wx)) (fun _ s12 _ => τ2.E.length - (intOf s12).toNat)
        case atStart => exact ⟨0, 0, Nat.zero_le _, rfl, rfl, hid ⟨by simp [cnt], Keeps.refl _ _⟩⟩
        case round =>
          obtain ⟨j, q, hj, rfl, rfl, HQ⟩ := hrel
          have T9 := hid (T8.out.keep HQ.out.2)
          have HN9 := hid (HN8.out.keepN HQ.out.2)
          have hq60 : q ≤ j := by rw [HQ.out.1]; exact cnt_le j x.e
          by_cases hjl : j < τ2.E.length
          · obtain ⟨y, hy⟩ : ∃ y, τ2.E[j]? = some y := ⟨_, List.getElem?_eq_getElem hjl⟩
            obtain ⟨g2, off2, rfl, _, hg2, _, d0, d1, d2, d3⟩ := WV.atE HN9.out hy
            have hb := (HQ.out.2.block _ (lt_of_block HB10.out) (fun e => e)).trans HB10.out
            obtain ⟨m0, m1, m2, m3⟩ := four_block hb
            have lb := lt_of_block hb
            have HYJ := hid hy
            clear hy hb
            by_cases he : y = x.e
            · have hq : ∀ W, (binOp .eql 59 (.agg #[.int .i64 y.ai, .int .u16 y.id, .int .u8 y.port, .bool y.up]) (.agg #[.int .i64 x.e.ai, .int .u16 x.e.id, .int .u8 x.e.port, .bool x.e.up])).run Try.prog W = .ok (.bool true) W := fun W => eql59 _ _ _ _ _ _ _ _ true (by simp [he]) W
              have HE := hid he
              clear he
              go_wp2_with fail
              go_quiet (fail)
              go_wp2_with fail
              go_roundw
              case rel => exact ⟨j + 1, q + 1, by omega, by go_num, by go_num, hid ⟨by rw [cnt_take HYJ.out, if_pos HE.out, HQ.out.1], HQ.out.2.trans (Keeps.drewN _ _)⟩⟩
              case measure => simp only [intOf]; omega
            · have hq : ∀ W, (binOp .eql 59 (.agg #[.int .i64 y.ai, .int .u16 y.id, .int .u8 y.port, .bool y.up]) (.agg #[.int .i64 x.e.ai, .int .u16 x.e.id, .int .u8 x.e.port, .bool x.e.up])).run Try.prog W = .ok (.bool false) W := fun W => eql59 _ _ _ _ _ _ _ _ false (by
                rw [decide_eq_false_iff_not]
                rintro ⟨h1, h2, h3, h4⟩
                obtain ⟨a, b, c, d⟩ := y
                simp only at h1 h2 h3 h4
                subst h1 h2 h3 h4
                exact he rfl) W
              have HE := hid he
              clear he
              go_wp2_with fail
              go_quiet (fail)
              go_wp2_with fail
              go_roundw
              case rel => exact ⟨j + 1, q, by omega, by go_num, rfl, hid ⟨by rw [cnt_take HYJ.out, if_neg HE.out, HQ.out.1, Nat.add_zero], HQ.out.2.trans (Keeps.drewN _ _)⟩⟩
              case measure => simp only [intOf]; omega
          · obtain rfl : j = τ2.E.length := by omega
            have hqq := HQ.out.1
            rw [List.take_length] at hqq
            have TE2 := TE.out
            rw [← hqq] at TE2
            have HT2 := hid TE2
            obtain ⟨g9, off9, e9, _, hg9, _, c0, c1, c2, c3, c4, c5, c6, c7, c8, c9, c10, c11, c12, c13⟩ := WV.atX (HL.out.keepN (K2.out.trans T9.out.2)) HX.out
            injection e9 with e9; injection e9 with e1 e2; subst e1 e2
            have hq1 : q ≤ 1 := by have := TE2.once; omega
            have hlA := HO.out.E
            clear hqq TE2 c1 c2 c3 c4 c5 c6 c7 c8 c9 c10 c11 c12 c13
            have hw1 : IntKind.i64.wrap ((τ.E.length : Int) + 1) = (τ.E.length : Int) + 1 := IntWalk.i64_in _ (by omega)
            have hw2 : IntKind.i64.wrap ((τ.E.length : Int) - 1) = (τ.E.length : Int) - 1 := IntWalk.i64_in _ (by omega)
            have HW := hid (And.intro hw1 hw2)
            clear hw1 hw2
            go_upto_region 19 with (fail)
            obtain ⟨hw1, hw2⟩ := HW.out
            go_cut [136] (fun s136 wx => s136 = .bool false ∧ wx = wr)
            case first =>
              rcases tells_cases HT2.out hd0 with ⟨f0, f1, f2, f3, f4, f5, f6, f7, f8, f9, f10⟩ | ⟨f0, f1, f2, f3, f4, f5, f6, f7, f8, f9, f10⟩ | ⟨f0, f1, f2, f3, f4, f5, f6, f7, f8⟩ | ⟨f0, f1, f2, f3, f4, f5, f6, f7, f8, f9, f10⟩ | ⟨f0, f1, f2, f3, f4, f5, f6, f7, f8, f9, f10⟩ | ⟨f0, f1, f2, f3, f4, f5, f6, f7, f8, f9, f10⟩
              all_goals
                try clear HL
                try clear HOK
                try clear K2
                try clear HLEN
                try clear HX
                try clear HT
                try clear HO
                try clear HI
                try clear HG
                try clear HXO
                try clear HMS
                try clear T4
                try clear PD
                try clear T5
                try clear O5
                try clear I5
                try clear TE
                try clear PM2
                try clear T6
                try clear HN
                try clear T8
                try clear HN8
                try clear HB10
                try clear HQ
                try clear T9
                try clear HN9
                try clear HT2
                try clear HW
                try clear WA
                try clear GR
                try clear T3
                try clear PM
                try clear HR
                dsimp only [List.append]
                go_wp2_with fail
                go_meet
                exact ⟨rfl, rfl⟩
            case rest =>
              obtain ⟨rfl, rfl⟩ := hcut
              have T10 := hid T9.out
              have HN10 := hid HN9.out
              have ST := stands_any T10.out.1 (O5.out.good (by omega)) I5.out _ pn cn HN10.out
              go_wp2_with fail
              refine ST.mono ?_; rintro e w11 ⟨rfl, k11⟩
              go_wp2_with fail
              go_roundw
              case rel => exact ⟨k + 1, by omega, by go_num, hid ⟨τ2, T10.out.keep k11, O5.out, I5.out⟩⟩
              case measure => simp only [intOf]; omega
      · obtain rfl : k = n := by omega
        go_wp2_with fail
        refine (WA _).mono ?_; rintro e w9 ⟨rfl, k9⟩
        go_wp2_with fail
        go_ret
        exact ⟨rfl, (K2.out.trans hT.2).trans k9⟩
end Go.Proofs.Ytbgijlfdgfhceaa
