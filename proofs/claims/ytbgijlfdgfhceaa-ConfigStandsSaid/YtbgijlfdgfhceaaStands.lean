/-
  Layer 16: stands. Conditions: the table lies so; what stands where holds.
-/
import Derived.Test.YtbgijlfdgfhceaaWakes
import Derived.Test.YtbgijlfdgfhceaaLaw16
import Derived.Deep.RegionHeld3
import Derived.Deep.DeepCutAuto
namespace Go.Proofs.Ytbgijlfdgfhceaa
open Go.RowKit
set_option linter.unusedVariables false
set_option linter.unusedSimpArgs false
set_option maxRecDepth 8000

theorem of_asc {τ : CT} (g : τ.Good) {x : Me} (hx : x ∈ τ.E) : τ.asc x.ai = some (τ.of x) := by
  have h := g.ent x hx
  unfold CT.asc CT.of
  rw [if_pos h.1.1, List.getD, List.getElem?_eq_getElem (by omega)]
  rfl
set_option maxHeartbeats 8000000 in
theorem stands_any {w : World} {S : Nat → Prop} {t : Nat} {τ : CT} (h : Tbl w S t τ) (hg : τ.Good) (hi : τ.Inv) (B : Nat) (p : Option Addr) (c : Nat) (hl : WV w B 4 p τ.E.length c (flatE τ.E)) :
    Calls Try.prog 16 #[.pointer (some ⟨t, 0, Option.none⟩), .slice p τ.E.length c] w fun e w' => e = .returned (.bool true) ∧ Keeps Nil w w' := by
  have H := hid h
  have HG := hid hg
  have HI := hid hi
  have HL := hid hl
  have hE100 := hg.E
  have hnc := hl.2.1
  clear h hg hi hl
  go_enter Try.func16, Try.ntmps16
  go_wp2_with fail
  go_loopw [5] (fun i wr => ∃ k : Nat, k ≤ τ.E.length ∧ i = .int .i64 k ∧ Hid (Keeps Nil w wr)) (fun i _ => τ.E.length - (intOf i).toNat)
  case atStart => exact ⟨0, Nat.zero_le _, rfl, hid (Keeps.refl _ _)⟩
  case round =>
    obtain ⟨k, hk, rfl, HR⟩ := hrel
    by_cases hlt : k < τ.E.length
    · obtain ⟨x, hx⟩ : ∃ x, τ.E[k]? = some x := ⟨_, List.getElem?_eq_getElem hlt⟩
      have hmem := List.mem_of_getElem? hx
      have hent := HG.out.ent x hmem
      have hasc := of_asc HG.out hmem
      have hlv := HG.out.lv hmem
      obtain ⟨y, hy⟩ : ∃ y, y = τ.of x := ⟨_, rfl⟩
      rw [← hy] at hasc hlv
      have hlv0 : 0 ≤ y.lv := hlv.1
      have hlv7 : y.lv ≤ 7 := hlv.2
      have hyv := (HG.out.may y (by
        rcases asc_cases τ x.ai with ⟨h1, _⟩ | ⟨i, z, _, hz, h2⟩
        · rw [h1] at hasc; cases hasc
        · rw [h2] at hasc; injection hasc with hasc; subst hasc; exact List.mem_of_getElem? hz)).2.2
      have PA := p_assoc x.ai (H.out.keepN HR.out) HG.out
      rw [hasc] at PA
      obtain ⟨g, off, rfl, _, hgl, _, c0, c1, c2, c3⟩ := WV.atE (HL.out.keepN HR.out) hx
      have HX := hid hx
      have HM := hid hmem
      have HY := hid hy
      have HYV := hid hyv
      have HP := hid hent.2
      clear hx hmem hent hasc hlv hy hyv
      go_wp2_with fail
      refine PA.mono ?_; rintro e w1 ⟨⟨pm, cm, rfl, own⟩, k1⟩
      have kk2 : Keeps Nil w1 (w1.alloc (.cells #[.int .u8 y.lv, .string y.dom, .string y.own, .int .u16 y.vid, .int .u8 y.iv, .slice pm y.ms.length cm] 50 (0, 0))) := (Keeps.refl _ _).alloc _
      have hb6 := alloc_block w1 (.cells #[.int .u8 y.lv, .string y.dom, .string y.own, .int .u16 y.vid, .int .u8 y.iv, .slice pm y.ms.length cm] 50 (0, 0))
      go_upto_region 5 with (fail)
      try simp only [Option.getD_some, Option.isSome_some]
      generalize (w1.alloc (.cells #[.int .u8 y.lv, .string y.dom, .string y.own, .int .u16 y.vid, .int .u8 y.iv, .slice pm y.ms.length cm] 50 (0, 0))) = w2 at *
      obtain ⟨b6, e6⟩ : ∃ b6, b6 = w1.heap.size := ⟨_, rfl⟩
      rw [← e6] at hb6 ⊢
      have K2 := hid ((HR.out.trans k1).trans kk2)
      have HB6 := hid hb6
      have hS : ∀ X, Keeps Nil w2 X → X.cell? ⟨g, off + k * 4 + 2, Option.none⟩ = some (.int .u8 x.port) ∧ X.cell? ⟨b6, 3, Option.none⟩ = some (.int .u16 y.vid) := fun X kX =>
        ⟨(WV.atE ((HL.out.keepN K2.out).keepN kX) HX.out).elim (fun g' h => by obtain ⟨off', e, _, _, _, d0, d1, d2, d3⟩ := h; injection e with e; injection e with e1 e2; subst e1 e2; exact d2), (six_block ((kX.block _ (lt_of_block HB6.out) (fun e => e)).trans HB6.out)).2.2.2.1⟩
      have PT : ∀ X, Keeps Nil w2 X → Calls Try.prog 14 #[.pointer (some ⟨t, 0, Option.none⟩), .int .u8 x.port, .int .u16 y.vid] X fun e w' => e = .returned (.agg #[.int .u8 (τ.lset x.port y.vid false τ.E), .int .u8 (τ.lset x.port y.vid true τ.E), .int .i64 (τ.mid x.port y.vid)]) ∧ Keeps Nil X w' := fun X kX =>
        p_at x.port y.vid ⟨by have := HP.out; omega, HYV.out⟩ (H.out.keepN (K2.out.trans kX)) HG.out
      have HS := hid hS
      have HPT := hid PT
      obtain ⟨s0, s1⟩ := hS w2 (Keeps.refl _ _)
      have hgl2 : g < w2.heap.size := Nat.lt_of_lt_of_le hgl (Nat.le_trans k1.size kk2.size)
      have hb6l := lt_of_block hb6
      clear hb6 hS PT k1 kk2 own e6
      go_cut [8] (fun s8 wx => ∃ b8, s8 = .pointer (some ⟨b8, 0, Option.none⟩) ∧ Hid (wx.heap[b8]? = some (.cells #[.int .u8 (τ.lset x.port y.vid false τ.E), .int .u8 (τ.lset x.port y.vid true τ.E), .int .i64 (τ.mid x.port y.vid)] 56 (0, 0)) ∧ Keeps Nil w2 wx))
      case first =>
        go_region_held3 (fun X => X.cell? ⟨g, off + k * 4 + 2, Option.none⟩ = some (.int .u8 x.port) ∧ X.cell? ⟨b6, 3, Option.none⟩ = some (.int .u16 y.vid)) (first | exact HS.out _ (Keeps.refl _ _) | exact HS.out _ (Keeps.refl _ _).drew | exact HS.out _ ((Keeps.refl _ _).alloc _) | exact HS.out _ ((Keeps.refl _ _).alloc _).drew | exact HS.out _ ((Keeps.refl _ _).drew.alloc _) | exact HS.out _ kk | exact HS.out _ (kk.alloc _) | exact HS.out _ (((kk.setCell (p := ⟨w2.heap.size, 0, Option.none⟩) (fun h => absurd h (Nat.lt_irrefl _)) _).setCell (p := ⟨w2.heap.size, 1, Option.none⟩) (fun h => absurd h (Nat.lt_irrefl _)) _).setCell (p := ⟨w2.heap.size, 2, Option.none⟩) (fun h => absurd h (Nat.lt_irrefl _)) _))
          ((first
            | (go_at_call 14; refine (HPT.out w2 (Keeps.refl _ _)).mono ?_; rintro ee wv ⟨rfl, kv⟩; have kk : Keeps Nil w2 wv := kv)
            | (go_at_call 14; refine (HPT.out _ (Keeps.refl _ _).drew).mono ?_; rintro ee wv ⟨rfl, kv⟩; have kk : Keeps Nil w2 wv := (Keeps.refl _ _).drew.trans kv)
            | (go_at_call 14; refine (HPT.out _ ((Keeps.refl _ _).alloc _)).mono ?_; rintro ee wv ⟨rfl, kv⟩; have kk : Keeps Nil w2 wv := ((Keeps.refl _ _).alloc _).trans kv; have hb8 := (kv.block w2.heap.size (by simp) (fun e => e)).trans (show _ = some (.cells #[.int .u8 0, .int .u8 0, .int .i64 0] 56 (0, 0)) from alloc_block w2 _); obtain ⟨q0, q1, q2⟩ := three_block hb8; have lb8 := lt_of_block hb8; have hf8 : ∀ q, wv.frozen? ⟨w2.heap.size, q, Option.none⟩ = false := (fun q => by simp [World.frozen?, hb8]); have HB8 := hid hb8; clear hb8)
            | (go_at_call 14; refine (HPT.out _ ((Keeps.refl _ _).alloc _).drew).mono ?_; rintro ee wv ⟨rfl, kv⟩; have kk : Keeps Nil w2 wv := ((Keeps.refl _ _).alloc _).drew.trans kv; have hb8 := (kv.block w2.heap.size (by simp) (fun e => e)).trans (show _ = some (.cells #[.int .u8 0, .int .u8 0, .int .i64 0] 56 (0, 0)) from alloc_block w2 _); obtain ⟨q0, q1, q2⟩ := three_block hb8; have lb8 := lt_of_block hb8; have hf8 : ∀ q, wv.frozen? ⟨w2.heap.size, q, Option.none⟩ = false := (fun q => by simp [World.frozen?, hb8]); have HB8 := hid hb8; clear hb8)
            | (go_at_call 14; refine (HPT.out _ ((Keeps.refl _ _).drew.alloc _)).mono ?_; rintro ee wv ⟨rfl, kv⟩; have kk : Keeps Nil w2 wv := ((Keeps.refl _ _).drew.alloc _).trans kv; have hb8 := (kv.block w2.heap.size (by simp) (fun e => e)).trans (show _ = some (.cells #[.int .u8 0, .int .u8 0, .int .i64 0] 56 (0, 0)) from alloc_block w2 _); obtain ⟨q0, q1, q2⟩ := three_block hb8; have lb8 := lt_of_block hb8; have hf8 : ∀ q, wv.frozen? ⟨w2.heap.size, q, Option.none⟩ = false := (fun q => by simp [World.frozen?, hb8]); have HB8 := hid hb8; clear hb8)))
        all_goals (go_wp2_with fail; go_meet)
        all_goals first
          | exact ⟨_, rfl, hid ⟨alloc_block _ _, kk.alloc _⟩⟩
          | exact ⟨_, rfl, hid ⟨store_3 HB8.out _ _ _, (((kk.setCell (p := ⟨w2.heap.size, 0, Option.none⟩) (fun h => absurd h (Nat.lt_irrefl _)) _).setCell (p := ⟨w2.heap.size, 1, Option.none⟩) (fun h => absurd h (Nat.lt_irrefl _)) _).setCell (p := ⟨w2.heap.size, 2, Option.none⟩) (fun h => absurd h (Nat.lt_irrefl _)) _)⟩⟩
      case rest =>
        obtain ⟨b8, rfl, HC⟩ := hcut
        have hb6 := (HC.out.2.block _ (lt_of_block HB6.out) (fun e => e)).trans HB6.out
        obtain ⟨o0, o1, o2⟩ := three_block HC.out.1
        obtain ⟨y0, y1, y2, y3, y4, y5⟩ := six_block hb6
        have lb6 := lt_of_block hb6
        have lb8 := lt_of_block HC.out.1
        have HLc := hid ((HL.out.keepN K2.out).keepN HC.out.2)
        have HB6c := hid hb6
        have hcc : wc.cell? ⟨g, off + k * 4 + 2, Option.none⟩ = some (.int .u8 x.port) ∧ wc.cell? ⟨g, off + k * 4 + 3, Option.none⟩ = some (.bool x.up) := by
          obtain ⟨g', off', e, _, _, _, d0, d1, d2, d3⟩ := WV.atE HLc.out HX.out
          injection e with e; injection e with e1 e2; subst e1 e2; exact ⟨d2, d3⟩
        obtain ⟨d2, d3⟩ := hcc
        have hglc : g < wc.heap.size := Nat.lt_of_lt_of_le hgl2 HC.out.2.size
        have R0 := lset_range HG.out x.port y.vid false τ.E (fun x hx => hx) 0 (by decide)
        have R1 := lset_range HG.out x.port y.vid true τ.E (fun x hx => hx) 0 (by decide)
        have r0 : 0 ≤ τ.lset x.port y.vid false τ.E := R0.1
        have r1 : τ.lset x.port y.vid false τ.E < 256 := R0.2
        have r2 : 0 ≤ τ.lset x.port y.vid true τ.E := R1.1
        have r3 : τ.lset x.port y.vid true τ.E < 256 := R1.2
        have hse := seen HG.out HM.out
        rw [← HY.out] at hse
        have HSE := hid hse
        have HMD := hid (show τ.mid x.port y.vid < 0 ∨ (0 ≤ τ.mid x.port y.vid ∧ y.lv < τ.mid x.port y.vid) by
          unfold CT.mid
          cases hs : sget τ.M ⟨x.port, y.vid⟩ with
          | none => exact .inl (by decide)
          | some l =>
            have h1 := HG.out.lev _ _ hs
            have h2 := HI.out.above x HM.out l (by rw [← HY.out]; exact hs)
            rw [← HY.out] at h2
            exact .inr ⟨h1.1, h2⟩)
        clear hb6 R0 R1 hse s0 s1
        go_upto_if 44 with (fail)
        go_cut [9] (fun s9 wx => s9 = .int .u8 (τ.lset x.port y.vid x.up τ.E) ∧ wx = wc)
        case first =>
          cases hu : x.up with
          | true =>
            rw [hu] at d3
            go_wp2_with fail
            go_meet
            exact ⟨by rw [hu], rfl⟩
          | false =>
            rw [hu] at d3
            go_wp2_with fail
            go_meet
            exact ⟨by rw [hu], rfl⟩
        case rest =>
          obtain ⟨rfl, rfl⟩ := hcut
          have R2 := lset_range HG.out x.port y.vid x.up τ.E (fun x hx => hx) 0 (by decide)
          have r4 : 0 ≤ τ.lset x.port y.vid x.up τ.E := R2.1
          have r5 : τ.lset x.port y.vid x.up τ.E < 256 := R2.2
          clear R2
          go_upto_region 9 with (fail)
          go_cut [69] (fun s69 wx => s69 = .bool false ∧ wx = wc)
          case first =>
            have hse := HSE.out
            rcases HMD.out with hm | ⟨hm1, hm2⟩
            · have hm' : ¬ 0 ≤ τ.mid x.port y.vid := by omega
              go_wp2_with fail
              go_meet
              exact ⟨rfl, rfl⟩
            · have hm' : ¬ τ.mid x.port y.vid ≤ y.lv := by omega
              go_wp2_with fail
              go_meet
              exact ⟨rfl, rfl⟩
          case rest =>
            obtain ⟨rfl, rfl⟩ := hcut
            go_wp2_with fail
            have hbc := hid (And.intro HB6c.out HC.out.1)
            go_loopw [10] (fun i wq => ∃ j : Nat, j ≤ k ∧ i = .int .i64 j ∧ Hid (Keeps Nil wc wq)) (fun i _ => k - (intOf i).toNat)
            case atStart => exact ⟨0, Nat.zero_le _, rfl, hid (Keeps.refl _ _)⟩
            case round =>
              obtain ⟨j, hj, rfl, HQ⟩ := hrel
              have KQ := hid (K2.out.trans (HC.out.2.trans HQ.out))
              by_cases hjk : j < k
              · obtain ⟨v, hv⟩ : ∃ v, τ.E[j]? = some v := ⟨_, List.getElem?_eq_getElem (by omega)⟩
                have hmem2 := List.mem_of_getElem? hv
                have hasc2 := of_asc HG.out hmem2
                have hap : τ.Apart v x := by
                  have h1 := List.pairwise_iff_getElem.1 HI.out.apart j k (by omega) hlt hjk
                  rw [List.getElem?_eq_getElem (by omega)] at hv
                  have h2 := HX.out
                  rw [List.getElem?_eq_getElem hlt] at h2
                  injection hv with hv
                  injection h2 with h2
                  rwa [hv, h2] at h1
                obtain ⟨z, hz⟩ : ∃ z, z = τ.of v := ⟨_, rfl⟩
                rw [← hz] at hasc2
                have PA2 := p_assoc v.ai (H.out.keepN KQ.out) HG.out
                rw [hasc2] at PA2
                have HV := hid hv
                have HZ := hid hz
                have HAP := hid hap
                have hcq : wr.cell? ⟨g, off + j * 4, Option.none⟩ = some (.int .i64 v.ai) := by
                  obtain ⟨g', off', e, _, _, _, d0, d1, d2, d3⟩ := WV.atE (HLc.out.keepN HQ.out) HV.out
                  injection e with e; injection e with e1 e2; subst e1 e2; exact d0
                have hglq : g < wr.heap.size := Nat.lt_of_lt_of_le hglc HQ.out.size
                clear hv hmem2 hasc2 hap hz
                go_wp2_with fail
                refine PA2.mono ?_; rintro e w5 ⟨⟨pn, cn, rfl, own5⟩, k5⟩
                have kk6 : Keeps Nil w5 (w5.alloc (.cells #[.int .u8 z.lv, .string z.dom, .string z.own, .int .u16 z.vid, .int .u8 z.iv, .slice pn z.ms.length cn] 50 (0, 0))) := (Keeps.refl _ _).alloc _
                have hb11 := alloc_block w5 (.cells #[.int .u8 z.lv, .string z.dom, .string z.own, .int .u16 z.vid, .int .u8 z.iv, .slice pn z.ms.length cn] 50 (0, 0))
                go_upto_region 15 with (fail)
                try simp only [Option.getD_some, Option.isSome_some]
                generalize (w5.alloc (.cells #[.int .u8 z.lv, .string z.dom, .string z.own, .int .u16 z.vid, .int .u8 z.iv, .slice pn z.ms.length cn] 50 (0, 0))) = w6 at *
                obtain ⟨b11, e11⟩ : ∃ b11, b11 = w5.heap.size := ⟨_, rfl⟩
                rw [← e11] at hb11 ⊢
                have K6 := hid ((HQ.out.trans k5).trans kk6)
                have hb6 := (K6.out.block _ (lt_of_block hbc.out.1) (fun e => e)).trans hbc.out.1
                obtain ⟨y0, y1, y2, y3, y4, y5⟩ := six_block hb6
                obtain ⟨z0, z1, z2, z3, z4, z5⟩ := six_block hb11
                have lb6 := lt_of_block hb6
                have lb11 := lt_of_block hb11
                have hck : (w6.cell? ⟨g, off + k * 4, Option.none⟩ = some (.int .i64 x.ai) ∧ w6.cell? ⟨g, off + k * 4 + 1, Option.none⟩ = some (.int .u16 x.id) ∧ w6.cell? ⟨g, off + k * 4 + 2, Option.none⟩ = some (.int .u8 x.port) ∧ w6.cell? ⟨g, off + k * 4 + 3, Option.none⟩ = some (.bool x.up)) ∧
                    w6.cell? ⟨g, off + j * 4, Option.none⟩ = some (.int .i64 v.ai) ∧ w6.cell? ⟨g, off + j * 4 + 1, Option.none⟩ = some (.int .u16 v.id) ∧ w6.cell? ⟨g, off + j * 4 + 2, Option.none⟩ = some (.int .u8 v.port) ∧ w6.cell? ⟨g, off + j * 4 + 3, Option.none⟩ = some (.bool v.up) := by
                  obtain ⟨g', off', e, _, _, _, d0, d1, d2, d3⟩ := WV.atE (HLc.out.keepN K6.out) HX.out
                  obtain ⟨g'', off'', e', _, _, _, f0, f1, f2, f3⟩ := WV.atE (HLc.out.keepN K6.out) HV.out
                  injection e with e; injection e with e1 e2; subst e1 e2
                  injection e' with e'; injection e' with e1 e2; subst e1 e2
                  exact ⟨⟨d0, d1, d2, d3⟩, f0, f1, f2, f3⟩
                obtain ⟨⟨s0, s1, s2, s3⟩, t0, t1, t2, t3⟩ := hck
                have hgl6 : g < w6.heap.size := Nat.lt_of_lt_of_le hglc K6.out.size
                clear hb6 hb11 own5 k5 kk6 e11 hcq
                go_cut [148] (fun s148 wx => s148 = .bool false ∧ ∃ nq, wx = w6.drewN nq)
                case first =>
                    by_cases e1 : v.port = x.port
                    · have q1 : (v.port == x.port) = true := by simp [e1]
                      by_cases e2 : v.up = x.up
                      · have q2 : (v.up == x.up) = true := by simp [e2]
                        by_cases e3 : z.vid = y.vid
                        · have q3 : (y.vid == z.vid) = true := by simp [e3]
                          have e4 : ¬ z.lv = y.lv := fun e => HAP.out.2 ⟨e1, e2, by rw [← HZ.out, ← HY.out]; exact e3, by rw [← HZ.out, ← HY.out]; exact e⟩
                          have q4 : (y.lv == z.lv) = false := by simp; omega
                          clear e1 e2 e3 e4
                          by_cases f1 : v.ai = x.ai
                          · have f2 : ¬ v.id = x.id := fun e => HAP.out.1 ⟨f1, e⟩
                            have q5 : (v.ai == x.ai) = true := by simp [f1]
                            have q6 : (v.id == x.id) = false := by simp [f2]
                            clear f1 f2
                            go_quiet (fail)
                            go_wp2_with fail
                            go_meet
                            exact ⟨rfl, _, rfl⟩
                          · have q5 : (v.ai == x.ai) = false := by simp [f1]
                            clear f1
                            go_quiet (fail)
                            go_wp2_with fail
                            go_meet
                            exact ⟨rfl, _, rfl⟩
                        · have q3 : (y.vid == z.vid) = false := by simp; omega
                          clear e1 e2 e3
                          by_cases f1 : v.ai = x.ai
                          · have f2 : ¬ v.id = x.id := fun e => HAP.out.1 ⟨f1, e⟩
                            have q5 : (v.ai == x.ai) = true := by simp [f1]
                            have q6 : (v.id == x.id) = false := by simp [f2]
                            clear f1 f2
                            go_quiet (fail)
                            go_wp2_with fail
                            go_meet
                            exact ⟨rfl, _, rfl⟩
                          · have q5 : (v.ai == x.ai) = false := by simp [f1]
                            clear f1
                            go_quiet (fail)
                            go_wp2_with fail
                            go_meet
                            exact ⟨rfl, _, rfl⟩
                      · have q2 : (v.up == x.up) = false := by simp [e2]
                        clear e1 e2
                        by_cases f1 : v.ai = x.ai
                        · have f2 : ¬ v.id = x.id := fun e => HAP.out.1 ⟨f1, e⟩
                          have q5 : (v.ai == x.ai) = true := by simp [f1]
                          have q6 : (v.id == x.id) = false := by simp [f2]
                          clear f1 f2
                          go_quiet (fail)
                          go_wp2_with fail
                          go_meet
                          exact ⟨rfl, _, rfl⟩
                        · have q5 : (v.ai == x.ai) = false := by simp [f1]
                          clear f1
                          go_quiet (fail)
                          go_wp2_with fail
                          go_meet
                          exact ⟨rfl, _, rfl⟩
                    · have q1 : (v.port == x.port) = false := by simp [e1]
                      clear e1
                      by_cases f1 : v.ai = x.ai
                      · have f2 : ¬ v.id = x.id := fun e => HAP.out.1 ⟨f1, e⟩
                        have q5 : (v.ai == x.ai) = true := by simp [f1]
                        have q6 : (v.id == x.id) = false := by simp [f2]
                        clear f1 f2
                        go_quiet (fail)
                        go_wp2_with fail
                        go_meet
                        exact ⟨rfl, _, rfl⟩
                      · have q5 : (v.ai == x.ai) = false := by simp [f1]
                        clear f1
                        go_quiet (fail)
                        go_wp2_with fail
                        go_meet
                        exact ⟨rfl, _, rfl⟩
                case rest =>
                  obtain ⟨rfl, nq, rfl⟩ := hcut
                  go_wp2_with fail
                  go_roundw
                  case rel => exact ⟨j + 1, by omega, by go_num, hid (K6.out.trans (Keeps.drewN _ _))⟩
                  case measure => simp only [intOf]; omega
              · obtain rfl : j = k := by omega
                go_wp2_with fail
                go_roundw
                case rel => exact ⟨j + 1, by omega, by go_num, hid KQ.out⟩
                case measure => simp only [intOf]; omega
    · obtain rfl : k = τ.E.length := by omega
      go_wp2_with fail
      go_ret
      exact ⟨rfl, HR.out⟩
end Go.Proofs.Ytbgijlfdgfhceaa
