/-
  Layer 9: time goes on. Conditions: the machine lies so.
-/
import Derived.Test.YtbbodecdijankaaHear
namespace Go.Proofs.Ytbbodecdijankaa
open Go.RowKit
set_option linter.unusedVariables false
set_option linter.unusedSimpArgs false
set_option maxRecDepth 4000

theorem info83c : (Try.prog.info? 83).map (fun i => (i.zero, i.size, i.bytes)) = some (some (.agg #[.int .u8 0, .int .u64 0, .int .u32 0, .int .u64 0, .int .u8 0, .int .u8 0, .int .u64 0, .int .u8 0, .bool false, .bool false, .bool false, .int .u64 0]), 12, 72) := by kernel_rfl
theorem max_less (n : Int) (h : 0 ≤ n) : max 0 (n - 1) = if 0 < n - 1 then n - 1 else 0 := by omega
theorem less_get (p : Pt) : (Pt.less p).lasts = max 0 (p.lasts - 1) := rfl
theorem flatS_snoc (L : List (Int × Bp)) (x : Int × Bp) : flatS (L ++ [x]) = flatS L ++ (scells x.1 x.2).toList := by simp [flatS]
theorem wordsTo_len (τ : TM) (k : Nat) : (τ.wordsTo k).length ≤ k := by
  induction k with
  | zero => simp [TM.wordsTo]
  | succ k ih =>
    simp only [TM.wordsTo, List.length_append]
    split
    · split <;> simp <;> omega
    · simp; omega
theorem u8_in (k : Nat) (h : k < 256) : IntKind.u8.wrap (k : Int) = k := by
  simp [IntKind.wrap, IntKind.signed, IntKind.bits]; omega
set_option maxHeartbeats 8000000 in
theorem tick_any {w : World} {m g c : Nat} {τ : TM} (h : Mach w m g c τ) (hok : τ.Ok) (hv : τ.ver < 9223372036854775807) :
    Calls Try.prog 14 #[.pointer (some ⟨m, 0, Option.none⟩)] w (HearIs m g c τ.tick w) := by
  obtain ⟨⟨_, m1, _⟩, _⟩ := h.cells
  have hle := h.row.le
  have hn := hok.n
  have H := hid h
  have HOK := hid hok
  clear h hok
  go_enter Try.func14, Try.ntmps14
  go_wp2_with fail
  go_loopw [14] (fun s14 wr => ∃ k : Nat, k ≤ τ.P.length ∧ s14 = .int .i64 k ∧ Hid (Mach wr m g c (τ.upTo Pt.less k) ∧ Keeps (Of m g) w wr)) (fun s14 _ => τ.P.length - (intOf s14).toNat)
  case atStart => exact ⟨0, Nat.zero_le _, rfl, hid ⟨by rw [upTo_zero]; exact H.out, Keeps.refl _ _⟩⟩
  case round =>
    obtain ⟨k, hk, rfl, HR⟩ := hrel
    by_cases hlt : k < τ.P.length
    · obtain ⟨x, hx⟩ : ∃ x, τ.P[k]? = some x := ⟨_, List.getElem?_eq_getElem hlt⟩
      have hu := upTo_get τ Pt.less hx
      obtain ⟨⟨_, n1, _⟩, _⟩ := HR.out.1.cells
      rw [upTo_len _ _ hk] at n1
      obtain ⟨_, _, _, _, _, _, _, _, _, _, _, _, _, c13, _, _⟩ := HR.out.1.row.read hu
      have fr := HR.out.1.row.frozen (k * 16 + 13)
      have hlx := (HOK.out.P x (List.mem_of_getElem? hx)).lasts
      have hw1 : IntKind.i64.wrap (x.lasts - 1) = x.lasts - 1 := IntWalk.i64_in _ (by omega)
      have HX := hid hx
      have HU := hid hu
      clear hx hu m1
      by_cases h1 : 1 < x.lasts
      · have HP := hid (show max 0 (x.lasts - 1) = x.lasts - 1 by omega)
        go_wp2_with fail
        go_region
        all_goals (go_wp2_with fail; go_roundw)
        case rel =>
          have hf : Pt.less x = { x with lasts := x.lasts - 1 } := by simp [Pt.less, HP.out]
          have hp := HR.out.1.put (x' := { x with lasts := x.lasts - 1 }) 13 (by omega) (v := .int .i64 (x.lasts - 1)) HU.out rfl
          have hs := upTo_set τ Pt.less HX.out
          rw [hf] at hs
          rw [hs] at hp
          exact ⟨k + 1, by omega, by go_num, hid ⟨hp.drew, (HR.out.2.setG _ _).drew⟩⟩
        case measure => simp only [intOf]; omega
      · have HP := hid (show max 0 (x.lasts - 1) = 0 by omega)
        go_wp2_with fail
        go_region
        all_goals (go_wp2_with fail; go_roundw)
        case rel =>
          have hf : Pt.less x = { x with lasts := 0 } := by simp [Pt.less, HP.out]
          have hp := HR.out.1.put (x' := { x with lasts := 0 }) 13 (by omega) (v := .int .i64 (0)) HU.out rfl
          have hs := upTo_set τ Pt.less HX.out
          rw [hf] at hs
          rw [hs] at hp
          exact ⟨k + 1, by omega, by go_num, hid ⟨hp.drew, (HR.out.2.setG _ _).drew⟩⟩
        case measure => simp only [intOf]; omega
    · obtain rfl : k = τ.P.length := by omega
      have h1 := HR.out.1
      rw [upTo_all] at h1
      have CH := hid (choose_any h1 (HOK.out.mapP Pt.less (fun _ h => h.less)) hv)
      have OKA := hid (HOK.out.mapP Pt.less (fun _ h => h.less)).choose
      have hln : τ.age.P.length = τ.P.length := by unfold TM.age; rw [choose_len]; simp
      have KR := hid HR.out.2
      clear h1 HR m1
      go_wp2_with fail
      refine CH.out.mono ?_; rintro e w2 ⟨rfl, h2, k2⟩
      have HTK : Hid (τ.tick = ({ τ.age with P := τ.age.P.map Pt.told }, τ.age.wordsTo τ.age.P.length)) := hid rfl
      rw [show TM.choose { τ with P := τ.P.map Pt.less } = τ.age from rfl] at h2
      obtain ⟨τ2, hτ2⟩ : ∃ τ2, τ.age = τ2 := ⟨_, rfl⟩
      have OK2 : Hid τ2.Ok := by rw [← hτ2]; exact OKA
      rw [hτ2] at h2 hln HTK
      have hn2 := OK2.out.n
      have hle2 := h2.row.le
      have hlg := h2.lt
      obtain ⟨B, hB⟩ : ∃ B, w2.heap.size = B := ⟨_, rfl⟩
      rw [hB] at hlg
      have HG := hid hlg
      have K2 := hid (KR.out.trans k2)
      have HB := hid (show B ≤ w2.heap.size by omega)
      have HWB := hid (show w.heap.size ≤ B by have := K2.out.size; omega)
      have H2 := hid h2
      obtain ⟨⟨_, m1, _⟩, _⟩ := h2.cells
      obtain ⟨i0, hi0, hi1, hi2, hi3⟩ := info_parts info83c
      have HI := hid (And.intro hi0 (And.intro hi1 (And.intro hi2 hi3)))
      have HLN := hid hln
      clear CH OKA KR k2 hτ2 h2 hB hi0 hi1 hi2 hi3 hn hln hlg
      go_wp2_with fail
      go_loopw [4, 42] (fun s4 s42 wr => ∃ k : Nat, k ≤ τ2.P.length ∧ s42 = .int .i64 k ∧ ∃ p c', s4 = .slice p (τ2.wordsTo k).length c' ∧ Hid (Mach wr m g c (τ2.upTo Pt.told k) ∧ wr.ownsRow B 83 12 (.slice p (τ2.wordsTo k).length c') (τ2.wordsTo k).length (flatS (τ2.wordsTo k)) ∧ Keeps (Of m g) w wr ∧ B ≤ wr.heap.size)) (fun _ s42 _ => τ2.P.length - (intOf s42).toNat)
      case atStart => exact ⟨0, Nat.zero_le _, rfl, Option.none, 0, rfl, hid ⟨by rw [upTo_zero]; exact H2.out, World.ownsRow_nil _ _ _ _, K2.out, HB.out⟩⟩
      case round =>
        obtain ⟨k, hk, rfl, p, c', rfl, HR⟩ := hrel
        by_cases hlt : k < τ2.P.length
        · obtain ⟨x, hx⟩ : ∃ x, τ2.P[k]? = some x := ⟨_, List.getElem?_eq_getElem hlt⟩
          have hu := upTo_get τ2 Pt.told hx
          have hul := upTo_len τ2 Pt.told hk
          have hwl := wordsTo_len τ2 k
          obtain ⟨⟨_, n1, _⟩, _⟩ := HR.out.1.cells
          rw [hul] at n1
          obtain ⟨_, _, _, _, _, _, _, _, _, _, _, _, _, _, _, c15⟩ := HR.out.1.row.read hu
          have fr := HR.out.1.row.frozen (k * 16 + 15)
          have hlx := (OK2.out.P x (List.mem_of_getElem? hx)).sp
          have hw1 : IntKind.i64.wrap (x.sp - 1) = x.sp - 1 := IntWalk.i64_in _ (by omega)
          have hw8 : IntKind.u8.wrap (k : Int) = k := u8_in k (by omega)
          have LK := hid (link_any HR.out.1.row hu)
          have WD := hid (word_any HR.out.1 hu (by omega))
          have hww : (τ2.upTo Pt.told k).word k x = τ2.word k x := rfl
          rw [hww] at WD
          have HU := hid hu
          clear hu hww m1 hul
          by_cases h1 : 1 < x.sp
          · have HP := hid (show max 0 (x.sp - 1) = x.sp - 1 by omega)
            cases hl : x.link with
            | true =>
              rw [hl] at LK
              have hwt : τ2.wordsTo (k + 1) = τ2.wordsTo k ++ [((k : Int), τ2.word k x)] := by simp only [TM.wordsTo, hx, hl, if_pos]
              have HWT := hid hwt
              have HX := hid hx
              clear hl hwt hx
              go_wp2_with (go_at_call 36; refine LK.out.mono ?_; rintro e w' ⟨rfl, rfl⟩)
              refine WD.out.mono ?_; rintro e w4 ⟨rfl, k4⟩
              have HM0 := hid (HR.out.1.keepN k4)
              have HMA := hid (HM0.out.alloc (.cells (scells (k : Int) (τ2.word k x)) 83 (0, 0)))
              have kA : Keeps Nil wr (w4.alloc (.cells (scells (k : Int) (τ2.word k x)) 83 (0, 0))) := k4.alloc _
              have OWA := hid (ownsRow_keep HR.out.2.1 kA (fun _ _ e => e))
              have KA := hid (HR.out.2.2.1.thenNil kA)
              have HS := hid (show B ≤ (w4.alloc (.cells (scells (k : Int) (τ2.word k x)) 83 (0, 0))).heap.size from Nat.le_trans HR.out.2.2.2 kA.size)
              clear k4 kA
              go_wp2_with (at_builtin; refine wpList_append_wv (o := ⟨some 59, _, _, _, _, _⟩) _ rfl _ _ 40 rfl B 83 i0 (.agg #[.int .u8 0, .int .u64 0, .int .u32 0, .int .u64 0, .int .u8 0, .int .u8 0, .int .u64 0, .int .u8 0, .bool false, .bool false, .bool false, .int .u64 0]) 12 72 Try.underlying40 HI.out.1 HI.out.2.1 HI.out.2.2.1 HI.out.2.2.2 rfl (by decide) (.slice p _ c') _ _ rfl OWA.out 0 (some ⟨w4.heap.size, 0, Option.none⟩) 1 1 (scells (k : Int) (τ2.word k x)).toList rfl (WV.new w4 (scells (k : Int) (τ2.word k x)) 83 12 rfl) (by simp [Value.oneCell']) (by unfold maxLen; omega) (by omega) HS.out ?_; intro v1 w5 own1 hg1 hat1; obtain ⟨p1, c1, hv1⟩ := own_shape own1; subst hv1; have kG : Keeps (fun q => B ≤ q) (w4.alloc (.cells (scells (k : Int) (τ2.word k x)) 83 (0, 0))) w5 := (Keeps.refl _ _).grown hg1 (fun q hq _ => own_ge OWA.out hq); have HM := hid (HMA.out.keep kG (fun e => by have := HG.out; omega) (fun e => by have := HG.out; omega)); have K5 := hid (KA.out.trans' kG (fun q hq e => by have := HG.out; have := HWB.out; omega)); have HS5 := hid (Nat.le_trans HS.out kG.size); have hc5 := (HM.out.row.read HU.out).2.2.2.2.2.2.2.2.2.2.2.2.2.2.2; have f5 := HM.out.row.frozen (k * 16 + 15); have OW5 := hid own1; clear own1 hg1 hat1 kG)
              go_roundw
              case rel =>
                have hf : Pt.told x = { x with sp := x.sp - 1 } := by simp [Pt.told, HP.out]
                have hp := HM.out.put (x' := { x with sp := x.sp - 1 }) 15 (by omega) (v := .int .i64 (x.sp - 1)) HU.out rfl
                have hs := upTo_set τ2 Pt.told HX.out
                rw [hf] at hs
                rw [hs] at hp
                exact ⟨k + 1, by omega, by go_num, p1, c1, by rw [HWT.out]; simp, hid ⟨hp, by rw [HWT.out, flatS_snoc]; have := ownsRow_keep OW5.out ((Keeps.refl (At g) w5).set g (k * 16 + 15) (at_self g) (.int .i64 (x.sp - 1))) (fun q hq e => by rw [At] at e; have := HG.out; omega); simpa using this, K5.out.setG _ _, Nat.le_trans HS5.out ((Keeps.refl (At g) w5).set g _ (at_self g) _).size⟩⟩
              case measure => simp only [intOf]; omega
            | false =>
              rw [hl] at LK
              have hwt : τ2.wordsTo (k + 1) = τ2.wordsTo k := by simp only [TM.wordsTo, hx, hl]; simp
              have HM := hid HR.out.1
              have HWT := hid hwt
              have HX := hid hx
              clear hl hwt hx
              go_wp2_with (go_at_call 36; refine LK.out.mono ?_; rintro e w' ⟨rfl, rfl⟩)
              go_roundw
              case rel =>
                have hf : Pt.told x = { x with sp := x.sp - 1 } := by simp [Pt.told, HP.out]
                have hp := HM.out.put (x' := { x with sp := x.sp - 1 }) 15 (by omega) (v := .int .i64 (x.sp - 1)) HU.out rfl
                have hs := upTo_set τ2 Pt.told HX.out
                rw [hf] at hs
                rw [hs] at hp
                exact ⟨k + 1, by omega, by go_num, p, c', by rw [HWT.out], hid ⟨hp, by rw [HWT.out]; exact ownsRow_keep HR.out.2.1 ((Keeps.refl (At g) wr).set g (k * 16 + 15) (at_self g) (.int .i64 (x.sp - 1))) (fun q hq e => by rw [At] at e; have := HG.out; omega), HR.out.2.2.1.setG _ _, Nat.le_trans HR.out.2.2.2 ((Keeps.refl (At g) wr).set g _ (at_self g) _).size⟩⟩
              case measure => simp only [intOf]; omega
          · have HP := hid (show max 0 (x.sp - 1) = 0 by omega)
            cases hl : x.link with
            | true =>
              rw [hl] at LK
              have hwt : τ2.wordsTo (k + 1) = τ2.wordsTo k ++ [((k : Int), τ2.word k x)] := by simp only [TM.wordsTo, hx, hl, if_pos]
              have HWT := hid hwt
              have HX := hid hx
              clear hl hwt hx
              go_wp2_with (go_at_call 36; refine LK.out.mono ?_; rintro e w' ⟨rfl, rfl⟩)
              refine WD.out.mono ?_; rintro e w4 ⟨rfl, k4⟩
              have HM0 := hid (HR.out.1.keepN k4)
              have HMA := hid (HM0.out.alloc (.cells (scells (k : Int) (τ2.word k x)) 83 (0, 0)))
              have kA : Keeps Nil wr (w4.alloc (.cells (scells (k : Int) (τ2.word k x)) 83 (0, 0))) := k4.alloc _
              have OWA := hid (ownsRow_keep HR.out.2.1 kA (fun _ _ e => e))
              have KA := hid (HR.out.2.2.1.thenNil kA)
              have HS := hid (show B ≤ (w4.alloc (.cells (scells (k : Int) (τ2.word k x)) 83 (0, 0))).heap.size from Nat.le_trans HR.out.2.2.2 kA.size)
              clear k4 kA
              go_wp2_with (at_builtin; refine wpList_append_wv (o := ⟨some 59, _, _, _, _, _⟩) _ rfl _ _ 40 rfl B 83 i0 (.agg #[.int .u8 0, .int .u64 0, .int .u32 0, .int .u64 0, .int .u8 0, .int .u8 0, .int .u64 0, .int .u8 0, .bool false, .bool false, .bool false, .int .u64 0]) 12 72 Try.underlying40 HI.out.1 HI.out.2.1 HI.out.2.2.1 HI.out.2.2.2 rfl (by decide) (.slice p _ c') _ _ rfl OWA.out 0 (some ⟨w4.heap.size, 0, Option.none⟩) 1 1 (scells (k : Int) (τ2.word k x)).toList rfl (WV.new w4 (scells (k : Int) (τ2.word k x)) 83 12 rfl) (by simp [Value.oneCell']) (by unfold maxLen; omega) (by omega) HS.out ?_; intro v1 w5 own1 hg1 hat1; obtain ⟨p1, c1, hv1⟩ := own_shape own1; subst hv1; have kG : Keeps (fun q => B ≤ q) (w4.alloc (.cells (scells (k : Int) (τ2.word k x)) 83 (0, 0))) w5 := (Keeps.refl _ _).grown hg1 (fun q hq _ => own_ge OWA.out hq); have HM := hid (HMA.out.keep kG (fun e => by have := HG.out; omega) (fun e => by have := HG.out; omega)); have K5 := hid (KA.out.trans' kG (fun q hq e => by have := HG.out; have := HWB.out; omega)); have HS5 := hid (Nat.le_trans HS.out kG.size); have hc5 := (HM.out.row.read HU.out).2.2.2.2.2.2.2.2.2.2.2.2.2.2.2; have f5 := HM.out.row.frozen (k * 16 + 15); have OW5 := hid own1; clear own1 hg1 hat1 kG)
              go_roundw
              case rel =>
                have hf : Pt.told x = { x with sp := 0 } := by simp [Pt.told, HP.out]
                have hp := HM.out.put (x' := { x with sp := 0 }) 15 (by omega) (v := .int .i64 (0)) HU.out rfl
                have hs := upTo_set τ2 Pt.told HX.out
                rw [hf] at hs
                rw [hs] at hp
                exact ⟨k + 1, by omega, by go_num, p1, c1, by rw [HWT.out]; simp, hid ⟨hp, by rw [HWT.out, flatS_snoc]; have := ownsRow_keep OW5.out ((Keeps.refl (At g) w5).set g (k * 16 + 15) (at_self g) (.int .i64 (0))) (fun q hq e => by rw [At] at e; have := HG.out; omega); simpa using this, K5.out.setG _ _, Nat.le_trans HS5.out ((Keeps.refl (At g) w5).set g _ (at_self g) _).size⟩⟩
              case measure => simp only [intOf]; omega
            | false =>
              rw [hl] at LK
              have hwt : τ2.wordsTo (k + 1) = τ2.wordsTo k := by simp only [TM.wordsTo, hx, hl]; simp
              have HM := hid HR.out.1
              have HWT := hid hwt
              have HX := hid hx
              clear hl hwt hx
              go_wp2_with (go_at_call 36; refine LK.out.mono ?_; rintro e w' ⟨rfl, rfl⟩)
              go_roundw
              case rel =>
                have hf : Pt.told x = { x with sp := 0 } := by simp [Pt.told, HP.out]
                have hp := HM.out.put (x' := { x with sp := 0 }) 15 (by omega) (v := .int .i64 (0)) HU.out rfl
                have hs := upTo_set τ2 Pt.told HX.out
                rw [hf] at hs
                rw [hs] at hp
                exact ⟨k + 1, by omega, by go_num, p, c', by rw [HWT.out], hid ⟨hp, by rw [HWT.out]; exact ownsRow_keep HR.out.2.1 ((Keeps.refl (At g) wr).set g (k * 16 + 15) (at_self g) (.int .i64 (0))) (fun q hq e => by rw [At] at e; have := HG.out; omega), HR.out.2.2.1.setG _ _, Nat.le_trans HR.out.2.2.2 ((Keeps.refl (At g) wr).set g _ (at_self g) _).size⟩⟩
              case measure => simp only [intOf]; omega
        · obtain rfl : k = τ2.P.length := by omega
          have h1 := HR.out.1
          rw [upTo_all] at h1
          have H1 := hid h1
          clear h1
          go_wp2_with fail
          go_ret
          exact ⟨_, _, _, rfl, by rw [HTK.out]; exact (WV.of_own HR.out.2.1).mono HWB.out, by rw [HTK.out]; exact H1.out, HR.out.2.2.1⟩
end Go.Proofs.Ytbbodecdijankaa
