/-
  Layer 9: time goes on for the document's machine. Conditions: the machine lies so.
-/
import Derived.Test.YtbbodecdijankaaRChoose
import Derived.Test.YtbbodecdijankaaTick
import Derived.Test.YtbbodecdijankaaRHear
namespace Go.Proofs.Ytbbodecdijankaa
open Go.RowKit
set_option linter.unusedVariables false
set_option linter.unusedSimpArgs false
set_option maxRecDepth 8000

theorem info98 : (Try.prog.info? 98).map (fun i => (i.zero, i.size, i.bytes)) = some (some (.agg #[.int .u8 0, .int .u64 0, .int .u32 0, .int .u64 0, .int .u8 0, .int .u8 0, .int .u64 0, .int .u8 0, .bool false, .bool false, .bool false, .int .u64 0]), 12, 72) := by kernel_rfl
set_option maxHeartbeats 16000000 in
theorem rtick_any {w : World} {m g c f : Nat} {τ : TM} (h : RMach w m g c f τ) (hok : τ.Ok) (hv : τ.ver < 9223372036854775807) :
    Calls Try.prog 15 #[.pointer (some ⟨m, 0, Option.none⟩)] w (RHearIs m g c f τ.tick w) := by
  obtain ⟨⟨_, m1, _⟩, _⟩ := h.cells
  have hle := h.row.le
  have hn := hok.n
  have H := hid h
  have HOK := hid hok
  clear h hok
  go_enter Try.func15, Try.ntmps15
  go_wp2_with fail
  go_loopw [3] (fun s3 wr => ∃ k : Nat, k ≤ τ.P.length ∧ s3 = .int .i64 k ∧ Hid (RMach wr m g c f (τ.upTo Pt.less k) ∧ Keeps (Om m g f) w wr)) (fun s3 _ => τ.P.length - (intOf s3).toNat)
  case atStart => exact ⟨0, Nat.zero_le _, rfl, hid ⟨by rw [upTo_zero]; exact H.out, Keeps.refl _ _⟩⟩
  case round =>
    obtain ⟨k, hk, rfl, HR⟩ := hrel
    have HUL := hid (upTo_len τ Pt.less hk)
    obtain ⟨⟨_, n1, _⟩, _⟩ := HR.out.1.cells
    rw [HUL.out] at n1
    by_cases hlt : k < τ.P.length
    · obtain ⟨x, hx⟩ : ∃ x, τ.P[k]? = some x := ⟨_, List.getElem?_eq_getElem hlt⟩
      have hu := upTo_get τ Pt.less hx
      have c13 := (HR.out.1.row.read hu).2.2.2.2.2.2.2.2.2.2.2.2.2.1
      have fr := HR.out.1.row.frozen (k * 16 + 13)
      have hlx := (HOK.out.P x (List.mem_of_getElem? hx)).lasts
      have HX := hid hx
      have HU := hid hu
      clear hx hu m1
      by_cases h1 : 0 < x.lasts
      · have hd : decide (0 < x.lasts) = true := by simp [h1]
        have HP := hid (show max 0 (x.lasts - 1) = x.lasts - 1 by omega)
        go_wp2_with fail
        go_roundw
        case rel =>
          have hf : Pt.less x = { x with lasts := x.lasts - 1 } := by simp [Pt.less, HP.out]
          have hp := HR.out.1.put (x' := { x with lasts := x.lasts - 1 }) 13 (by omega) (v := .int .i64 (x.lasts - 1)) HU.out rfl
          have hs := upTo_set τ Pt.less HX.out
          rw [hf] at hs
          rw [hs] at hp
          exact ⟨k + 1, by omega, by go_num, hid ⟨hp, HR.out.2.mG _ _⟩⟩
        case measure => simp only [intOf]; omega
      · have hd : decide (0 < x.lasts) = false := by simp; omega
        have HP := hid (show max 0 (x.lasts - 1) = x.lasts by omega)
        go_wp2_with fail
        go_roundw
        case rel =>
          have hf : Pt.less x = x := by simp [Pt.less, HP.out]
          have hs := upTo_same τ Pt.less HX.out hf
          have := HR.out.1
          rw [hs] at this
          exact ⟨k + 1, by omega, by go_num, hid ⟨this, HR.out.2⟩⟩
        case measure => simp only [intOf]; omega
    · obtain rfl : k = τ.P.length := by omega
      have h1 := HR.out.1
      rw [upTo_all] at h1
      have CH := hid (rchoose_any h1 (HOK.out.mapP Pt.less (fun _ h => h.less)) hv)
      have OKA := hid (HOK.out.mapP Pt.less (fun _ h => h.less)).choose
      have hln : τ.age.P.length = τ.P.length := by unfold TM.age; rw [choose_len]; simp
      have KR := hid HR.out.2
      clear h1 HR m1
      go_wp2_with fail
      refine CH.out.mono ?_; rintro e w2 ⟨rfl, h2, k2⟩
      have HTK : Hid (τ.tick = ({ τ.age with P := τ.age.P.map Pt.told }, τ.age.wordsTo τ.age.P.length)) := hid rfl
      rw [show TM.choose { τ with P := τ.P.map Pt.less } = τ.age from rfl] at h2
      obtain ⟨τ2, hτ2⟩ : ∃ τ2, τ.age = τ2 := ⟨_, rfl⟩
      have OK2 : Hid τ2.Ok := by rw [← hτ2]; exact OKA
      rw [hτ2] at h2 hln HTK
      have hn2 := OK2.out.n
      have hle2 := h2.row.le
      have hlg := h2.lt
      obtain ⟨B, hB⟩ : ∃ B, w2.heap.size = B := ⟨_, rfl⟩
      rw [hB] at hlg
      have HG := hid hlg
      have K2 := hid (KR.out.trans k2)
      have HB := hid (show B ≤ w2.heap.size by omega)
      have HWB := hid (show w.heap.size ≤ B by have := K2.out.size; omega)
      have H2 := hid h2
      obtain ⟨⟨_, m1, _⟩, _⟩ := h2.cells
      obtain ⟨i0, hi0, hi1, hi2, hi3⟩ := info_parts info98
      have HI := hid (And.intro hi0 (And.intro hi1 (And.intro hi2 hi3)))
      clear CH OKA KR k2 hτ2 h2 hB hi0 hi1 hi2 hi3 hn hln hlg n1
      go_wp2_with fail
      go_loopw [4, 5] (fun s4 s5 wr => ∃ k : Nat, k ≤ τ2.P.length ∧ s5 = .int .i64 k ∧ ∃ p c', s4 = .slice p (τ2.wordsTo k).length c' ∧ Hid (RMach wr m g c f τ2 ∧ wr.ownsRow B 98 12 (.slice p (τ2.wordsTo k).length c') (τ2.wordsTo k).length (flatS (τ2.wordsTo k)) ∧ Keeps (Om m g f) w wr ∧ B ≤ wr.heap.size)) (fun _ s5 _ => τ2.P.length - (intOf s5).toNat)
      case atStart => exact ⟨0, Nat.zero_le _, rfl, Option.none, 0, rfl, hid ⟨H2.out, World.ownsRow_nil _ _ _ _, K2.out, HB.out⟩⟩
      case round =>
        obtain ⟨k, hk, rfl, p, c', rfl, HR⟩ := hrel
        obtain ⟨⟨_, n1, _⟩, _⟩ := HR.out.1.cells
        by_cases hlt : k < τ2.P.length
        · obtain ⟨x, hx⟩ : ∃ x, τ2.P[k]? = some x := ⟨_, List.getElem?_eq_getElem hlt⟩
          have hwl := wordsTo_len τ2 k
          have hw8 : IntKind.u8.wrap (k : Int) = k := u8_in k (by omega)
          have LK := hid (rlink_any HR.out.1 hx)
          have WD := hid (rword_any HR.out.1 hx (by omega))
          clear m1
          cases hl : x.link with
          | true =>
            rw [hl] at LK
            have hwt : τ2.wordsTo (k + 1) = τ2.wordsTo k ++ [((k : Int), τ2.word k x)] := by simp only [TM.wordsTo, hx, hl, if_pos]
            have HWT := hid hwt
            clear hl hwt hx
            go_wp2_with (go_at_call 38; refine LK.out.mono ?_; rintro e w' ⟨rfl, rfl⟩)
            refine WD.out.mono ?_; rintro e w4 ⟨rfl, k4⟩
            have HMA := hid ((HR.out.1.keepN k4).alloc (.cells (scells (k : Int) (τ2.word k x)) 98 (0, 0)))
            have kA : Keeps Nil wr (w4.alloc (.cells (scells (k : Int) (τ2.word k x)) 98 (0, 0))) := k4.alloc _
            have OWA := hid (ownsRow_keep HR.out.2.1 kA (fun _ _ e => e))
            have KA := hid (HR.out.2.2.1.thenNil kA)
            have HS := hid (show B ≤ (w4.alloc (.cells (scells (k : Int) (τ2.word k x)) 98 (0, 0))).heap.size from Nat.le_trans HR.out.2.2.2 kA.size)
            clear k4 kA
            go_wp2_with (at_builtin; refine wpList_append_wv (o := ⟨some 58, _, _, _, _, _⟩) _ rfl _ _ 41 rfl B 98 i0 (.agg #[.int .u8 0, .int .u64 0, .int .u32 0, .int .u64 0, .int .u8 0, .int .u8 0, .int .u64 0, .int .u8 0, .bool false, .bool false, .bool false, .int .u64 0]) 12 72 Try.underlying41 HI.out.1 HI.out.2.1 HI.out.2.2.1 HI.out.2.2.2 rfl (by decide) (.slice p _ c') _ _ rfl OWA.out 0 (some ⟨w4.heap.size, 0, Option.none⟩) 1 1 (scells (k : Int) (τ2.word k x)).toList rfl (WV.new w4 (scells (k : Int) (τ2.word k x)) 98 12 rfl) (by simp [Value.oneCell']) (by unfold maxLen; omega) (by omega) HS.out ?_; intro v1 w5 own1 hg1 hat1; obtain ⟨p1, c1, hv1⟩ := own_shape own1; subst hv1; have kG : Keeps (fun q => B ≤ q) (w4.alloc (.cells (scells (k : Int) (τ2.word k x)) 98 (0, 0))) w5 := (Keeps.refl _ _).grown hg1 (fun q hq _ => own_ge OWA.out hq); have HM := hid (HMA.out.keep kG (fun e => by have := HG.out; omega) (fun e => by have := HG.out; omega) (fun e => by have := HG.out; omega)); have K5 := hid (KA.out.trans' kG (fun q hq e => by have := HWB.out; omega)); have HS5 := hid (Nat.le_trans HS.out kG.size); have OW5 := hid own1; clear own1 hg1 hat1 kG)
            go_roundw
            case rel =>
              exact ⟨k + 1, by omega, by go_num, p1, c1, by rw [HWT.out]; simp, hid ⟨HM.out, by rw [HWT.out, flatS_snoc]; simpa using OW5.out, K5.out, HS5.out⟩⟩
            case measure => simp only [intOf]; omega
          | false =>
            rw [hl] at LK
            have hwt : τ2.wordsTo (k + 1) = τ2.wordsTo k := by simp only [TM.wordsTo, hx, hl]; simp
            have HWT := hid hwt
            clear hl hwt hx
            go_wp2_with (go_at_call 38; refine LK.out.mono ?_; rintro e w' ⟨rfl, rfl⟩)
            go_roundw
            case rel =>
              exact ⟨k + 1, by omega, by go_num, p, c', by rw [HWT.out], hid ⟨HR.out.1, by rw [HWT.out]; exact HR.out.2.1, HR.out.2.2.1, HR.out.2.2.2⟩⟩
            case measure => simp only [intOf]; omega
        · obtain rfl : k = τ2.P.length := by omega
          have hwl := wordsTo_len τ2 τ2.P.length
          have HO := hid HR.out
          clear m1 HR
          go_wp2_with fail
          clear n1
          go_loopw [6] (fun s6 wr => ∃ k : Nat, k ≤ τ2.P.length ∧ s6 = .int .i64 k ∧ Hid (RMach wr m g c f (τ2.upTo Pt.told k) ∧ wr.ownsRow B 98 12 (.slice p (τ2.wordsTo τ2.P.length).length c') (τ2.wordsTo τ2.P.length).length (flatS (τ2.wordsTo τ2.P.length)) ∧ Keeps (Om m g f) w wr)) (fun s6 _ => τ2.P.length - (intOf s6).toNat)
          case atStart => exact ⟨0, Nat.zero_le _, rfl, hid ⟨by rw [upTo_zero]; exact HO.out.1, HO.out.2.1, HO.out.2.2.1⟩⟩
          case round =>
            obtain ⟨k, hk, rfl, HR⟩ := hrel
            have HUL := hid (upTo_len τ2 Pt.told hk)
            obtain ⟨⟨_, n1, _⟩, _⟩ := HR.out.1.cells
            rw [HUL.out] at n1
            by_cases hlt : k < τ2.P.length
            · obtain ⟨x, hx⟩ : ∃ x, τ2.P[k]? = some x := ⟨_, List.getElem?_eq_getElem hlt⟩
              have hu := upTo_get τ2 Pt.told hx
              have c15 := (HR.out.1.row.read hu).2.2.2.2.2.2.2.2.2.2.2.2.2.2.2
              have fr := HR.out.1.row.frozen (k * 16 + 15)
              have hlx := (OK2.out.P x (List.mem_of_getElem? hx)).sp
              have HX := hid hx
              have HU := hid hu
              clear hx hu
              by_cases h1 : 0 < x.sp
              · have hd : decide (0 < x.sp) = true := by simp [h1]
                have HP := hid (show max 0 (x.sp - 1) = x.sp - 1 by omega)
                go_wp2_with fail
                go_roundw
                case rel =>
                  have hf : Pt.told x = { x with sp := x.sp - 1 } := by simp [Pt.told, HP.out]
                  have hp := HR.out.1.put (x' := { x with sp := x.sp - 1 }) 15 (by omega) (v := .int .i64 (x.sp - 1)) HU.out rfl
                  have hs := upTo_set τ2 Pt.told HX.out
                  rw [hf] at hs
                  rw [hs] at hp
                  exact ⟨k + 1, by omega, by go_num, hid ⟨hp, ownsRow_keep HR.out.2.1 ((Keeps.refl (At g) wr).set g (k * 16 + 15) (at_self g) (.int .i64 (x.sp - 1))) (fun q hq e => by rw [At] at e; have := HG.out; omega), HR.out.2.2.mG _ _⟩⟩
                case measure => simp only [intOf]; omega
              · have hd : decide (0 < x.sp) = false := by simp; omega
                have HP := hid (show max 0 (x.sp - 1) = x.sp by omega)
                go_wp2_with fail
                go_roundw
                case rel =>
                  have hf : Pt.told x = x := by simp [Pt.told, HP.out]
                  have hs := upTo_same τ2 Pt.told HX.out hf
                  have := HR.out.1
                  rw [hs] at this
                  exact ⟨k + 1, by omega, by go_num, hid ⟨this, HR.out.2.1, HR.out.2.2⟩⟩
                case measure => simp only [intOf]; omega
            · obtain rfl : k = τ2.P.length := by omega
              have h1 := HR.out.1
              rw [upTo_all] at h1
              have H1 := hid h1
              clear h1
              go_wp2_with fail
              go_ret
              exact ⟨_, _, _, rfl, by rw [HTK.out]; exact (WV.of_own HR.out.2.1).mono HWB.out, by rw [HTK.out]; exact H1.out, HR.out.2.2⟩
end Go.Proofs.Ytbbodecdijankaa
