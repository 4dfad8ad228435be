/-
  FdbLast: which places are fixed (fixed). Conditions: the acts lie so.
-/
import Derived.Test.YtdmjpgefoppfmaaFLMay
import Derived.RegionTactic
import Derived.ChangeAlike
namespace Go.Proofs.Ytdmjpgefoppfmaa
open Go.RowKit
set_option linter.unusedVariables false

theorem fset_take {l : List FAct} {i : Nat} {a : FAct} (h : l[i]? = some a) : fset (l.take (i + 1)) = fstep (fset (l.take i)) a := by
  unfold fset
  rw [List.take_add_one, h]
  simp
/-- An act's cells, one by one. -/
theorem FActs.at {w : World} {b o n i : Nat} {l : List FAct} {a : FAct} (h : FActs w b o n l) (ha : l[i]? = some a) :
    (w.cell? ⟨b, o + i * 10, Option.none⟩ = some (.int .u8 a.d) ∧ w.cell? ⟨b, o + i * 10 + 1, Option.none⟩ = some (.int .u16 a.q.v) ∧ w.cell? ⟨b, o + i * 10 + 2, Option.none⟩ = some (.int .u8 a.q.a) ∧
     w.cell? ⟨b, o + i * 10 + 3, Option.none⟩ = some (.int .u8 a.q.b) ∧ w.cell? ⟨b, o + i * 10 + 4, Option.none⟩ = some (.int .u8 a.q.c) ∧ w.cell? ⟨b, o + i * 10 + 5, Option.none⟩ = some (.int .u8 a.q.d) ∧
     w.cell? ⟨b, o + i * 10 + 6, Option.none⟩ = some (.int .u8 a.q.e) ∧ w.cell? ⟨b, o + i * 10 + 7, Option.none⟩ = some (.int .u8 a.q.f) ∧ w.cell? ⟨b, o + i * 10 + 8, Option.none⟩ = some (.int .u8 a.port) ∧
     w.cell? ⟨b, o + i * 10 + 9, Option.none⟩ = some (.int .u8 a.ports)) := by
  have hc := (h.2 i a ha).1
  exact ⟨hc 0 _ rfl, hc 1 _ rfl, hc 2 _ rfl, hc 3 _ rfl, hc 4 _ rfl, hc 5 _ rfl, hc 6 _ rfl, hc 7 _ rfl, hc 8 _ rfl, hc 9 _ rfl⟩
theorem FActs.keepS {S : Nat → Prop} {w w' : World} {b o n : Nat} {l : List FAct} (h : FActs w b o n l) (k : Keeps S w w') (hb : b < w.heap.size) (hS : ¬ S b) : FActs w' b o n l :=
  ⟨h.1, fun i a ha => ⟨fun q u hu => (k.cell (p := ⟨b, o + i * 10 + q, Option.none⟩) hb hS).trans ((h.2 i a ha).1 q u hu), (h.2 i a ha).2⟩⟩

set_option maxRecDepth 6000 in
set_option maxHeartbeats 16000000 in
theorem fixed_any (a : Option Addr) (n cap : Nat) (acts : List FAct) (q : Pl) (hq : q.Ok) (w : World) (hn : n ≤ 150) (hll : acts.length = n) (h : 0 < n → ∃ b o, a = some ⟨b, o, Option.none⟩ ∧ b < w.heap.size ∧ FActs w b o n acts) :
    Calls Try.prog 36 #[.slice a n cap, q.val] w fun e w' => e = .returned (.bool (fixedP acts q)) ∧ Keeps Nil w w' := by
  have hmm := @run_makeMap Try.prog
  have kb : Keeps Nil w (w.alloc (.cells #[Value.int IntKind.u16 q.v, Value.int IntKind.u8 q.a, Value.int IntKind.u8 q.b, Value.int IntKind.u8 q.c, Value.int IntKind.u8 q.d, Value.int IntKind.u8 q.e, Value.int IntKind.u8 q.f] 57 (0, 0))) := (Keeps.refl _ _).alloc _
  have hb := alloc_block w (.cells #[Value.int IntKind.u16 q.v, Value.int IntKind.u8 q.a, Value.int IntKind.u8 q.b, Value.int IntKind.u8 q.c, Value.int IntKind.u8 q.d, Value.int IntKind.u8 q.e, Value.int IntKind.u8 q.f] 57 (0, 0))
  have HH := hid (fun h0 => by
    obtain ⟨b, o, e, hlt, hr⟩ := h h0
    exact (⟨b, o, e, Nat.lt_of_lt_of_le hlt kb.size, hr.keepN kb hlt⟩ : ∃ b o, a = some ⟨b, o, Option.none⟩ ∧ b < (w.alloc (.cells #[Value.int IntKind.u16 q.v, Value.int IntKind.u8 q.a, Value.int IntKind.u8 q.b, Value.int IntKind.u8 q.c, Value.int IntKind.u8 q.d, Value.int IntKind.u8 q.e, Value.int IntKind.u8 q.f] 57 (0, 0))).heap.size ∧ FActs (w.alloc (.cells #[Value.int IntKind.u16 q.v, Value.int IntKind.u8 q.a, Value.int IntKind.u8 q.b, Value.int IntKind.u8 q.c, Value.int IntKind.u8 q.d, Value.int IntKind.u8 q.e, Value.int IntKind.u8 q.f] 57 (0, 0))) b o n acts))
  have HN := hid hll
  have HQ := hid hq
  have HFP := hid (fixed_eq acts q)
  clear h hll hq
  go_enter Try.func36, Try.ntmps36
  go_upto_region 1 with (fail)
  generalize (w.alloc (.cells #[Value.int IntKind.u16 q.v, Value.int IntKind.u8 q.a, Value.int IntKind.u8 q.b, Value.int IntKind.u8 q.c, Value.int IntKind.u8 q.d, Value.int IntKind.u8 q.e, Value.int IntKind.u8 q.f] 57 (0, 0))) = w1 at *
  have hw1 : w.heap.size < w1.heap.size := lt_of_block hb
  generalize w.heap.size = bK at *
  have HM := hid hb
  have K1 := hid kb
  clear hb kb
  go_wp2_with fail
  clear hmm
  go_loopw [6] (fun v wr => ∃ k : Nat, k ≤ n ∧ v = .int .i64 k ∧ Hid (MapB wr w1.heap.size (fset (acts.take k)) ∧ Keeps Nil w1 wr)) (fun v _ => n - (intOf v).toNat)
  case atStart =>
    exact ⟨0, Nat.zero_le _, rfl, hid ⟨MapB.made w1, (Keeps.refl _ _).alloc _⟩⟩
  case round =>
    obtain ⟨k, hk, rfl, hh⟩ := hrel
    by_cases hlt : k < n
    · obtain ⟨b, o, rfl, hb, hr⟩ := HH.out (by omega)
      obtain ⟨x, ha⟩ : ∃ x, acts[k]? = some x := ⟨_, List.getElem?_eq_getElem (by have := hr.1; omega)⟩
      have HS := hid (fset_take ha)
      have HXO := hid (hr.2 k x ha).2
      have HMB := hid hh.out.1
      have HK := hid hh.out.2
      have HSL := hid (Nat.le_trans (show (fset (acts.take k)).length ≤ 16 from fset_len _ (fun y hy => by
        obtain ⟨j, hj⟩ := List.getElem?_of_mem (List.mem_of_mem_take hy)
        exact (hr.2 j y hj).2)) (by decide : 16 ≤ 900))
      obtain ⟨g0, g1, g2, g3, g4, g5, g6, g7, g8, g9⟩ := (hr.keepN HK.out hb).at ha
      have hblt : b < wr.heap.size := Nat.lt_of_lt_of_le hb HK.out.size
      clear hr ha hh g8 g9
      go_wp2_with fail
      go_region
      have kx : Keeps Nil wr ((wr.alloc (.cells #[Value.int IntKind.u16 x.q.v, Value.int IntKind.u8 x.q.a, Value.int IntKind.u8 x.q.b, Value.int IntKind.u8 x.q.c, Value.int IntKind.u8 x.q.d, Value.int IntKind.u8 x.q.e, Value.int IntKind.u8 x.q.f] 57 (0, 0))).drew) := ((Keeps.refl _ _).alloc _).drew
      have hX : ((wr.alloc (.cells #[Value.int IntKind.u16 x.q.v, Value.int IntKind.u8 x.q.a, Value.int IntKind.u8 x.q.b, Value.int IntKind.u8 x.q.c, Value.int IntKind.u8 x.q.d, Value.int IntKind.u8 x.q.e, Value.int IntKind.u8 x.q.f] 57 (0, 0))).drew).heap[wr.heap.size]? = some (.cells #[Value.int IntKind.u16 x.q.v, Value.int IntKind.u8 x.q.a, Value.int IntKind.u8 x.q.b, Value.int IntKind.u8 x.q.c, Value.int IntKind.u8 x.q.d, Value.int IntKind.u8 x.q.e, Value.int IntKind.u8 x.q.f] 57 (0, 0)) := alloc_block wr _
      have g0' := (kx.cell (p := ⟨b, o + k * 10, Option.none⟩) hblt (fun e => e)).trans g0
      have g1' := (kx.cell (p := ⟨b, o + k * 10 + 1, Option.none⟩) hblt (fun e => e)).trans g1
      have hbW := Nat.lt_of_lt_of_le hblt kx.size
      have HK2 := hid (HK.out.trans kx)
      have MB := HMB.out.keep kx (fun e => e)
      clear g0 g1 g2 g3 g4 g5 g6 g7 hblt kx
      generalize ((wr.alloc (.cells #[Value.int IntKind.u16 x.q.v, Value.int IntKind.u8 x.q.a, Value.int IntKind.u8 x.q.b, Value.int IntKind.u8 x.q.c, Value.int IntKind.u8 x.q.d, Value.int IntKind.u8 x.q.e, Value.int IntKind.u8 x.q.f] 57 (0, 0))).drew) = W at *
      generalize wr.heap.size = bX at *
      have hbm : b ≠ w1.heap.size := by omega
      obtain ⟨x0, x1, x2, x3, x4, x5, x6⟩ := seven_of hX
      have hlk := MB.look x.q HXO.out.2.1
      simp only [Pl.val] at hlk
      have hln : ∀ ty, (Builtin.len_ #[84] ty #[.map (some w1.heap.size)]).run Try.prog W = .ok (.int .i64 (fset (acts.take k)).length) W := fun ty => MB.len ty
      have HX := hid hX
      have HMB2 := hid MB
      clear hX MB
      by_cases h2 : x.d = 2 ∧ 1 ≤ x.q.v ∧ x.q.v ≤ 4094 ∧ ((sget (fset (acts.take k)) x.q).isSome = true ∨ (fset (acts.take k)).length < 16)
      · obtain ⟨w5, hrun, m5, k5⟩ := HMB2.out.put x.q HXO.out.2.1 1 (Nat.lt_of_le_of_lt HSL.out (by decide))
        have e1 : fset (acts.take (k + 1)) = sput (fset (acts.take k)) x.q 1 := by rw [HS.out]; unfold fstep; rw [if_pos h2]
        have g5 := (k5.cell (p := ⟨b, o + k * 10, Option.none⟩) hbW (fun e => hbm e)).trans g0'
        have M5 := hid m5
        have K5 := hid (HK2.out.thenAt k5 (Nat.le_refl _))
        have E1 := hid e1
        simp only [Pl.val] at hrun
        obtain ⟨d2, hv1, hv2, hsl⟩ := h2
        rw [d2] at g0' g5
        clear m5 k5 e1
        cases hs : (sget (fset (acts.take k)) x.q).isSome with
        | true =>
          rw [hs] at hlk
          go_wp2_with fail
          go_roundw
          case rel => exact ⟨k + 1, by omega, by go_num, hid ⟨by rw [E1.out]; exact M5.out, K5.out⟩⟩
          case measure => simp only [intOf]; omega
        | false =>
          rw [hs] at hlk
          have hl16 : (fset (acts.take k)).length < 16 := by rcases hsl with e | e; (rw [hs] at e; cases e); exact e
          have hl16' : decide (((fset (acts.take k)).length : Int) < 16) = true := by simp; omega
          go_wp2_with fail
          go_roundw
          case rel => exact ⟨k + 1, by omega, by go_num, hid ⟨by rw [E1.out]; exact M5.out, K5.out⟩⟩
          case measure => simp only [intOf]; omega
      · by_cases h3 : x.d = 3
        · obtain ⟨w5, hrun, m5, k5⟩ := HMB2.out.drop x.q HXO.out.2.1 (ty := 0)
          have e1 : fset (acts.take (k + 1)) = sdel (fset (acts.take k)) x.q := by rw [HS.out]; unfold fstep; rw [if_neg h2, if_pos h3]
          have M5 := hid m5
          have K5 := hid (HK2.out.thenAt k5 (Nat.le_refl _))
          have E1 := hid e1
          simp only [Pl.val] at hrun
          rw [h3] at g0'
          clear m5 k5 e1 h2
          go_wp2_with fail
          go_roundw
          case rel => exact ⟨k + 1, by omega, by go_num, hid ⟨by rw [E1.out]; exact M5.out, K5.out⟩⟩
          case measure => simp only [intOf]; omega
        · have e1 : fset (acts.take (k + 1)) = fset (acts.take k) := by rw [HS.out]; unfold fstep; rw [if_neg h2, if_neg h3]
          have E1 := hid e1
          have H2 := hid h2
          clear e1 h2
          by_cases d2 : x.d = 2
          · rw [d2] at g0'
            by_cases hv1 : 1 ≤ x.q.v
            · by_cases hv2 : x.q.v ≤ 4094
              · have hs : (sget (fset (acts.take k)) x.q).isSome = false := by
                  cases hs : (sget (fset (acts.take k)) x.q).isSome with
                  | false => rfl
                  | true => exact absurd ⟨d2, hv1, hv2, .inl hs⟩ H2.out
                have hl16' : decide (((fset (acts.take k)).length : Int) < 16) = false := by
                  simp
                  have : ¬ (fset (acts.take k)).length < 16 := fun e => H2.out ⟨d2, hv1, hv2, .inr e⟩
                  omega
                rw [hs] at hlk
                go_wp2_with fail
                go_roundw
                case rel => exact ⟨k + 1, by omega, by go_num, hid ⟨by rw [E1.out]; exact HMB2.out, HK2.out⟩⟩
                case measure => simp only [intOf]; omega
              · go_wp2_with fail
                go_roundw
                case rel => exact ⟨k + 1, by omega, by go_num, hid ⟨by rw [E1.out]; exact HMB2.out, HK2.out⟩⟩
                case measure => simp only [intOf]; omega
            · go_wp2_with fail
              go_roundw
              case rel => exact ⟨k + 1, by omega, by go_num, hid ⟨by rw [E1.out]; exact HMB2.out, HK2.out⟩⟩
              case measure => simp only [intOf]; omega
          · go_wp2_with fail
            go_roundw
            case rel => exact ⟨k + 1, by omega, by go_num, hid ⟨by rw [E1.out]; exact HMB2.out, HK2.out⟩⟩
            case measure => simp only [intOf]; omega
    · obtain rfl : k = n := by omega
      have hX := hh.out.2.lies HM.out
      obtain ⟨x0, x1, x2, x3, x4, x5, x6⟩ := seven_of hX
      have hlk := hh.out.1.look q HQ.out
      simp only [Pl.val] at hlk
      rw [List.take_of_length_le (by have := HN.out; omega), HFP.out] at hlk
      have HK := hid hh.out.2
      clear hX hh
      go_wp2_with fail
      go_ret
      exact ⟨rfl, K1.out.trans HK.out⟩
end Go.Proofs.Ytdmjpgefoppfmaa
