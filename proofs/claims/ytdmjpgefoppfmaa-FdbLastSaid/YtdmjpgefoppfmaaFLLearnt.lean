/-
  FdbLast: where was a place learnt last (learnt). Conditions: the acts lie so.
-/
import Derived.Test.YtdmjpgefoppfmaaFLPushed
import Derived.Deep.DeepCutAuto
import Derived.Deep.CutBlock
namespace Go.Proofs.Ytdmjpgefoppfmaa
open Go.RowKit
set_option linter.unusedVariables false

theorem FActs.takes {w : World} {b o n j : Nat} {l : List FAct} (h : FActs w b o n l) (hj : j ≤ n) : FActs w b o j (l.take j) :=
  ⟨by rw [List.length_take, h.1]; omega, fun i a ha => h.2 i a (by
    rw [List.getElem?_take] at ha
    split at ha
    · exact ha
    · cases ha)⟩
theorem FActs.drops {w : World} {b o n j : Nat} {l : List FAct} (h : FActs w b o n l) (hj : j ≤ n) : FActs w b (o + j * 10) (n - j) (l.drop j) :=
  ⟨by rw [List.length_drop, h.1], fun i a ha => by
    rw [List.getElem?_drop] at ha
    have := h.2 (j + i) a ha
    rw [show o + j * 10 + i * 10 = o + (j + i) * 10 from by omega]
    exact this⟩
theorem ticksP_cons (a : FAct) (r : List FAct) : ticksP (a :: r) = (if a.d = 0 then 1 else 0) + ticksP r := rfl
theorem flP_cons (a : FAct) (r : List FAct) : flP (a :: r) = if a.d = 1 then bits BinOp.or .u8 (flP r) a.ports else flP r := rfl
theorem eql57 (p q : Pl) (hp : p.Ok) (hq : q.Ok) (r : Bool) (hr : decide (p = q) = r) (W : World) : (binOp .eql 57 p.val q.val).run Try.prog W = .ok (.bool r) W ∧ (Op.equalIn 10000 57 p.val q.val).run Try.prog W = .ok r W := by
  obtain ⟨r', h1, h2⟩ := run_equal_deep W (m := 4) (by omega) (by kernel_rfl) wide57 (key57 p hp) (key57 q hq)
  have e : r' = r := by
    subst hr
    by_cases h : p = q
    · rw [decide_eq_true h]; exact h2.2 (by rw [h])
    · rw [decide_eq_false h]
      cases r' with
      | false => rfl
      | true => exact absurd (lit_inj hp hq (h2.1 rfl)) h
  subst e
  refine ⟨?_, h1⟩
  simp only [binOp]
  simp [h1]

set_option maxRecDepth 6000 in
set_option maxHeartbeats 40000000 in
theorem learnt_any (a : Option Addr) (n cap : Nat) (l : List FAct) (key : Pl) (hkey : key.Ok) (w : World) (hn : n ≤ 150) (hcap : n ≤ cap) (hll : l.length = n) (h : 0 < n → ∃ b o, a = some ⟨b, o, Option.none⟩ ∧ b < w.heap.size ∧ FActs w b o n l) :
    Calls Try.prog 23 #[.slice a n cap, key.val] w fun e w' => e = .returned (.tuple #[.int .u8 (lp l key n).1, .bool (lp l key n).2]) ∧ Keeps Nil w w' := by
  have kb : Keeps Nil w (w.alloc (.cells #[Value.int IntKind.u16 key.v, Value.int IntKind.u8 key.a, Value.int IntKind.u8 key.b, Value.int IntKind.u8 key.c, Value.int IntKind.u8 key.d, Value.int IntKind.u8 key.e, Value.int IntKind.u8 key.f] 57 (0, 0))) := (Keeps.refl _ _).alloc _
  have hb := alloc_block w (.cells #[Value.int IntKind.u16 key.v, Value.int IntKind.u8 key.a, Value.int IntKind.u8 key.b, Value.int IntKind.u8 key.c, Value.int IntKind.u8 key.d, Value.int IntKind.u8 key.e, Value.int IntKind.u8 key.f] 57 (0, 0))
  have HH0 := hid (fun h0 => by
    obtain ⟨b, o, e, hlt, hr⟩ := h h0
    exact (⟨b, o, e, Nat.lt_of_lt_of_le hlt kb.size, hr.keepN kb hlt⟩ : ∃ b o, a = some ⟨b, o, Option.none⟩ ∧ b < (w.alloc (.cells #[Value.int IntKind.u16 key.v, Value.int IntKind.u8 key.a, Value.int IntKind.u8 key.b, Value.int IntKind.u8 key.c, Value.int IntKind.u8 key.d, Value.int IntKind.u8 key.e, Value.int IntKind.u8 key.f] 57 (0, 0))).heap.size ∧ FActs (w.alloc (.cells #[Value.int IntKind.u16 key.v, Value.int IntKind.u8 key.a, Value.int IntKind.u8 key.b, Value.int IntKind.u8 key.c, Value.int IntKind.u8 key.d, Value.int IntKind.u8 key.e, Value.int IntKind.u8 key.f] 57 (0, 0))) b o n l))
  have OKA := hid (acts_ok hll h)
  have HN := hid hll
  have HKO := hid hkey
  have HCAP := hid hcap
  obtain ⟨res, hres⟩ : ∃ res, lp l key n = res := ⟨_, rfl⟩
  rw [hres]
  have HRES := hid hres
  clear h hll hkey hres
  go_enter Try.func23, Try.ntmps23
  go_upto_region 1 with (fail)
  generalize (w.alloc (.cells #[Value.int IntKind.u16 key.v, Value.int IntKind.u8 key.a, Value.int IntKind.u8 key.b, Value.int IntKind.u8 key.c, Value.int IntKind.u8 key.d, Value.int IntKind.u8 key.e, Value.int IntKind.u8 key.f] 57 (0, 0))) = w1 at *
  have hw1 : w.heap.size < w1.heap.size := lt_of_block hb
  generalize w.heap.size = bK at *
  have HM := hid hb
  have K1 := hid kb
  clear hb kb
  go_wp2_with fail
  go_loopw [6, 7, 8] (fun v6 v7 v8 wr => ∃ j : Nat, j ≤ n ∧ v6 = .int .i64 (ticksP (l.drop j)) ∧ v7 = .int .u8 (flP (l.drop j)) ∧ v8 = .int .i64 ((j : Int) - 1) ∧ Hid (res = lp l key j ∧ Keeps Nil w1 wr)) (fun _ _ v _ => (intOf v + 1).toNat)
  case atStart =>
    have e1 : l.drop n = [] := List.drop_of_length_le (by have := HN.out; omega)
    exact ⟨n, Nat.le_refl _, by rw [e1]; rfl, by rw [e1]; rfl, by go_num, hid ⟨HRES.out.symm, Keeps.refl _ _⟩⟩
  case round =>
    obtain ⟨j, hj, rfl, rfl, rfl, hh⟩ := hrel
    cases j with
    | zero =>
      have HLP := hid hh.out.1
      have KS := hid hh.out.2
      clear hh
      go_wp2_with fail
      go_ret2
      exact ⟨by rw [HLP.out]; rfl, K1.out.trans KS.out⟩
    | succ i =>
      obtain ⟨b, o, rfl, hb, hr⟩ := HH0.out (by omega)
      obtain ⟨x, ha⟩ : ∃ x, l[i]? = some x := ⟨_, List.getElem?_eq_getElem (by have := hr.1; omega)⟩
      have HLP := hid hh.out.1
      have KR := hid hh.out.2
      have HXO := hid (hr.2 i x ha).2
      have hbr : b < wr.heap.size := Nat.lt_of_lt_of_le hb KR.out.size
      have HR := hid (hr.keepN KR.out hb)
      obtain ⟨g0, g1, g2, g3, g4, g5, g6, g7, g8, g9⟩ := HR.out.at ha
      have LPS : Hid (lp l key (i + 1) = if x.d = 0 ∨ x.d = 1 then lp l key i else if x.d = 2 ∧ x.q = key ∧ fixedP (l.take (i + 1)) key = true then (0, false) else if x.mayB = true ∧ fixedP (l.take i) x.q = false then
          if x.q = key then (x.port, decide (ticksP (l.drop (i + 1)) < 40) && (!(fbit (flP (l.drop (i + 1))) x.port)) && !(pushedP (l.drop (i + 1)) (l.take (i + 1)))) else lp l key i else lp l key i) := hid (by
        conv => lhs; unfold lp
        simp only [ha])
      have hdrop : l.drop i = x :: l.drop (i + 1) := by
        obtain ⟨hlt, hv⟩ := List.getElem?_eq_some_iff.1 ha
        rw [List.drop_eq_getElem_cons hlt, hv]
      have HT1 : Hid (x.d = 0 → ticksP (l.drop i) = ticksP (l.drop (i + 1)) + 1) := hid (fun e => by rw [hdrop, ticksP_cons, if_pos e]; omega)
      have HT2 : Hid (x.d ≠ 0 → ticksP (l.drop i) = ticksP (l.drop (i + 1))) := hid (fun e => by rw [hdrop, ticksP_cons, if_neg e]; omega)
      have HF1 : Hid (x.d = 1 → flP (l.drop i) = bits BinOp.or .u8 (flP (l.drop (i + 1))) x.ports) := hid (fun e => by rw [hdrop, flP_cons, if_pos e])
      have HF2 : Hid (x.d ≠ 1 → flP (l.drop i) = flP (l.drop (i + 1))) := hid (fun e => by rw [hdrop, flP_cons, if_neg e])
      have hT0 := ticksP_nonneg (l.drop (i + 1))
      have hTl := ticksP_le (l.drop (i + 1))
      have hTn : ticksP (l.drop (i + 1)) ≤ 150 := by simp only [List.length_drop] at hTl; have := HN.out; omega
      have hFl := flP_range (l.drop (i + 1)) (fun y hy => OKA.out y (List.mem_of_mem_drop hy))
      have HAT := hid ha
      have hw : ((i + 1 : Nat) : Int) - 1 = (i : Int) := by omega
      rw [hw]
      clear hh hr ha hdrop hTl
      go_upto_region 7 with (fail)
      have kz : Keeps Nil wr (wr.alloc (.cells #[Value.int IntKind.u8 x.d, Value.int IntKind.u16 x.q.v, Value.int IntKind.u8 x.q.a, Value.int IntKind.u8 x.q.b, Value.int IntKind.u8 x.q.c, Value.int IntKind.u8 x.q.d, Value.int IntKind.u8 x.q.e, Value.int IntKind.u8 x.q.f, Value.int IntKind.u8 x.port, Value.int IntKind.u8 x.ports] 34 (0, 0))) := (Keeps.refl _ _).alloc _
      have hA := alloc_block wr (.cells #[Value.int IntKind.u8 x.d, Value.int IntKind.u16 x.q.v, Value.int IntKind.u8 x.q.a, Value.int IntKind.u8 x.q.b, Value.int IntKind.u8 x.q.c, Value.int IntKind.u8 x.q.d, Value.int IntKind.u8 x.q.e, Value.int IntKind.u8 x.q.f, Value.int IntKind.u8 x.port, Value.int IntKind.u8 x.ports] 34 (0, 0))
      have hbz : b < (wr.alloc (.cells #[Value.int IntKind.u8 x.d, Value.int IntKind.u16 x.q.v, Value.int IntKind.u8 x.q.a, Value.int IntKind.u8 x.q.b, Value.int IntKind.u8 x.q.c, Value.int IntKind.u8 x.q.d, Value.int IntKind.u8 x.q.e, Value.int IntKind.u8 x.q.f, Value.int IntKind.u8 x.port, Value.int IntKind.u8 x.ports] 34 (0, 0))).heap.size := Nat.lt_of_lt_of_le hbr kz.size
      have HR1 := hid (HR.out.keepN kz hbr)
      have KZ := hid (KR.out.trans kz)
      clear g0 g1 g2 g3 g4 g5 g6 g7 g8 g9 kz HR KR
      generalize (wr.alloc (.cells #[Value.int IntKind.u8 x.d, Value.int IntKind.u16 x.q.v, Value.int IntKind.u8 x.q.a, Value.int IntKind.u8 x.q.b, Value.int IntKind.u8 x.q.c, Value.int IntKind.u8 x.q.d, Value.int IntKind.u8 x.q.e, Value.int IntKind.u8 x.q.f, Value.int IntKind.u8 x.port, Value.int IntKind.u8 x.ports] 34 (0, 0))) = wz at *
      generalize wr.heap.size = bA at *
      have t := ten_of hA
      obtain ⟨g0, g1, g2, g3, g4, g5, g6, g7, g8, g9⟩ := t
      go_upto_region 8 with (fail)
      have kx : Keeps Nil wz (wz.alloc (.cells #[Value.int IntKind.u16 x.q.v, Value.int IntKind.u8 x.q.a, Value.int IntKind.u8 x.q.b, Value.int IntKind.u8 x.q.c, Value.int IntKind.u8 x.q.d, Value.int IntKind.u8 x.q.e, Value.int IntKind.u8 x.q.f] 57 (0, 0))) := (Keeps.refl _ _).alloc _
      have hX := alloc_block wz (.cells #[Value.int IntKind.u16 x.q.v, Value.int IntKind.u8 x.q.a, Value.int IntKind.u8 x.q.b, Value.int IntKind.u8 x.q.c, Value.int IntKind.u8 x.q.d, Value.int IntKind.u8 x.q.e, Value.int IntKind.u8 x.q.f] 57 (0, 0))
      have hbS : b < (wz.alloc (.cells #[Value.int IntKind.u16 x.q.v, Value.int IntKind.u8 x.q.a, Value.int IntKind.u8 x.q.b, Value.int IntKind.u8 x.q.c, Value.int IntKind.u8 x.q.d, Value.int IntKind.u8 x.q.e, Value.int IntKind.u8 x.q.f] 57 (0, 0))).heap.size := Nat.lt_of_lt_of_le hbz kx.size
      have HRS := hid (HR1.out.keepN kx hbz)
      have KS := hid (KZ.out.trans kx)
      have HA := hid (kx.lies hA)
      clear g0 g1 g2 g3 g4 g5 g6 g7 g8 g9 kx HR1 KZ hA
      generalize (wz.alloc (.cells #[Value.int IntKind.u16 x.q.v, Value.int IntKind.u8 x.q.a, Value.int IntKind.u8 x.q.b, Value.int IntKind.u8 x.q.c, Value.int IntKind.u8 x.q.d, Value.int IntKind.u8 x.q.e, Value.int IntKind.u8 x.q.f] 57 (0, 0))) = wS at *
      generalize wz.heap.size = bX at *
      have HX := hid hX
      have HBS := hid hbS
      have HMS := hid (KS.out.lies HM.out)
      clear hX hbS hbz hbr
      have HH : Hid (∀ X, Keeps Nil wS X → (fun X : World => (X.cell? ⟨bA, 0, Option.none⟩ = some (.int .u8 x.d) ∧ X.cell? ⟨bA, 1, Option.none⟩ = some (.int .u16 x.q.v) ∧ X.cell? ⟨bA, 2, Option.none⟩ = some (.int .u8 x.q.a) ∧ X.cell? ⟨bA, 3, Option.none⟩ = some (.int .u8 x.q.b) ∧ X.cell? ⟨bA, 4, Option.none⟩ = some (.int .u8 x.q.c) ∧ X.cell? ⟨bA, 5, Option.none⟩ = some (.int .u8 x.q.d) ∧ X.cell? ⟨bA, 6, Option.none⟩ = some (.int .u8 x.q.e) ∧ X.cell? ⟨bA, 7, Option.none⟩ = some (.int .u8 x.q.f) ∧ X.cell? ⟨bA, 8, Option.none⟩ = some (.int .u8 x.port) ∧ X.cell? ⟨bA, 9, Option.none⟩ = some (.int .u8 x.ports)) ∧ (X.cell? ⟨bX, 0, Option.none⟩ = some (.int .u16 x.q.v) ∧ X.cell? ⟨bX, 1, Option.none⟩ = some (.int .u8 x.q.a) ∧ X.cell? ⟨bX, 2, Option.none⟩ = some (.int .u8 x.q.b) ∧ X.cell? ⟨bX, 3, Option.none⟩ = some (.int .u8 x.q.c) ∧ X.cell? ⟨bX, 4, Option.none⟩ = some (.int .u8 x.q.d) ∧ X.cell? ⟨bX, 5, Option.none⟩ = some (.int .u8 x.q.e) ∧ X.cell? ⟨bX, 6, Option.none⟩ = some (.int .u8 x.q.f)) ∧ (X.cell? ⟨bK, 0, Option.none⟩ = some (.int .u16 key.v) ∧ X.cell? ⟨bK, 1, Option.none⟩ = some (.int .u8 key.a) ∧ X.cell? ⟨bK, 2, Option.none⟩ = some (.int .u8 key.b) ∧ X.cell? ⟨bK, 3, Option.none⟩ = some (.int .u8 key.c) ∧ X.cell? ⟨bK, 4, Option.none⟩ = some (.int .u8 key.d) ∧ X.cell? ⟨bK, 5, Option.none⟩ = some (.int .u8 key.e) ∧ X.cell? ⟨bK, 6, Option.none⟩ = some (.int .u8 key.f))) X) := hid (fun X kX => ⟨ten_of (kX.lies HA.out), seven_of (kX.lies HX.out), seven_of (kX.lies HMS.out)⟩)
      have kk : Keeps Nil wS wS := Keeps.refl _ _
      obtain ⟨⟨g0, g1, g2, g3, g4, g5, g6, g7, g8, g9⟩, ⟨x0, x1, x2, x3, x4, x5, x6⟩, ⟨y0, y1, y2, y3, y4, y5, y6⟩⟩ := HH.out _ kk
      generalize hTT : ticksP (l.drop (i + 1)) = T at *
      generalize hFF : flP (l.drop (i + 1)) = F at *
      clear hTT hFF
      by_cases d0 : x.d = 0
      · have D0 := hid d0
        rw [d0] at g0
        clear d0
        have KK := hid kk
        go_wp2_with fail
        go_roundw
        case rel => exact ⟨i, by omega, by rw [HT1.out D0.out], by rw [HF2.out (by have := D0.out; omega)], by go_num, hid ⟨by rw [HLP.out, LPS.out]; rw [if_pos (Or.inl D0.out)], KS.out.trans KK.out⟩⟩
        case measure => simp only [intOf]; omega
      by_cases d1 : x.d = 1
      · have D1 := hid d1
        rw [d1] at g0
        clear d0 d1
        have KK := hid kk
        go_wp2_with fail
        go_roundw
        case rel => exact ⟨i, by omega, by rw [HT2.out (by have := D1.out; omega)], by rw [HF1.out D1.out], by go_num, hid ⟨by rw [HLP.out, LPS.out]; rw [if_pos (Or.inr D1.out)], KS.out.trans KK.out⟩⟩
        case measure => simp only [intOf]; omega
      have D01 : Hid (¬ (x.d = 0 ∨ x.d = 1)) := hid (by omega)
      have hd0 : (x.d == 0) = false := by simpa using d0
      have hd1 : (x.d == 1) = false := by simpa using d1
      have hi0 : (0 : Int) ≤ (i : Int) := by omega
      have hi1 : (i : Int) ≤ (cap : Int) := by have := HCAP.out; omega
      have hi2 : (i : Int) + 1 ≤ (cap : Int) := by have := HCAP.out; omega
      have hi4 : (0 : Int) ≤ (i : Int) + 1 := by omega
      have hi5 : (i : Int) + 1 ≤ (n : Int) := by omega
      have hi3 : IntKind.i64.wrap ((i : Int) + 1) = (i : Int) + 1 := by rw [IntKind.wrap_i64]; omega
      clear d0 d1
      by_cases d2 : x.d = 2
      · have hd2 : (x.d == 2) = true := by simpa using d2
        have D2 := hid d2
        have HMB : Hid (x.mayB = false) := hid (by cases hm : x.mayB with
          | false => rfl
          | true => have := ((FAct.mayB_iff x).1 hm).1; omega)
        have C37 : ∀ W, Keeps Nil wS W → Calls Try.prog 37 #[x.val] W fun e w' => e = .returned (.bool false) ∧ Keeps Nil W w' := fun W kW => by
          have := fmay_any x HXO.out W
          rw [HMB.out] at this
          exact this
        clear d2
        by_cases hq : x.q = key
        · have hE : ∀ W, (binOp .eql 57 (.agg #[.int .u16 x.q.v, .int .u8 x.q.a, .int .u8 x.q.b, .int .u8 x.q.c, .int .u8 x.q.d, .int .u8 x.q.e, .int .u8 x.q.f]) (.agg #[.int .u16 key.v, .int .u8 key.a, .int .u8 key.b, .int .u8 key.c, .int .u8 key.d, .int .u8 key.e, .int .u8 key.f])).run Try.prog W = .ok (.bool true) W := fun W => (eql57 x.q key HXO.out.2.1 HKO.out true (decide_eq_true hq) W).1
          have hE2 : ∀ W, (Op.equalIn 10000 57 (.agg #[.int .u16 x.q.v, .int .u8 x.q.a, .int .u8 x.q.b, .int .u8 x.q.c, .int .u8 x.q.d, .int .u8 x.q.e, .int .u8 x.q.f]) (.agg #[.int .u16 key.v, .int .u8 key.a, .int .u8 key.b, .int .u8 key.c, .int .u8 key.d, .int .u8 key.e, .int .u8 key.f])).run Try.prog W = .ok true W := fun W => (eql57 x.q key HXO.out.2.1 HKO.out true (decide_eq_true hq) W).2
          have HQ := hid hq
          clear hq
          cases hf : fixedP (l.take (i + 1)) key with
          | true =>
            have HF := hid hf
            have C36a : ∀ W, Keeps Nil wS W → Calls Try.prog 36 #[.slice (some ⟨b, o, Option.none⟩) (i + 1) cap, key.val] W fun e w' => e = .returned (.bool true) ∧ Keeps Nil W w' := fun W kW => by
              have := fixed_any (some ⟨b, o, Option.none⟩) (i + 1) cap (l.take (i + 1)) key HKO.out W (by omega) (by have := HN.out; simp only [List.length_take]; omega) (fun _ => ⟨b, o, rfl, Nat.lt_of_lt_of_le HBS.out kW.size, (HRS.out.keepN kW HBS.out).takes (by omega)⟩)
              rw [HF.out] at this
              exact this
            clear hf
            go_wp2_with fail
            refine wp_region_held_drew (S := (fun X : World => (X.cell? ⟨bA, 0, Option.none⟩ = some (.int .u8 x.d) ∧ X.cell? ⟨bA, 1, Option.none⟩ = some (.int .u16 x.q.v) ∧ X.cell? ⟨bA, 2, Option.none⟩ = some (.int .u8 x.q.a) ∧ X.cell? ⟨bA, 3, Option.none⟩ = some (.int .u8 x.q.b) ∧ X.cell? ⟨bA, 4, Option.none⟩ = some (.int .u8 x.q.c) ∧ X.cell? ⟨bA, 5, Option.none⟩ = some (.int .u8 x.q.d) ∧ X.cell? ⟨bA, 6, Option.none⟩ = some (.int .u8 x.q.e) ∧ X.cell? ⟨bA, 7, Option.none⟩ = some (.int .u8 x.q.f) ∧ X.cell? ⟨bA, 8, Option.none⟩ = some (.int .u8 x.port) ∧ X.cell? ⟨bA, 9, Option.none⟩ = some (.int .u8 x.ports)) ∧ (X.cell? ⟨bX, 0, Option.none⟩ = some (.int .u16 x.q.v) ∧ X.cell? ⟨bX, 1, Option.none⟩ = some (.int .u8 x.q.a) ∧ X.cell? ⟨bX, 2, Option.none⟩ = some (.int .u8 x.q.b) ∧ X.cell? ⟨bX, 3, Option.none⟩ = some (.int .u8 x.q.c) ∧ X.cell? ⟨bX, 4, Option.none⟩ = some (.int .u8 x.q.d) ∧ X.cell? ⟨bX, 5, Option.none⟩ = some (.int .u8 x.q.e) ∧ X.cell? ⟨bX, 6, Option.none⟩ = some (.int .u8 x.q.f)) ∧ (X.cell? ⟨bK, 0, Option.none⟩ = some (.int .u16 key.v) ∧ X.cell? ⟨bK, 1, Option.none⟩ = some (.int .u8 key.a) ∧ X.cell? ⟨bK, 2, Option.none⟩ = some (.int .u8 key.b) ∧ X.cell? ⟨bK, 3, Option.none⟩ = some (.int .u8 key.c) ∧ X.cell? ⟨bK, 4, Option.none⟩ = some (.int .u8 key.d) ∧ X.cell? ⟨bK, 5, Option.none⟩ = some (.int .u8 key.e) ∧ X.cell? ⟨bK, 6, Option.none⟩ = some (.int .u8 key.f)))) (by kernel_rfl) ?_ (fun hHeld => ?_)
            · (try dsimp only); (first | exact HH.out _ kk | exact HH.out _ kk.drew | exact HH.out _ kk.drew.drew)
            refine wpAnyH_take (i := 0) (v := ?_) rfl (by kernel_rfl) (by kernel_rfl) (by kernel_rfl) (fun _ _ _ h => h) (Or.inl ⟨by rfl, ?_⟩) (by assumption) ?_
            rotate_left
            · (intro W hSw; (try dsimp only at hSw); go_simp <;> with_reducible rfl)
            try simp only [Act.put, List.setIfInBounds_toArray, List.set_cons_zero, List.set_cons_succ, List.getElem_toArray, List.getElem_cons_zero, List.getElem_cons_succ]
            refine wpAnyH_take (i := 1) (v := ?_) rfl (by kernel_rfl) (by kernel_rfl) (by kernel_rfl) (fun _ _ _ h => h) (Or.inl ⟨by rfl, ?_⟩) (by assumption) ?_
            rotate_left
            · (intro W hSw; (try dsimp only at hSw); go_simp <;> with_reducible rfl)
            try simp only [Act.put, List.setIfInBounds_toArray, List.set_cons_zero, List.set_cons_succ, List.getElem_toArray, List.getElem_cons_zero, List.getElem_cons_succ]
            refine wpAnyH_take (i := 2) (v := ?_) rfl (by kernel_rfl) (by kernel_rfl) (by kernel_rfl) (fun _ _ _ h => h) (Or.inl ⟨by rfl, ?_⟩) (by assumption) ?_
            rotate_left
            · (intro W hSw; (try dsimp only at hSw); go_simp <;> with_reducible rfl)
            try simp only [Act.put, List.setIfInBounds_toArray, List.set_cons_zero, List.set_cons_succ, List.getElem_toArray, List.getElem_cons_zero, List.getElem_cons_succ]
            refine wpAnyH_take (i := 3) (v := ?_) rfl (by kernel_rfl) (by kernel_rfl) (by kernel_rfl) (fun _ _ _ h => h) (Or.inl ⟨by rfl, ?_⟩) (by assumption) ?_
            rotate_left
            · (intro W hSw; (try dsimp only at hSw); go_simp <;> with_reducible rfl)
            try simp only [Act.put, List.setIfInBounds_toArray, List.set_cons_zero, List.set_cons_succ, List.getElem_toArray, List.getElem_cons_zero, List.getElem_cons_succ]
            refine wpAnyH_take (i := 4) (v := ?_) rfl (by kernel_rfl) (by kernel_rfl) (by kernel_rfl) (fun _ _ _ h => h) (Or.inl ⟨by rfl, ?_⟩) (by assumption) ?_
            rotate_left
            · (intro W hSw; (try dsimp only at hSw); go_simp <;> with_reducible rfl)
            try simp only [Act.put, List.setIfInBounds_toArray, List.set_cons_zero, List.set_cons_succ, List.getElem_toArray, List.getElem_cons_zero, List.getElem_cons_succ]
            refine wpAnyH_take (i := 5) (v := ?_) rfl (by kernel_rfl) (by kernel_rfl) (by kernel_rfl) (fun _ _ _ h => h) (Or.inl ⟨by rfl, ?_⟩) (by assumption) ?_
            rotate_left
            · (intro W hSw; (try dsimp only at hSw); go_simp <;> with_reducible rfl)
            try simp only [Act.put, List.setIfInBounds_toArray, List.set_cons_zero, List.set_cons_succ, List.getElem_toArray, List.getElem_cons_zero, List.getElem_cons_succ]
            refine wpAnyH_take (i := 6) (v := ?_) rfl (by kernel_rfl) (by kernel_rfl) (by kernel_rfl) (fun _ _ _ h => h) (Or.inl ⟨by rfl, ?_⟩) (by assumption) ?_
            rotate_left
            · (intro W hSw; (try dsimp only at hSw); go_simp <;> with_reducible rfl)
            try simp only [Act.put, List.setIfInBounds_toArray, List.set_cons_zero, List.set_cons_succ, List.getElem_toArray, List.getElem_cons_zero, List.getElem_cons_succ]
            refine wpAnyH_take (i := 7) (v := ?_) rfl (by kernel_rfl) (by kernel_rfl) (by kernel_rfl) (fun _ _ _ h => h) (Or.inl ⟨by rfl, ?_⟩) (by assumption) ?_
            rotate_left
            · (intro W hSw; (try dsimp only at hSw); go_simp <;> with_reducible rfl)
            try simp only [Act.put, List.setIfInBounds_toArray, List.set_cons_zero, List.set_cons_succ, List.getElem_toArray, List.getElem_cons_zero, List.getElem_cons_succ]
            refine wpAnyH_take (i := 8) (v := ?_) rfl (by kernel_rfl) (by kernel_rfl) (by kernel_rfl) (fun _ _ _ h => h) (Or.inl ⟨by rfl, ?_⟩) (by assumption) ?_
            rotate_left
            · (intro W hSw; (try dsimp only at hSw); go_simp <;> with_reducible rfl)
            try simp only [Act.put, List.setIfInBounds_toArray, List.set_cons_zero, List.set_cons_succ, List.getElem_toArray, List.getElem_cons_zero, List.getElem_cons_succ]
            refine wpAnyH_take (i := 9) (v := ?_) rfl (by kernel_rfl) (by kernel_rfl) (by kernel_rfl) (fun _ _ _ h => h) (Or.inl ⟨by rfl, ?_⟩) (by assumption) ?_
            rotate_left
            · (intro W hSw; (try dsimp only at hSw); go_simp <;> with_reducible rfl)
            try simp only [Act.put, List.setIfInBounds_toArray, List.set_cons_zero, List.set_cons_succ, List.getElem_toArray, List.getElem_cons_zero, List.getElem_cons_succ]
            refine wpAnyH_take (i := 10) (v := ?_) rfl (by kernel_rfl) (by kernel_rfl) (by kernel_rfl) (fun _ _ _ h => h) (Or.inl ⟨by rfl, ?_⟩) (by assumption) ?_
            rotate_left
            · (intro W hSw; (try dsimp only at hSw); go_simp <;> with_reducible rfl)
            try simp only [Act.put, List.setIfInBounds_toArray, List.set_cons_zero, List.set_cons_succ, List.getElem_toArray, List.getElem_cons_zero, List.getElem_cons_succ]
            refine wpAnyH_take (i := 11) (v := ?_) rfl (by kernel_rfl) (by kernel_rfl) (by kernel_rfl) (fun _ _ _ h => h) (Or.inl ⟨by rfl, ?_⟩) (by assumption) ?_
            rotate_left
            · (intro W hSw; (try dsimp only at hSw); go_simp <;> with_reducible rfl)
            try simp only [Act.put, List.setIfInBounds_toArray, List.set_cons_zero, List.set_cons_succ, List.getElem_toArray, List.getElem_cons_zero, List.getElem_cons_succ]
            refine wpAnyH_take (i := 12) (v := ?_) rfl (by kernel_rfl) (by kernel_rfl) (by kernel_rfl) (fun _ _ _ h => h) (Or.inl ⟨by rfl, ?_⟩) (by assumption) ?_
            rotate_left
            · (intro W hSw; (try dsimp only at hSw); go_simp <;> with_reducible rfl)
            try simp only [Act.put, List.setIfInBounds_toArray, List.set_cons_zero, List.set_cons_succ, List.getElem_toArray, List.getElem_cons_zero, List.getElem_cons_succ]
            refine wpAnyH_take (i := 13) (v := ?_) rfl (by kernel_rfl) (by kernel_rfl) (by kernel_rfl) (fun _ _ _ h => h) (Or.inl ⟨by rfl, ?_⟩) (by assumption) ?_
            rotate_left
            · (intro W hSw; (try dsimp only at hSw); go_simp <;> with_reducible rfl)
            try simp only [Act.put, List.setIfInBounds_toArray, List.set_cons_zero, List.set_cons_succ, List.getElem_toArray, List.getElem_cons_zero, List.getElem_cons_succ]
            refine wpAnyH_ready (rs := [14]) (by kernel_rfl) (by simp) ?_
            refine AllReadyH.cons rfl (fun K hK => ?_) AllReadyH.nil
            try simp only [Act.put, List.setIfInBounds_toArray, List.set_cons_zero, List.set_cons_succ, List.getElem_toArray, List.getElem_cons_zero, List.getElem_cons_succ]
            go_simp
            (go_at_call 36; refine (C36a _ (by first | exact kk | exact kk.drew | exact kk.drew.drew)).mono ?_; rintro ee wz ⟨rfl, kz⟩; have kk : Keeps Nil wS wz := by first | exact kk.trans kz | exact kk.drew.trans kz | exact kk.drew.drew.trans kz)
            (try go_wp2_with fail)
            refine hK.out _ _ ?_ (fun hHeld => ?_)
            · (try dsimp only); (first | exact HH.out _ kk | exact HH.out _ kk.drew | exact HH.out _ kk.drew.drew)
            clear hK K
            try simp only [Act.put, List.setIfInBounds_toArray, List.set_cons_zero, List.set_cons_succ, List.getElem_toArray, List.getElem_cons_zero, List.getElem_cons_succ]
            refine wpAnyH_take (i := 15) (v := ?_) rfl (by kernel_rfl) (by kernel_rfl) (by kernel_rfl) (fun _ _ _ h => h) (Or.inl ⟨by rfl, ?_⟩) (by assumption) ?_
            rotate_left
            · (intro W hSw; (try dsimp only at hSw); go_simp <;> with_reducible rfl)
            try simp only [Act.put, List.setIfInBounds_toArray, List.set_cons_zero, List.set_cons_succ, List.getElem_toArray, List.getElem_cons_zero, List.getElem_cons_succ]
            refine wpAnyH_take (i := 16) (v := ?_) rfl (by kernel_rfl) (by kernel_rfl) (by kernel_rfl) (fun _ _ _ h => h) (Or.inl ⟨by rfl, ?_⟩) (by assumption) ?_
            rotate_left
            · (intro W hSw; (try dsimp only at hSw); go_simp <;> with_reducible rfl)
            try simp only [Act.put, List.setIfInBounds_toArray, List.set_cons_zero, List.set_cons_succ, List.getElem_toArray, List.getElem_cons_zero, List.getElem_cons_succ]
            refine wpAnyH_done (by kernel_rfl) ?_ _
            have KK := hid kk
            have hfin : res = _ := HLP.out.trans (LPS.out.trans ((if_neg D01.out).trans (if_pos ⟨D2.out, HQ.out, HF.out⟩)))
            have HFIN := hid hfin
            clear hfin
            go_wp2_with fail
            go_ret2
            exact ⟨by rw [HFIN.out]; rfl, K1.out.trans (KS.out.trans KK.out)⟩
          | false =>
            have HF := hid hf
            have C36a : ∀ W, Keeps Nil wS W → Calls Try.prog 36 #[.slice (some ⟨b, o, Option.none⟩) (i + 1) cap, key.val] W fun e w' => e = .returned (.bool false) ∧ Keeps Nil W w' := fun W kW => by
              have := fixed_any (some ⟨b, o, Option.none⟩) (i + 1) cap (l.take (i + 1)) key HKO.out W (by omega) (by have := HN.out; simp only [List.length_take]; omega) (fun _ => ⟨b, o, rfl, Nat.lt_of_lt_of_le HBS.out kW.size, (HRS.out.keepN kW HBS.out).takes (by omega)⟩)
              rw [HF.out] at this
              exact this
            clear hf
            go_wp2_with fail
            refine wp_region_held_drew (S := (fun X : World => (X.cell? ⟨bA, 0, Option.none⟩ = some (.int .u8 x.d) ∧ X.cell? ⟨bA, 1, Option.none⟩ = some (.int .u16 x.q.v) ∧ X.cell? ⟨bA, 2, Option.none⟩ = some (.int .u8 x.q.a) ∧ X.cell? ⟨bA, 3, Option.none⟩ = some (.int .u8 x.q.b) ∧ X.cell? ⟨bA, 4, Option.none⟩ = some (.int .u8 x.q.c) ∧ X.cell? ⟨bA, 5, Option.none⟩ = some (.int .u8 x.q.d) ∧ X.cell? ⟨bA, 6, Option.none⟩ = some (.int .u8 x.q.e) ∧ X.cell? ⟨bA, 7, Option.none⟩ = some (.int .u8 x.q.f) ∧ X.cell? ⟨bA, 8, Option.none⟩ = some (.int .u8 x.port) ∧ X.cell? ⟨bA, 9, Option.none⟩ = some (.int .u8 x.ports)) ∧ (X.cell? ⟨bX, 0, Option.none⟩ = some (.int .u16 x.q.v) ∧ X.cell? ⟨bX, 1, Option.none⟩ = some (.int .u8 x.q.a) ∧ X.cell? ⟨bX, 2, Option.none⟩ = some (.int .u8 x.q.b) ∧ X.cell? ⟨bX, 3, Option.none⟩ = some (.int .u8 x.q.c) ∧ X.cell? ⟨bX, 4, Option.none⟩ = some (.int .u8 x.q.d) ∧ X.cell? ⟨bX, 5, Option.none⟩ = some (.int .u8 x.q.e) ∧ X.cell? ⟨bX, 6, Option.none⟩ = some (.int .u8 x.q.f)) ∧ (X.cell? ⟨bK, 0, Option.none⟩ = some (.int .u16 key.v) ∧ X.cell? ⟨bK, 1, Option.none⟩ = some (.int .u8 key.a) ∧ X.cell? ⟨bK, 2, Option.none⟩ = some (.int .u8 key.b) ∧ X.cell? ⟨bK, 3, Option.none⟩ = some (.int .u8 key.c) ∧ X.cell? ⟨bK, 4, Option.none⟩ = some (.int .u8 key.d) ∧ X.cell? ⟨bK, 5, Option.none⟩ = some (.int .u8 key.e) ∧ X.cell? ⟨bK, 6, Option.none⟩ = some (.int .u8 key.f)))) (by kernel_rfl) ?_ (fun hHeld => ?_)
            · (try dsimp only); (first | exact HH.out _ kk | exact HH.out _ kk.drew | exact HH.out _ kk.drew.drew)
            refine wpAnyH_take (i := 0) (v := ?_) rfl (by kernel_rfl) (by kernel_rfl) (by kernel_rfl) (fun _ _ _ h => h) (Or.inl ⟨by rfl, ?_⟩) (by assumption) ?_
            rotate_left
            · (intro W hSw; (try dsimp only at hSw); go_simp <;> with_reducible rfl)
            try simp only [Act.put, List.setIfInBounds_toArray, List.set_cons_zero, List.set_cons_succ, List.getElem_toArray, List.getElem_cons_zero, List.getElem_cons_succ]
            refine wpAnyH_take (i := 1) (v := ?_) rfl (by kernel_rfl) (by kernel_rfl) (by kernel_rfl) (fun _ _ _ h => h) (Or.inl ⟨by rfl, ?_⟩) (by assumption) ?_
            rotate_left
            · (intro W hSw; (try dsimp only at hSw); go_simp <;> with_reducible rfl)
            try simp only [Act.put, List.setIfInBounds_toArray, List.set_cons_zero, List.set_cons_succ, List.getElem_toArray, List.getElem_cons_zero, List.getElem_cons_succ]
            refine wpAnyH_take (i := 2) (v := ?_) rfl (by kernel_rfl) (by kernel_rfl) (by kernel_rfl) (fun _ _ _ h => h) (Or.inl ⟨by rfl, ?_⟩) (by assumption) ?_
            rotate_left
            · (intro W hSw; (try dsimp only at hSw); go_simp <;> with_reducible rfl)
            try simp only [Act.put, List.setIfInBounds_toArray, List.set_cons_zero, List.set_cons_succ, List.getElem_toArray, List.getElem_cons_zero, List.getElem_cons_succ]
            refine wpAnyH_take (i := 3) (v := ?_) rfl (by kernel_rfl) (by kernel_rfl) (by kernel_rfl) (fun _ _ _ h => h) (Or.inl ⟨by rfl, ?_⟩) (by assumption) ?_
            rotate_left
            · (intro W hSw; (try dsimp only at hSw); go_simp <;> with_reducible rfl)
            try simp only [Act.put, List.setIfInBounds_toArray, List.set_cons_zero, List.set_cons_succ, List.getElem_toArray, List.getElem_cons_zero, List.getElem_cons_succ]
            refine wpAnyH_take (i := 4) (v := ?_) rfl (by kernel_rfl) (by kernel_rfl) (by kernel_rfl) (fun _ _ _ h => h) (Or.inl ⟨by rfl, ?_⟩) (by assumption) ?_
            rotate_left
            · (intro W hSw; (try dsimp only at hSw); go_simp <;> with_reducible rfl)
            try simp only [Act.put, List.setIfInBounds_toArray, List.set_cons_zero, List.set_cons_succ, List.getElem_toArray, List.getElem_cons_zero, List.getElem_cons_succ]
            refine wpAnyH_take (i := 5) (v := ?_) rfl (by kernel_rfl) (by kernel_rfl) (by kernel_rfl) (fun _ _ _ h => h) (Or.inl ⟨by rfl, ?_⟩) (by assumption) ?_
            rotate_left
            · (intro W hSw; (try dsimp only at hSw); go_simp <;> with_reducible rfl)
            try simp only [Act.put, List.setIfInBounds_toArray, List.set_cons_zero, List.set_cons_succ, List.getElem_toArray, List.getElem_cons_zero, List.getElem_cons_succ]
            refine wpAnyH_take (i := 6) (v := ?_) rfl (by kernel_rfl) (by kernel_rfl) (by kernel_rfl) (fun _ _ _ h => h) (Or.inl ⟨by rfl, ?_⟩) (by assumption) ?_
            rotate_left
            · (intro W hSw; (try dsimp only at hSw); go_simp <;> with_reducible rfl)
            try simp only [Act.put, List.setIfInBounds_toArray, List.set_cons_zero, List.set_cons_succ, List.getElem_toArray, List.getElem_cons_zero, List.getElem_cons_succ]
            refine wpAnyH_take (i := 7) (v := ?_) rfl (by kernel_rfl) (by kernel_rfl) (by kernel_rfl) (fun _ _ _ h => h) (Or.inl ⟨by rfl, ?_⟩) (by assumption) ?_
            rotate_left
            · (intro W hSw; (try dsimp only at hSw); go_simp <;> with_reducible rfl)
            try simp only [Act.put, List.setIfInBounds_toArray, List.set_cons_zero, List.set_cons_succ, List.getElem_toArray, List.getElem_cons_zero, List.getElem_cons_succ]
            refine wpAnyH_take (i := 8) (v := ?_) rfl (by kernel_rfl) (by kernel_rfl) (by kernel_rfl) (fun _ _ _ h => h) (Or.inl ⟨by rfl, ?_⟩) (by assumption) ?_
            rotate_left
            · (intro W hSw; (try dsimp only at hSw); go_simp <;> with_reducible rfl)
            try simp only [Act.put, List.setIfInBounds_toArray, List.set_cons_zero, List.set_cons_succ, List.getElem_toArray, List.getElem_cons_zero, List.getElem_cons_succ]
            refine wpAnyH_take (i := 9) (v := ?_) rfl (by kernel_rfl) (by kernel_rfl) (by kernel_rfl) (fun _ _ _ h => h) (Or.inl ⟨by rfl, ?_⟩) (by assumption) ?_
            rotate_left
            · (intro W hSw; (try dsimp only at hSw); go_simp <;> with_reducible rfl)
            try simp only [Act.put, List.setIfInBounds_toArray, List.set_cons_zero, List.set_cons_succ, List.getElem_toArray, List.getElem_cons_zero, List.getElem_cons_succ]
            refine wpAnyH_take (i := 10) (v := ?_) rfl (by kernel_rfl) (by kernel_rfl) (by kernel_rfl) (fun _ _ _ h => h) (Or.inl ⟨by rfl, ?_⟩) (by assumption) ?_
            rotate_left
            · (intro W hSw; (try dsimp only at hSw); go_simp <;> with_reducible rfl)
            try simp only [Act.put, List.setIfInBounds_toArray, List.set_cons_zero, List.set_cons_succ, List.getElem_toArray, List.getElem_cons_zero, List.getElem_cons_succ]
            refine wpAnyH_take (i := 11) (v := ?_) rfl (by kernel_rfl) (by kernel_rfl) (by kernel_rfl) (fun _ _ _ h => h) (Or.inl ⟨by rfl, ?_⟩) (by assumption) ?_
            rotate_left
            · (intro W hSw; (try dsimp only at hSw); go_simp <;> with_reducible rfl)
            try simp only [Act.put, List.setIfInBounds_toArray, List.set_cons_zero, List.set_cons_succ, List.getElem_toArray, List.getElem_cons_zero, List.getElem_cons_succ]
            refine wpAnyH_take (i := 12) (v := ?_) rfl (by kernel_rfl) (by kernel_rfl) (by kernel_rfl) (fun _ _ _ h => h) (Or.inl ⟨by rfl, ?_⟩) (by assumption) ?_
            rotate_left
            · (intro W hSw; (try dsimp only at hSw); go_simp <;> with_reducible rfl)
            try simp only [Act.put, List.setIfInBounds_toArray, List.set_cons_zero, List.set_cons_succ, List.getElem_toArray, List.getElem_cons_zero, List.getElem_cons_succ]
            refine wpAnyH_take (i := 13) (v := ?_) rfl (by kernel_rfl) (by kernel_rfl) (by kernel_rfl) (fun _ _ _ h => h) (Or.inl ⟨by rfl, ?_⟩) (by assumption) ?_
            rotate_left
            · (intro W hSw; (try dsimp only at hSw); go_simp <;> with_reducible rfl)
            try simp only [Act.put, List.setIfInBounds_toArray, List.set_cons_zero, List.set_cons_succ, List.getElem_toArray, List.getElem_cons_zero, List.getElem_cons_succ]
            refine wpAnyH_ready (rs := [14]) (by kernel_rfl) (by simp) ?_
            refine AllReadyH.cons rfl (fun K hK => ?_) AllReadyH.nil
            try simp only [Act.put, List.setIfInBounds_toArray, List.set_cons_zero, List.set_cons_succ, List.getElem_toArray, List.getElem_cons_zero, List.getElem_cons_succ]
            go_simp
            (go_at_call 36; refine (C36a _ (by first | exact kk | exact kk.drew | exact kk.drew.drew)).mono ?_; rintro ee wz ⟨rfl, kz⟩; have kk : Keeps Nil wS wz := by first | exact kk.trans kz | exact kk.drew.trans kz | exact kk.drew.drew.trans kz)
            (try go_wp2_with fail)
            refine hK.out _ _ ?_ (fun hHeld => ?_)
            · (try dsimp only); (first | exact HH.out _ kk | exact HH.out _ kk.drew | exact HH.out _ kk.drew.drew)
            clear hK K
            try simp only [Act.put, List.setIfInBounds_toArray, List.set_cons_zero, List.set_cons_succ, List.getElem_toArray, List.getElem_cons_zero, List.getElem_cons_succ]
            refine wpAnyH_take (i := 15) (v := ?_) rfl (by kernel_rfl) (by kernel_rfl) (by kernel_rfl) (fun _ _ _ h => h) (Or.inl ⟨by rfl, ?_⟩) (by assumption) ?_
            rotate_left
            · (intro W hSw; (try dsimp only at hSw); go_simp <;> with_reducible rfl)
            try simp only [Act.put, List.setIfInBounds_toArray, List.set_cons_zero, List.set_cons_succ, List.getElem_toArray, List.getElem_cons_zero, List.getElem_cons_succ]
            refine wpAnyH_take (i := 16) (v := ?_) rfl (by kernel_rfl) (by kernel_rfl) (by kernel_rfl) (fun _ _ _ h => h) (Or.inl ⟨by rfl, ?_⟩) (by assumption) ?_
            rotate_left
            · (intro W hSw; (try dsimp only at hSw); go_simp <;> with_reducible rfl)
            try simp only [Act.put, List.setIfInBounds_toArray, List.set_cons_zero, List.set_cons_succ, List.getElem_toArray, List.getElem_cons_zero, List.getElem_cons_succ]
            refine wpAnyH_done (by kernel_rfl) ?_ _
            go_wp2_with fail
            refine wp_region_held_drew (S := (fun X : World => (X.cell? ⟨bA, 0, Option.none⟩ = some (.int .u8 x.d) ∧ X.cell? ⟨bA, 1, Option.none⟩ = some (.int .u16 x.q.v) ∧ X.cell? ⟨bA, 2, Option.none⟩ = some (.int .u8 x.q.a) ∧ X.cell? ⟨bA, 3, Option.none⟩ = some (.int .u8 x.q.b) ∧ X.cell? ⟨bA, 4, Option.none⟩ = some (.int .u8 x.q.c) ∧ X.cell? ⟨bA, 5, Option.none⟩ = some (.int .u8 x.q.d) ∧ X.cell? ⟨bA, 6, Option.none⟩ = some (.int .u8 x.q.e) ∧ X.cell? ⟨bA, 7, Option.none⟩ = some (.int .u8 x.q.f) ∧ X.cell? ⟨bA, 8, Option.none⟩ = some (.int .u8 x.port) ∧ X.cell? ⟨bA, 9, Option.none⟩ = some (.int .u8 x.ports)) ∧ (X.cell? ⟨bX, 0, Option.none⟩ = some (.int .u16 x.q.v) ∧ X.cell? ⟨bX, 1, Option.none⟩ = some (.int .u8 x.q.a) ∧ X.cell? ⟨bX, 2, Option.none⟩ = some (.int .u8 x.q.b) ∧ X.cell? ⟨bX, 3, Option.none⟩ = some (.int .u8 x.q.c) ∧ X.cell? ⟨bX, 4, Option.none⟩ = some (.int .u8 x.q.d) ∧ X.cell? ⟨bX, 5, Option.none⟩ = some (.int .u8 x.q.e) ∧ X.cell? ⟨bX, 6, Option.none⟩ = some (.int .u8 x.q.f)) ∧ (X.cell? ⟨bK, 0, Option.none⟩ = some (.int .u16 key.v) ∧ X.cell? ⟨bK, 1, Option.none⟩ = some (.int .u8 key.a) ∧ X.cell? ⟨bK, 2, Option.none⟩ = some (.int .u8 key.b) ∧ X.cell? ⟨bK, 3, Option.none⟩ = some (.int .u8 key.c) ∧ X.cell? ⟨bK, 4, Option.none⟩ = some (.int .u8 key.d) ∧ X.cell? ⟨bK, 5, Option.none⟩ = some (.int .u8 key.e) ∧ X.cell? ⟨bK, 6, Option.none⟩ = some (.int .u8 key.f)))) (by kernel_rfl) ?_ (fun hHeld => ?_)
            · (try dsimp only); (first | exact HH.out _ kk | exact HH.out _ kk.drew | exact HH.out _ kk.drew.drew)
            refine wpAnyH_take (i := 0) (v := ?_) rfl (by kernel_rfl) (by kernel_rfl) (by kernel_rfl) (fun _ _ _ h => h) (Or.inl ⟨by rfl, ?_⟩) (by assumption) ?_
            rotate_left
            · (intro W hSw; (try dsimp only at hSw); go_simp <;> with_reducible rfl)
            try simp only [Act.put, List.setIfInBounds_toArray, List.set_cons_zero, List.set_cons_succ, List.getElem_toArray, List.getElem_cons_zero, List.getElem_cons_succ]
            refine wpAnyH_ready (rs := [1]) (by kernel_rfl) (by simp) ?_
            refine AllReadyH.cons rfl (fun K hK => ?_) AllReadyH.nil
            try simp only [Act.put, List.setIfInBounds_toArray, List.set_cons_zero, List.set_cons_succ, List.getElem_toArray, List.getElem_cons_zero, List.getElem_cons_succ]
            go_simp
            (go_at_call 37; refine (C37 _ (by first | exact kk | exact kk.drew | exact kk.drew.drew)).mono ?_; rintro ee wz ⟨rfl, kz⟩; have kk : Keeps Nil wS wz := by first | exact kk.trans kz | exact kk.drew.trans kz | exact kk.drew.drew.trans kz)
            (try go_wp2_with fail)
            refine hK.out _ _ ?_ (fun hHeld => ?_)
            · (try dsimp only); (first | exact HH.out _ kk | exact HH.out _ kk.drew | exact HH.out _ kk.drew.drew)
            clear hK K
            try simp only [Act.put, List.setIfInBounds_toArray, List.set_cons_zero, List.set_cons_succ, List.getElem_toArray, List.getElem_cons_zero, List.getElem_cons_succ]
            refine wpAnyH_take (i := 2) (v := ?_) rfl (by kernel_rfl) (by kernel_rfl) (by kernel_rfl) (fun _ _ _ h => h) (Or.inl ⟨by rfl, ?_⟩) (by assumption) ?_
            rotate_left
            · (intro W hSw; (try dsimp only at hSw); go_simp <;> with_reducible rfl)
            try simp only [Act.put, List.setIfInBounds_toArray, List.set_cons_zero, List.set_cons_succ, List.getElem_toArray, List.getElem_cons_zero, List.getElem_cons_succ]
            refine wpAnyH_take (i := 3) (v := undef) rfl (by kernel_rfl) (by kernel_rfl) (by kernel_rfl) (fun _ _ _ h => h) (Or.inr ⟨by rfl, rfl⟩) (by assumption) ?_
            try simp only [Act.put, List.setIfInBounds_toArray, List.set_cons_zero, List.set_cons_succ, List.getElem_toArray, List.getElem_cons_zero, List.getElem_cons_succ]
            refine wpAnyH_take (i := 4) (v := undef) rfl (by kernel_rfl) (by kernel_rfl) (by kernel_rfl) (fun _ _ _ h => h) (Or.inr ⟨by rfl, rfl⟩) (by assumption) ?_
            try simp only [Act.put, List.setIfInBounds_toArray, List.set_cons_zero, List.set_cons_succ, List.getElem_toArray, List.getElem_cons_zero, List.getElem_cons_succ]
            refine wpAnyH_take (i := 5) (v := undef) rfl (by kernel_rfl) (by kernel_rfl) (by kernel_rfl) (fun _ _ _ h => h) (Or.inr ⟨by rfl, rfl⟩) (by assumption) ?_
            try simp only [Act.put, List.setIfInBounds_toArray, List.set_cons_zero, List.set_cons_succ, List.getElem_toArray, List.getElem_cons_zero, List.getElem_cons_succ]
            refine wpAnyH_take (i := 6) (v := undef) rfl (by kernel_rfl) (by kernel_rfl) (by kernel_rfl) (fun _ _ _ h => h) (Or.inr ⟨by rfl, rfl⟩) (by assumption) ?_
            try simp only [Act.put, List.setIfInBounds_toArray, List.set_cons_zero, List.set_cons_succ, List.getElem_toArray, List.getElem_cons_zero, List.getElem_cons_succ]
            refine wpAnyH_take (i := 7) (v := undef) rfl (by kernel_rfl) (by kernel_rfl) (by kernel_rfl) (fun _ _ _ h => h) (Or.inr ⟨by rfl, rfl⟩) (by assumption) ?_
            try simp only [Act.put, List.setIfInBounds_toArray, List.set_cons_zero, List.set_cons_succ, List.getElem_toArray, List.getElem_cons_zero, List.getElem_cons_succ]
            refine wpAnyH_take (i := 8) (v := undef) rfl (by kernel_rfl) (by kernel_rfl) (by kernel_rfl) (fun _ _ _ h => h) (Or.inr ⟨by rfl, rfl⟩) (by assumption) ?_
            try simp only [Act.put, List.setIfInBounds_toArray, List.set_cons_zero, List.set_cons_succ, List.getElem_toArray, List.getElem_cons_zero, List.getElem_cons_succ]
            refine wpAnyH_take (i := 9) (v := ?_) rfl (by kernel_rfl) (by kernel_rfl) (by kernel_rfl) (fun _ _ _ h => h) (Or.inl ⟨by rfl, ?_⟩) (by assumption) ?_
            rotate_left
            · (intro W hSw; (try dsimp only at hSw); go_simp <;> with_reducible rfl)
            try simp only [Act.put, List.setIfInBounds_toArray, List.set_cons_zero, List.set_cons_succ, List.getElem_toArray, List.getElem_cons_zero, List.getElem_cons_succ]
            refine wpAnyH_take (i := 10) (v := ?_) rfl (by kernel_rfl) (by kernel_rfl) (by kernel_rfl) (fun _ _ _ h => h) (Or.inl ⟨by rfl, ?_⟩) (by assumption) ?_
            rotate_left
            · (intro W hSw; (try dsimp only at hSw); go_simp <;> with_reducible rfl)
            try simp only [Act.put, List.setIfInBounds_toArray, List.set_cons_zero, List.set_cons_succ, List.getElem_toArray, List.getElem_cons_zero, List.getElem_cons_succ]
            refine wpAnyH_done (by kernel_rfl) ?_ _
            have KK := hid kk
            go_wp2_with fail
            go_roundw
            case rel => exact ⟨i, by omega, by rw [HT2.out (by have := D01.out; omega)], by rw [HF2.out (by have := D01.out; omega)], by go_num, hid ⟨by rw [HLP.out, LPS.out]; rw [if_neg D01.out, if_neg (fun h => by rw [HF.out] at h; exact absurd h.2.2 (by simp)), if_neg (fun h => by rw [HMB.out] at h; exact absurd h.1 (by simp))], KS.out.trans KK.out⟩⟩
            case measure => simp only [intOf]; omega
        · have hE : ∀ W, (binOp .eql 57 (.agg #[.int .u16 x.q.v, .int .u8 x.q.a, .int .u8 x.q.b, .int .u8 x.q.c, .int .u8 x.q.d, .int .u8 x.q.e, .int .u8 x.q.f]) (.agg #[.int .u16 key.v, .int .u8 key.a, .int .u8 key.b, .int .u8 key.c, .int .u8 key.d, .int .u8 key.e, .int .u8 key.f])).run Try.prog W = .ok (.bool false) W := fun W => (eql57 x.q key HXO.out.2.1 HKO.out false (decide_eq_false hq) W).1
          have hE2 : ∀ W, (Op.equalIn 10000 57 (.agg #[.int .u16 x.q.v, .int .u8 x.q.a, .int .u8 x.q.b, .int .u8 x.q.c, .int .u8 x.q.d, .int .u8 x.q.e, .int .u8 x.q.f]) (.agg #[.int .u16 key.v, .int .u8 key.a, .int .u8 key.b, .int .u8 key.c, .int .u8 key.d, .int .u8 key.e, .int .u8 key.f])).run Try.prog W = .ok false W := fun W => (eql57 x.q key HXO.out.2.1 HKO.out false (decide_eq_false hq) W).2
          have HQ := hid hq
          clear hq
          go_wp2_with fail
          refine wp_region_held_drew (S := (fun X : World => (X.cell? ⟨bA, 0, Option.none⟩ = some (.int .u8 x.d) ∧ X.cell? ⟨bA, 1, Option.none⟩ = some (.int .u16 x.q.v) ∧ X.cell? ⟨bA, 2, Option.none⟩ = some (.int .u8 x.q.a) ∧ X.cell? ⟨bA, 3, Option.none⟩ = some (.int .u8 x.q.b) ∧ X.cell? ⟨bA, 4, Option.none⟩ = some (.int .u8 x.q.c) ∧ X.cell? ⟨bA, 5, Option.none⟩ = some (.int .u8 x.q.d) ∧ X.cell? ⟨bA, 6, Option.none⟩ = some (.int .u8 x.q.e) ∧ X.cell? ⟨bA, 7, Option.none⟩ = some (.int .u8 x.q.f) ∧ X.cell? ⟨bA, 8, Option.none⟩ = some (.int .u8 x.port) ∧ X.cell? ⟨bA, 9, Option.none⟩ = some (.int .u8 x.ports)) ∧ (X.cell? ⟨bX, 0, Option.none⟩ = some (.int .u16 x.q.v) ∧ X.cell? ⟨bX, 1, Option.none⟩ = some (.int .u8 x.q.a) ∧ X.cell? ⟨bX, 2, Option.none⟩ = some (.int .u8 x.q.b) ∧ X.cell? ⟨bX, 3, Option.none⟩ = some (.int .u8 x.q.c) ∧ X.cell? ⟨bX, 4, Option.none⟩ = some (.int .u8 x.q.d) ∧ X.cell? ⟨bX, 5, Option.none⟩ = some (.int .u8 x.q.e) ∧ X.cell? ⟨bX, 6, Option.none⟩ = some (.int .u8 x.q.f)) ∧ (X.cell? ⟨bK, 0, Option.none⟩ = some (.int .u16 key.v) ∧ X.cell? ⟨bK, 1, Option.none⟩ = some (.int .u8 key.a) ∧ X.cell? ⟨bK, 2, Option.none⟩ = some (.int .u8 key.b) ∧ X.cell? ⟨bK, 3, Option.none⟩ = some (.int .u8 key.c) ∧ X.cell? ⟨bK, 4, Option.none⟩ = some (.int .u8 key.d) ∧ X.cell? ⟨bK, 5, Option.none⟩ = some (.int .u8 key.e) ∧ X.cell? ⟨bK, 6, Option.none⟩ = some (.int .u8 key.f)))) (by kernel_rfl) ?_ (fun hHeld => ?_)
          · (try dsimp only); (first | exact HH.out _ kk | exact HH.out _ kk.drew | exact HH.out _ kk.drew.drew)
          refine wpAnyH_take (i := 0) (v := ?_) rfl (by kernel_rfl) (by kernel_rfl) (by kernel_rfl) (fun _ _ _ h => h) (Or.inl ⟨by rfl, ?_⟩) (by assumption) ?_
          rotate_left
          · (intro W hSw; (try dsimp only at hSw); go_simp <;> with_reducible rfl)
          try simp only [Act.put, List.setIfInBounds_toArray, List.set_cons_zero, List.set_cons_succ, List.getElem_toArray, List.getElem_cons_zero, List.getElem_cons_succ]
          refine wpAnyH_take (i := 1) (v := ?_) rfl (by kernel_rfl) (by kernel_rfl) (by kernel_rfl) (fun _ _ _ h => h) (Or.inl ⟨by rfl, ?_⟩) (by assumption) ?_
          rotate_left
          · (intro W hSw; (try dsimp only at hSw); go_simp <;> with_reducible rfl)
          try simp only [Act.put, List.setIfInBounds_toArray, List.set_cons_zero, List.set_cons_succ, List.getElem_toArray, List.getElem_cons_zero, List.getElem_cons_succ]
          refine wpAnyH_take (i := 2) (v := ?_) rfl (by kernel_rfl) (by kernel_rfl) (by kernel_rfl) (fun _ _ _ h => h) (Or.inl ⟨by rfl, ?_⟩) (by assumption) ?_
          rotate_left
          · (intro W hSw; (try dsimp only at hSw); go_simp <;> with_reducible rfl)
          try simp only [Act.put, List.setIfInBounds_toArray, List.set_cons_zero, List.set_cons_succ, List.getElem_toArray, List.getElem_cons_zero, List.getElem_cons_succ]
          refine wpAnyH_take (i := 3) (v := ?_) rfl (by kernel_rfl) (by kernel_rfl) (by kernel_rfl) (fun _ _ _ h => h) (Or.inl ⟨by rfl, ?_⟩) (by assumption) ?_
          rotate_left
          · (intro W hSw; (try dsimp only at hSw); go_simp <;> with_reducible rfl)
          try simp only [Act.put, List.setIfInBounds_toArray, List.set_cons_zero, List.set_cons_succ, List.getElem_toArray, List.getElem_cons_zero, List.getElem_cons_succ]
          refine wpAnyH_take (i := 4) (v := ?_) rfl (by kernel_rfl) (by kernel_rfl) (by kernel_rfl) (fun _ _ _ h => h) (Or.inl ⟨by rfl, ?_⟩) (by assumption) ?_
          rotate_left
          · (intro W hSw; (try dsimp only at hSw); go_simp <;> with_reducible rfl)
          try simp only [Act.put, List.setIfInBounds_toArray, List.set_cons_zero, List.set_cons_succ, List.getElem_toArray, List.getElem_cons_zero, List.getElem_cons_succ]
          refine wpAnyH_take (i := 5) (v := ?_) rfl (by kernel_rfl) (by kernel_rfl) (by kernel_rfl) (fun _ _ _ h => h) (Or.inl ⟨by rfl, ?_⟩) (by assumption) ?_
          rotate_left
          · (intro W hSw; (try dsimp only at hSw); go_simp <;> with_reducible rfl)
          try simp only [Act.put, List.setIfInBounds_toArray, List.set_cons_zero, List.set_cons_succ, List.getElem_toArray, List.getElem_cons_zero, List.getElem_cons_succ]
          refine wpAnyH_take (i := 6) (v := ?_) rfl (by kernel_rfl) (by kernel_rfl) (by kernel_rfl) (fun _ _ _ h => h) (Or.inl ⟨by rfl, ?_⟩) (by assumption) ?_
          rotate_left
          · (intro W hSw; (try dsimp only at hSw); go_simp <;> with_reducible rfl)
          try simp only [Act.put, List.setIfInBounds_toArray, List.set_cons_zero, List.set_cons_succ, List.getElem_toArray, List.getElem_cons_zero, List.getElem_cons_succ]
          refine wpAnyH_take (i := 7) (v := ?_) rfl (by kernel_rfl) (by kernel_rfl) (by kernel_rfl) (fun _ _ _ h => h) (Or.inl ⟨by rfl, ?_⟩) (by assumption) ?_
          rotate_left
          · (intro W hSw; (try dsimp only at hSw); go_simp <;> with_reducible rfl)
          try simp only [Act.put, List.setIfInBounds_toArray, List.set_cons_zero, List.set_cons_succ, List.getElem_toArray, List.getElem_cons_zero, List.getElem_cons_succ]
          refine wpAnyH_take (i := 8) (v := ?_) rfl (by kernel_rfl) (by kernel_rfl) (by kernel_rfl) (fun _ _ _ h => h) (Or.inl ⟨by rfl, ?_⟩) (by assumption) ?_
          rotate_left
          · (intro W hSw; (try dsimp only at hSw); go_simp <;> with_reducible rfl)
          try simp only [Act.put, List.setIfInBounds_toArray, List.set_cons_zero, List.set_cons_succ, List.getElem_toArray, List.getElem_cons_zero, List.getElem_cons_succ]
          refine wpAnyH_take (i := 9) (v := undef) rfl (by kernel_rfl) (by kernel_rfl) (by kernel_rfl) (fun _ _ _ h => h) (Or.inr ⟨by rfl, rfl⟩) (by assumption) ?_
          try simp only [Act.put, List.setIfInBounds_toArray, List.set_cons_zero, List.set_cons_succ, List.getElem_toArray, List.getElem_cons_zero, List.getElem_cons_succ]
          refine wpAnyH_take (i := 10) (v := undef) rfl (by kernel_rfl) (by kernel_rfl) (by kernel_rfl) (fun _ _ _ h => h) (Or.inr ⟨by rfl, rfl⟩) (by assumption) ?_
          try simp only [Act.put, List.setIfInBounds_toArray, List.set_cons_zero, List.set_cons_succ, List.getElem_toArray, List.getElem_cons_zero, List.getElem_cons_succ]
          refine wpAnyH_take (i := 11) (v := undef) rfl (by kernel_rfl) (by kernel_rfl) (by kernel_rfl) (fun _ _ _ h => h) (Or.inr ⟨by rfl, rfl⟩) (by assumption) ?_
          try simp only [Act.put, List.setIfInBounds_toArray, List.set_cons_zero, List.set_cons_succ, List.getElem_toArray, List.getElem_cons_zero, List.getElem_cons_succ]
          refine wpAnyH_take (i := 12) (v := undef) rfl (by kernel_rfl) (by kernel_rfl) (by kernel_rfl) (fun _ _ _ h => h) (Or.inr ⟨by rfl, rfl⟩) (by assumption) ?_
          try simp only [Act.put, List.setIfInBounds_toArray, List.set_cons_zero, List.set_cons_succ, List.getElem_toArray, List.getElem_cons_zero, List.getElem_cons_succ]
          refine wpAnyH_take (i := 13) (v := undef) rfl (by kernel_rfl) (by kernel_rfl) (by kernel_rfl) (fun _ _ _ h => h) (Or.inr ⟨by rfl, rfl⟩) (by assumption) ?_
          try simp only [Act.put, List.setIfInBounds_toArray, List.set_cons_zero, List.set_cons_succ, List.getElem_toArray, List.getElem_cons_zero, List.getElem_cons_succ]
          refine wpAnyH_take (i := 14) (v := undef) rfl (by kernel_rfl) (by kernel_rfl) (by kernel_rfl) (fun _ _ _ h => h) (Or.inr ⟨by rfl, rfl⟩) (by assumption) ?_
          try simp only [Act.put, List.setIfInBounds_toArray, List.set_cons_zero, List.set_cons_succ, List.getElem_toArray, List.getElem_cons_zero, List.getElem_cons_succ]
          refine wpAnyH_take (i := 15) (v := ?_) rfl (by kernel_rfl) (by kernel_rfl) (by kernel_rfl) (fun _ _ _ h => h) (Or.inl ⟨by rfl, ?_⟩) (by assumption) ?_
          rotate_left
          · (intro W hSw; (try dsimp only at hSw); go_simp <;> with_reducible rfl)
          try simp only [Act.put, List.setIfInBounds_toArray, List.set_cons_zero, List.set_cons_succ, List.getElem_toArray, List.getElem_cons_zero, List.getElem_cons_succ]
          refine wpAnyH_take (i := 16) (v := ?_) rfl (by kernel_rfl) (by kernel_rfl) (by kernel_rfl) (fun _ _ _ h => h) (Or.inl ⟨by rfl, ?_⟩) (by assumption) ?_
          rotate_left
          · (intro W hSw; (try dsimp only at hSw); go_simp <;> with_reducible rfl)
          try simp only [Act.put, List.setIfInBounds_toArray, List.set_cons_zero, List.set_cons_succ, List.getElem_toArray, List.getElem_cons_zero, List.getElem_cons_succ]
          refine wpAnyH_done (by kernel_rfl) ?_ _
          go_wp2_with fail
          refine wp_region_held_drew (S := (fun X : World => (X.cell? ⟨bA, 0, Option.none⟩ = some (.int .u8 x.d) ∧ X.cell? ⟨bA, 1, Option.none⟩ = some (.int .u16 x.q.v) ∧ X.cell? ⟨bA, 2, Option.none⟩ = some (.int .u8 x.q.a) ∧ X.cell? ⟨bA, 3, Option.none⟩ = some (.int .u8 x.q.b) ∧ X.cell? ⟨bA, 4, Option.none⟩ = some (.int .u8 x.q.c) ∧ X.cell? ⟨bA, 5, Option.none⟩ = some (.int .u8 x.q.d) ∧ X.cell? ⟨bA, 6, Option.none⟩ = some (.int .u8 x.q.e) ∧ X.cell? ⟨bA, 7, Option.none⟩ = some (.int .u8 x.q.f) ∧ X.cell? ⟨bA, 8, Option.none⟩ = some (.int .u8 x.port) ∧ X.cell? ⟨bA, 9, Option.none⟩ = some (.int .u8 x.ports)) ∧ (X.cell? ⟨bX, 0, Option.none⟩ = some (.int .u16 x.q.v) ∧ X.cell? ⟨bX, 1, Option.none⟩ = some (.int .u8 x.q.a) ∧ X.cell? ⟨bX, 2, Option.none⟩ = some (.int .u8 x.q.b) ∧ X.cell? ⟨bX, 3, Option.none⟩ = some (.int .u8 x.q.c) ∧ X.cell? ⟨bX, 4, Option.none⟩ = some (.int .u8 x.q.d) ∧ X.cell? ⟨bX, 5, Option.none⟩ = some (.int .u8 x.q.e) ∧ X.cell? ⟨bX, 6, Option.none⟩ = some (.int .u8 x.q.f)) ∧ (X.cell? ⟨bK, 0, Option.none⟩ = some (.int .u16 key.v) ∧ X.cell? ⟨bK, 1, Option.none⟩ = some (.int .u8 key.a) ∧ X.cell? ⟨bK, 2, Option.none⟩ = some (.int .u8 key.b) ∧ X.cell? ⟨bK, 3, Option.none⟩ = some (.int .u8 key.c) ∧ X.cell? ⟨bK, 4, Option.none⟩ = some (.int .u8 key.d) ∧ X.cell? ⟨bK, 5, Option.none⟩ = some (.int .u8 key.e) ∧ X.cell? ⟨bK, 6, Option.none⟩ = some (.int .u8 key.f)))) (by kernel_rfl) ?_ (fun hHeld => ?_)
          · (try dsimp only); (first | exact HH.out _ kk | exact HH.out _ kk.drew | exact HH.out _ kk.drew.drew)
          refine wpAnyH_take (i := 0) (v := ?_) rfl (by kernel_rfl) (by kernel_rfl) (by kernel_rfl) (fun _ _ _ h => h) (Or.inl ⟨by rfl, ?_⟩) (by assumption) ?_
          rotate_left
          · (intro W hSw; (try dsimp only at hSw); go_simp <;> with_reducible rfl)
          try simp only [Act.put, List.setIfInBounds_toArray, List.set_cons_zero, List.set_cons_succ, List.getElem_toArray, List.getElem_cons_zero, List.getElem_cons_succ]
          refine wpAnyH_ready (rs := [1]) (by kernel_rfl) (by simp) ?_
          refine AllReadyH.cons rfl (fun K hK => ?_) AllReadyH.nil
          try simp only [Act.put, List.setIfInBounds_toArray, List.set_cons_zero, List.set_cons_succ, List.getElem_toArray, List.getElem_cons_zero, List.getElem_cons_succ]
          go_simp
          (go_at_call 37; refine (C37 _ (by first | exact kk | exact kk.drew | exact kk.drew.drew)).mono ?_; rintro ee wz ⟨rfl, kz⟩; have kk : Keeps Nil wS wz := by first | exact kk.trans kz | exact kk.drew.trans kz | exact kk.drew.drew.trans kz)
          (try go_wp2_with fail)
          refine hK.out _ _ ?_ (fun hHeld => ?_)
          · (try dsimp only); (first | exact HH.out _ kk | exact HH.out _ kk.drew | exact HH.out _ kk.drew.drew)
          clear hK K
          try simp only [Act.put, List.setIfInBounds_toArray, List.set_cons_zero, List.set_cons_succ, List.getElem_toArray, List.getElem_cons_zero, List.getElem_cons_succ]
          refine wpAnyH_take (i := 2) (v := ?_) rfl (by kernel_rfl) (by kernel_rfl) (by kernel_rfl) (fun _ _ _ h => h) (Or.inl ⟨by rfl, ?_⟩) (by assumption) ?_
          rotate_left
          · (intro W hSw; (try dsimp only at hSw); go_simp <;> with_reducible rfl)
          try simp only [Act.put, List.setIfInBounds_toArray, List.set_cons_zero, List.set_cons_succ, List.getElem_toArray, List.getElem_cons_zero, List.getElem_cons_succ]
          refine wpAnyH_take (i := 3) (v := undef) rfl (by kernel_rfl) (by kernel_rfl) (by kernel_rfl) (fun _ _ _ h => h) (Or.inr ⟨by rfl, rfl⟩) (by assumption) ?_
          try simp only [Act.put, List.setIfInBounds_toArray, List.set_cons_zero, List.set_cons_succ, List.getElem_toArray, List.getElem_cons_zero, List.getElem_cons_succ]
          refine wpAnyH_take (i := 4) (v := undef) rfl (by kernel_rfl) (by kernel_rfl) (by kernel_rfl) (fun _ _ _ h => h) (Or.inr ⟨by rfl, rfl⟩) (by assumption) ?_
          try simp only [Act.put, List.setIfInBounds_toArray, List.set_cons_zero, List.set_cons_succ, List.getElem_toArray, List.getElem_cons_zero, List.getElem_cons_succ]
          refine wpAnyH_take (i := 5) (v := undef) rfl (by kernel_rfl) (by kernel_rfl) (by kernel_rfl) (fun _ _ _ h => h) (Or.inr ⟨by rfl, rfl⟩) (by assumption) ?_
          try simp only [Act.put, List.setIfInBounds_toArray, List.set_cons_zero, List.set_cons_succ, List.getElem_toArray, List.getElem_cons_zero, List.getElem_cons_succ]
          refine wpAnyH_take (i := 6) (v := undef) rfl (by kernel_rfl) (by kernel_rfl) (by kernel_rfl) (fun _ _ _ h => h) (Or.inr ⟨by rfl, rfl⟩) (by assumption) ?_
          try simp only [Act.put, List.setIfInBounds_toArray, List.set_cons_zero, List.set_cons_succ, List.getElem_toArray, List.getElem_cons_zero, List.getElem_cons_succ]
          refine wpAnyH_take (i := 7) (v := undef) rfl (by kernel_rfl) (by kernel_rfl) (by kernel_rfl) (fun _ _ _ h => h) (Or.inr ⟨by rfl, rfl⟩) (by assumption) ?_
          try simp only [Act.put, List.setIfInBounds_toArray, List.set_cons_zero, List.set_cons_succ, List.getElem_toArray, List.getElem_cons_zero, List.getElem_cons_succ]
          refine wpAnyH_take (i := 8) (v := undef) rfl (by kernel_rfl) (by kernel_rfl) (by kernel_rfl) (fun _ _ _ h => h) (Or.inr ⟨by rfl, rfl⟩) (by assumption) ?_
          try simp only [Act.put, List.setIfInBounds_toArray, List.set_cons_zero, List.set_cons_succ, List.getElem_toArray, List.getElem_cons_zero, List.getElem_cons_succ]
          refine wpAnyH_take (i := 9) (v := ?_) rfl (by kernel_rfl) (by kernel_rfl) (by kernel_rfl) (fun _ _ _ h => h) (Or.inl ⟨by rfl, ?_⟩) (by assumption) ?_
          rotate_left
          · (intro W hSw; (try dsimp only at hSw); go_simp <;> with_reducible rfl)
          try simp only [Act.put, List.setIfInBounds_toArray, List.set_cons_zero, List.set_cons_succ, List.getElem_toArray, List.getElem_cons_zero, List.getElem_cons_succ]
          refine wpAnyH_take (i := 10) (v := ?_) rfl (by kernel_rfl) (by kernel_rfl) (by kernel_rfl) (fun _ _ _ h => h) (Or.inl ⟨by rfl, ?_⟩) (by assumption) ?_
          rotate_left
          · (intro W hSw; (try dsimp only at hSw); go_simp <;> with_reducible rfl)
          try simp only [Act.put, List.setIfInBounds_toArray, List.set_cons_zero, List.set_cons_succ, List.getElem_toArray, List.getElem_cons_zero, List.getElem_cons_succ]
          refine wpAnyH_done (by kernel_rfl) ?_ _
          have KK := hid kk
          go_wp2_with fail
          go_roundw
          case rel => exact ⟨i, by omega, by rw [HT2.out (by have := D01.out; omega)], by rw [HF2.out (by have := D01.out; omega)], by go_num, hid ⟨by rw [HLP.out, LPS.out]; rw [if_neg D01.out, if_neg (fun h => HQ.out h.2.1), if_neg (fun h => by rw [HMB.out] at h; exact absurd h.1 (by simp))], KS.out.trans KK.out⟩⟩
          case measure => simp only [intOf]; omega
      · have hd2 : (x.d == 2) = false := by simpa using d2
        have D2 := hid d2
        clear d2
        cases hm : x.mayB with
        | false =>
          have HMB := hid hm
          have C37 : ∀ W, Keeps Nil wS W → Calls Try.prog 37 #[x.val] W fun e w' => e = .returned (.bool false) ∧ Keeps Nil W w' := fun W kW => by
            have := fmay_any x HXO.out W
            rw [HMB.out] at this
            exact this
          clear hm
          go_wp2_with fail
          refine wp_region_held_drew (S := (fun X : World => (X.cell? ⟨bA, 0, Option.none⟩ = some (.int .u8 x.d) ∧ X.cell? ⟨bA, 1, Option.none⟩ = some (.int .u16 x.q.v) ∧ X.cell? ⟨bA, 2, Option.none⟩ = some (.int .u8 x.q.a) ∧ X.cell? ⟨bA, 3, Option.none⟩ = some (.int .u8 x.q.b) ∧ X.cell? ⟨bA, 4, Option.none⟩ = some (.int .u8 x.q.c) ∧ X.cell? ⟨bA, 5, Option.none⟩ = some (.int .u8 x.q.d) ∧ X.cell? ⟨bA, 6, Option.none⟩ = some (.int .u8 x.q.e) ∧ X.cell? ⟨bA, 7, Option.none⟩ = some (.int .u8 x.q.f) ∧ X.cell? ⟨bA, 8, Option.none⟩ = some (.int .u8 x.port) ∧ X.cell? ⟨bA, 9, Option.none⟩ = some (.int .u8 x.ports)) ∧ (X.cell? ⟨bX, 0, Option.none⟩ = some (.int .u16 x.q.v) ∧ X.cell? ⟨bX, 1, Option.none⟩ = some (.int .u8 x.q.a) ∧ X.cell? ⟨bX, 2, Option.none⟩ = some (.int .u8 x.q.b) ∧ X.cell? ⟨bX, 3, Option.none⟩ = some (.int .u8 x.q.c) ∧ X.cell? ⟨bX, 4, Option.none⟩ = some (.int .u8 x.q.d) ∧ X.cell? ⟨bX, 5, Option.none⟩ = some (.int .u8 x.q.e) ∧ X.cell? ⟨bX, 6, Option.none⟩ = some (.int .u8 x.q.f)) ∧ (X.cell? ⟨bK, 0, Option.none⟩ = some (.int .u16 key.v) ∧ X.cell? ⟨bK, 1, Option.none⟩ = some (.int .u8 key.a) ∧ X.cell? ⟨bK, 2, Option.none⟩ = some (.int .u8 key.b) ∧ X.cell? ⟨bK, 3, Option.none⟩ = some (.int .u8 key.c) ∧ X.cell? ⟨bK, 4, Option.none⟩ = some (.int .u8 key.d) ∧ X.cell? ⟨bK, 5, Option.none⟩ = some (.int .u8 key.e) ∧ X.cell? ⟨bK, 6, Option.none⟩ = some (.int .u8 key.f)))) (by kernel_rfl) ?_ (fun hHeld => ?_)
          · (try dsimp only); (first | exact HH.out _ kk | exact HH.out _ kk.drew | exact HH.out _ kk.drew.drew)
          refine wpAnyH_take (i := 0) (v := ?_) rfl (by kernel_rfl) (by kernel_rfl) (by kernel_rfl) (fun _ _ _ h => h) (Or.inl ⟨by rfl, ?_⟩) (by assumption) ?_
          rotate_left
          · (intro W hSw; (try dsimp only at hSw); go_simp <;> with_reducible rfl)
          try simp only [Act.put, List.setIfInBounds_toArray, List.set_cons_zero, List.set_cons_succ, List.getElem_toArray, List.getElem_cons_zero, List.getElem_cons_succ]
          refine wpAnyH_take (i := 1) (v := ?_) rfl (by kernel_rfl) (by kernel_rfl) (by kernel_rfl) (fun _ _ _ h => h) (Or.inl ⟨by rfl, ?_⟩) (by assumption) ?_
          rotate_left
          · (intro W hSw; (try dsimp only at hSw); go_simp <;> with_reducible rfl)
          try simp only [Act.put, List.setIfInBounds_toArray, List.set_cons_zero, List.set_cons_succ, List.getElem_toArray, List.getElem_cons_zero, List.getElem_cons_succ]
          refine wpAnyH_take (i := 2) (v := ?_) rfl (by kernel_rfl) (by kernel_rfl) (by kernel_rfl) (fun _ _ _ h => h) (Or.inl ⟨by rfl, ?_⟩) (by assumption) ?_
          rotate_left
          · (intro W hSw; (try dsimp only at hSw); go_simp <;> with_reducible rfl)
          try simp only [Act.put, List.setIfInBounds_toArray, List.set_cons_zero, List.set_cons_succ, List.getElem_toArray, List.getElem_cons_zero, List.getElem_cons_succ]
          refine wpAnyH_take (i := 3) (v := ?_) rfl (by kernel_rfl) (by kernel_rfl) (by kernel_rfl) (fun _ _ _ h => h) (Or.inl ⟨by rfl, ?_⟩) (by assumption) ?_
          rotate_left
          · (intro W hSw; (try dsimp only at hSw); go_simp <;> with_reducible rfl)
          try simp only [Act.put, List.setIfInBounds_toArray, List.set_cons_zero, List.set_cons_succ, List.getElem_toArray, List.getElem_cons_zero, List.getElem_cons_succ]
          refine wpAnyH_take (i := 4) (v := undef) rfl (by kernel_rfl) (by kernel_rfl) (by kernel_rfl) (fun _ _ _ h => h) (Or.inr ⟨by rfl, rfl⟩) (by assumption) ?_
          try simp only [Act.put, List.setIfInBounds_toArray, List.set_cons_zero, List.set_cons_succ, List.getElem_toArray, List.getElem_cons_zero, List.getElem_cons_succ]
          refine wpAnyH_take (i := 5) (v := undef) rfl (by kernel_rfl) (by kernel_rfl) (by kernel_rfl) (fun _ _ _ h => h) (Or.inr ⟨by rfl, rfl⟩) (by assumption) ?_
          try simp only [Act.put, List.setIfInBounds_toArray, List.set_cons_zero, List.set_cons_succ, List.getElem_toArray, List.getElem_cons_zero, List.getElem_cons_succ]
          refine wpAnyH_take (i := 6) (v := undef) rfl (by kernel_rfl) (by kernel_rfl) (by kernel_rfl) (fun _ _ _ h => h) (Or.inr ⟨by rfl, rfl⟩) (by assumption) ?_
          try simp only [Act.put, List.setIfInBounds_toArray, List.set_cons_zero, List.set_cons_succ, List.getElem_toArray, List.getElem_cons_zero, List.getElem_cons_succ]
          refine wpAnyH_take (i := 7) (v := ?_) rfl (by kernel_rfl) (by kernel_rfl) (by kernel_rfl) (fun _ _ _ h => h) (Or.inl ⟨by rfl, ?_⟩) (by assumption) ?_
          rotate_left
          · (intro W hSw; (try dsimp only at hSw); go_simp <;> with_reducible rfl)
          try simp only [Act.put, List.setIfInBounds_toArray, List.set_cons_zero, List.set_cons_succ, List.getElem_toArray, List.getElem_cons_zero, List.getElem_cons_succ]
          refine wpAnyH_take (i := 8) (v := ?_) rfl (by kernel_rfl) (by kernel_rfl) (by kernel_rfl) (fun _ _ _ h => h) (Or.inl ⟨by rfl, ?_⟩) (by assumption) ?_
          rotate_left
          · (intro W hSw; (try dsimp only at hSw); go_simp <;> with_reducible rfl)
          try simp only [Act.put, List.setIfInBounds_toArray, List.set_cons_zero, List.set_cons_succ, List.getElem_toArray, List.getElem_cons_zero, List.getElem_cons_succ]
          refine wpAnyH_take (i := 9) (v := undef) rfl (by kernel_rfl) (by kernel_rfl) (by kernel_rfl) (fun _ _ _ h => h) (Or.inr ⟨by rfl, rfl⟩) (by assumption) ?_
          try simp only [Act.put, List.setIfInBounds_toArray, List.set_cons_zero, List.set_cons_succ, List.getElem_toArray, List.getElem_cons_zero, List.getElem_cons_succ]
          refine wpAnyH_take (i := 10) (v := undef) rfl (by kernel_rfl) (by kernel_rfl) (by kernel_rfl) (fun _ _ _ h => h) (Or.inr ⟨by rfl, rfl⟩) (by assumption) ?_
          try simp only [Act.put, List.setIfInBounds_toArray, List.set_cons_zero, List.set_cons_succ, List.getElem_toArray, List.getElem_cons_zero, List.getElem_cons_succ]
          refine wpAnyH_take (i := 11) (v := undef) rfl (by kernel_rfl) (by kernel_rfl) (by kernel_rfl) (fun _ _ _ h => h) (Or.inr ⟨by rfl, rfl⟩) (by assumption) ?_
          try simp only [Act.put, List.setIfInBounds_toArray, List.set_cons_zero, List.set_cons_succ, List.getElem_toArray, List.getElem_cons_zero, List.getElem_cons_succ]
          refine wpAnyH_take (i := 12) (v := undef) rfl (by kernel_rfl) (by kernel_rfl) (by kernel_rfl) (fun _ _ _ h => h) (Or.inr ⟨by rfl, rfl⟩) (by assumption) ?_
          try simp only [Act.put, List.setIfInBounds_toArray, List.set_cons_zero, List.set_cons_succ, List.getElem_toArray, List.getElem_cons_zero, List.getElem_cons_succ]
          refine wpAnyH_take (i := 13) (v := undef) rfl (by kernel_rfl) (by kernel_rfl) (by kernel_rfl) (fun _ _ _ h => h) (Or.inr ⟨by rfl, rfl⟩) (by assumption) ?_
          try simp only [Act.put, List.setIfInBounds_toArray, List.set_cons_zero, List.set_cons_succ, List.getElem_toArray, List.getElem_cons_zero, List.getElem_cons_succ]
          refine wpAnyH_take (i := 14) (v := undef) rfl (by kernel_rfl) (by kernel_rfl) (by kernel_rfl) (fun _ _ _ h => h) (Or.inr ⟨by rfl, rfl⟩) (by assumption) ?_
          try simp only [Act.put, List.setIfInBounds_toArray, List.set_cons_zero, List.set_cons_succ, List.getElem_toArray, List.getElem_cons_zero, List.getElem_cons_succ]
          refine wpAnyH_take (i := 15) (v := ?_) rfl (by kernel_rfl) (by kernel_rfl) (by kernel_rfl) (fun _ _ _ h => h) (Or.inl ⟨by rfl, ?_⟩) (by assumption) ?_
          rotate_left
          · (intro W hSw; (try dsimp only at hSw); go_simp <;> with_reducible rfl)
          try simp only [Act.put, List.setIfInBounds_toArray, List.set_cons_zero, List.set_cons_succ, List.getElem_toArray, List.getElem_cons_zero, List.getElem_cons_succ]
          refine wpAnyH_take (i := 16) (v := ?_) rfl (by kernel_rfl) (by kernel_rfl) (by kernel_rfl) (fun _ _ _ h => h) (Or.inl ⟨by rfl, ?_⟩) (by assumption) ?_
          rotate_left
          · (intro W hSw; (try dsimp only at hSw); go_simp <;> with_reducible rfl)
          try simp only [Act.put, List.setIfInBounds_toArray, List.set_cons_zero, List.set_cons_succ, List.getElem_toArray, List.getElem_cons_zero, List.getElem_cons_succ]
          refine wpAnyH_done (by kernel_rfl) ?_ _
          go_wp2_with fail
          refine wp_region_held_drew (S := (fun X : World => (X.cell? ⟨bA, 0, Option.none⟩ = some (.int .u8 x.d) ∧ X.cell? ⟨bA, 1, Option.none⟩ = some (.int .u16 x.q.v) ∧ X.cell? ⟨bA, 2, Option.none⟩ = some (.int .u8 x.q.a) ∧ X.cell? ⟨bA, 3, Option.none⟩ = some (.int .u8 x.q.b) ∧ X.cell? ⟨bA, 4, Option.none⟩ = some (.int .u8 x.q.c) ∧ X.cell? ⟨bA, 5, Option.none⟩ = some (.int .u8 x.q.d) ∧ X.cell? ⟨bA, 6, Option.none⟩ = some (.int .u8 x.q.e) ∧ X.cell? ⟨bA, 7, Option.none⟩ = some (.int .u8 x.q.f) ∧ X.cell? ⟨bA, 8, Option.none⟩ = some (.int .u8 x.port) ∧ X.cell? ⟨bA, 9, Option.none⟩ = some (.int .u8 x.ports)) ∧ (X.cell? ⟨bX, 0, Option.none⟩ = some (.int .u16 x.q.v) ∧ X.cell? ⟨bX, 1, Option.none⟩ = some (.int .u8 x.q.a) ∧ X.cell? ⟨bX, 2, Option.none⟩ = some (.int .u8 x.q.b) ∧ X.cell? ⟨bX, 3, Option.none⟩ = some (.int .u8 x.q.c) ∧ X.cell? ⟨bX, 4, Option.none⟩ = some (.int .u8 x.q.d) ∧ X.cell? ⟨bX, 5, Option.none⟩ = some (.int .u8 x.q.e) ∧ X.cell? ⟨bX, 6, Option.none⟩ = some (.int .u8 x.q.f)) ∧ (X.cell? ⟨bK, 0, Option.none⟩ = some (.int .u16 key.v) ∧ X.cell? ⟨bK, 1, Option.none⟩ = some (.int .u8 key.a) ∧ X.cell? ⟨bK, 2, Option.none⟩ = some (.int .u8 key.b) ∧ X.cell? ⟨bK, 3, Option.none⟩ = some (.int .u8 key.c) ∧ X.cell? ⟨bK, 4, Option.none⟩ = some (.int .u8 key.d) ∧ X.cell? ⟨bK, 5, Option.none⟩ = some (.int .u8 key.e) ∧ X.cell? ⟨bK, 6, Option.none⟩ = some (.int .u8 key.f)))) (by kernel_rfl) ?_ (fun hHeld => ?_)
          · (try dsimp only); (first | exact HH.out _ kk | exact HH.out _ kk.drew | exact HH.out _ kk.drew.drew)
          refine wpAnyH_take (i := 0) (v := ?_) rfl (by kernel_rfl) (by kernel_rfl) (by kernel_rfl) (fun _ _ _ h => h) (Or.inl ⟨by rfl, ?_⟩) (by assumption) ?_
          rotate_left
          · (intro W hSw; (try dsimp only at hSw); go_simp <;> with_reducible rfl)
          try simp only [Act.put, List.setIfInBounds_toArray, List.set_cons_zero, List.set_cons_succ, List.getElem_toArray, List.getElem_cons_zero, List.getElem_cons_succ]
          refine wpAnyH_ready (rs := [1]) (by kernel_rfl) (by simp) ?_
          refine AllReadyH.cons rfl (fun K hK => ?_) AllReadyH.nil
          try simp only [Act.put, List.setIfInBounds_toArray, List.set_cons_zero, List.set_cons_succ, List.getElem_toArray, List.getElem_cons_zero, List.getElem_cons_succ]
          go_simp
          (go_at_call 37; refine (C37 _ (by first | exact kk | exact kk.drew | exact kk.drew.drew)).mono ?_; rintro ee wz ⟨rfl, kz⟩; have kk : Keeps Nil wS wz := by first | exact kk.trans kz | exact kk.drew.trans kz | exact kk.drew.drew.trans kz)
          (try go_wp2_with fail)
          refine hK.out _ _ ?_ (fun hHeld => ?_)
          · (try dsimp only); (first | exact HH.out _ kk | exact HH.out _ kk.drew | exact HH.out _ kk.drew.drew)
          clear hK K
          try simp only [Act.put, List.setIfInBounds_toArray, List.set_cons_zero, List.set_cons_succ, List.getElem_toArray, List.getElem_cons_zero, List.getElem_cons_succ]
          refine wpAnyH_take (i := 2) (v := ?_) rfl (by kernel_rfl) (by kernel_rfl) (by kernel_rfl) (fun _ _ _ h => h) (Or.inl ⟨by rfl, ?_⟩) (by assumption) ?_
          rotate_left
          · (intro W hSw; (try dsimp only at hSw); go_simp <;> with_reducible rfl)
          try simp only [Act.put, List.setIfInBounds_toArray, List.set_cons_zero, List.set_cons_succ, List.getElem_toArray, List.getElem_cons_zero, List.getElem_cons_succ]
          refine wpAnyH_take (i := 3) (v := undef) rfl (by kernel_rfl) (by kernel_rfl) (by kernel_rfl) (fun _ _ _ h => h) (Or.inr ⟨by rfl, rfl⟩) (by assumption) ?_
          try simp only [Act.put, List.setIfInBounds_toArray, List.set_cons_zero, List.set_cons_succ, List.getElem_toArray, List.getElem_cons_zero, List.getElem_cons_succ]
          refine wpAnyH_take (i := 4) (v := undef) rfl (by kernel_rfl) (by kernel_rfl) (by kernel_rfl) (fun _ _ _ h => h) (Or.inr ⟨by rfl, rfl⟩) (by assumption) ?_
          try simp only [Act.put, List.setIfInBounds_toArray, List.set_cons_zero, List.set_cons_succ, List.getElem_toArray, List.getElem_cons_zero, List.getElem_cons_succ]
          refine wpAnyH_take (i := 5) (v := undef) rfl (by kernel_rfl) (by kernel_rfl) (by kernel_rfl) (fun _ _ _ h => h) (Or.inr ⟨by rfl, rfl⟩) (by assumption) ?_
          try simp only [Act.put, List.setIfInBounds_toArray, List.set_cons_zero, List.set_cons_succ, List.getElem_toArray, List.getElem_cons_zero, List.getElem_cons_succ]
          refine wpAnyH_take (i := 6) (v := undef) rfl (by kernel_rfl) (by kernel_rfl) (by kernel_rfl) (fun _ _ _ h => h) (Or.inr ⟨by rfl, rfl⟩) (by assumption) ?_
          try simp only [Act.put, List.setIfInBounds_toArray, List.set_cons_zero, List.set_cons_succ, List.getElem_toArray, List.getElem_cons_zero, List.getElem_cons_succ]
          refine wpAnyH_take (i := 7) (v := undef) rfl (by kernel_rfl) (by kernel_rfl) (by kernel_rfl) (fun _ _ _ h => h) (Or.inr ⟨by rfl, rfl⟩) (by assumption) ?_
          try simp only [Act.put, List.setIfInBounds_toArray, List.set_cons_zero, List.set_cons_succ, List.getElem_toArray, List.getElem_cons_zero, List.getElem_cons_succ]
          refine wpAnyH_take (i := 8) (v := undef) rfl (by kernel_rfl) (by kernel_rfl) (by kernel_rfl) (fun _ _ _ h => h) (Or.inr ⟨by rfl, rfl⟩) (by assumption) ?_
          try simp only [Act.put, List.setIfInBounds_toArray, List.set_cons_zero, List.set_cons_succ, List.getElem_toArray, List.getElem_cons_zero, List.getElem_cons_succ]
          refine wpAnyH_take (i := 9) (v := ?_) rfl (by kernel_rfl) (by kernel_rfl) (by kernel_rfl) (fun _ _ _ h => h) (Or.inl ⟨by rfl, ?_⟩) (by assumption) ?_
          rotate_left
          · (intro W hSw; (try dsimp only at hSw); go_simp <;> with_reducible rfl)
          try simp only [Act.put, List.setIfInBounds_toArray, List.set_cons_zero, List.set_cons_succ, List.getElem_toArray, List.getElem_cons_zero, List.getElem_cons_succ]
          refine wpAnyH_take (i := 10) (v := ?_) rfl (by kernel_rfl) (by kernel_rfl) (by kernel_rfl) (fun _ _ _ h => h) (Or.inl ⟨by rfl, ?_⟩) (by assumption) ?_
          rotate_left
          · (intro W hSw; (try dsimp only at hSw); go_simp <;> with_reducible rfl)
          try simp only [Act.put, List.setIfInBounds_toArray, List.set_cons_zero, List.set_cons_succ, List.getElem_toArray, List.getElem_cons_zero, List.getElem_cons_succ]
          refine wpAnyH_done (by kernel_rfl) ?_ _
          have KK := hid kk
          go_wp2_with fail
          go_roundw
          case rel => exact ⟨i, by omega, by rw [HT2.out (by have := D01.out; omega)], by rw [HF2.out (by have := D01.out; omega)], by go_num, hid ⟨by rw [HLP.out, LPS.out]; rw [if_neg D01.out, if_neg (fun h => D2.out h.1), if_neg (fun h => by rw [HMB.out] at h; exact absurd h.1 (by simp))], KS.out.trans KK.out⟩⟩
          case measure => simp only [intOf]; omega
        | true =>
          have HMB := hid hm
          have C37 : ∀ W, Keeps Nil wS W → Calls Try.prog 37 #[x.val] W fun e w' => e = .returned (.bool true) ∧ Keeps Nil W w' := fun W kW => by
            have := fmay_any x HXO.out W
            rw [HMB.out] at this
            exact this
          have HP8 : Hid (0 ≤ x.port ∧ x.port < 8) := hid ⟨HXO.out.2.2.1.1, ((FAct.mayB_iff x).1 hm).2.2.1⟩
          clear hm
          cases hf : fixedP (l.take i) x.q with
          | true =>
            have HF := hid hf
            have C36b : ∀ W, Keeps Nil wS W → Calls Try.prog 36 #[.slice (some ⟨b, o, Option.none⟩) i cap, x.q.val] W fun e w' => e = .returned (.bool true) ∧ Keeps Nil W w' := fun W kW => by
              have := fixed_any (some ⟨b, o, Option.none⟩) i cap (l.take i) x.q HXO.out.2.1 W (by omega) (by have := HN.out; simp only [List.length_take]; omega) (fun _ => ⟨b, o, rfl, Nat.lt_of_lt_of_le HBS.out kW.size, (HRS.out.keepN kW HBS.out).takes (by omega)⟩)
              rw [HF.out] at this
              exact this
            clear hf
            go_wp2_with fail
            refine wp_region_held_drew (S := (fun X : World => (X.cell? ⟨bA, 0, Option.none⟩ = some (.int .u8 x.d) ∧ X.cell? ⟨bA, 1, Option.none⟩ = some (.int .u16 x.q.v) ∧ X.cell? ⟨bA, 2, Option.none⟩ = some (.int .u8 x.q.a) ∧ X.cell? ⟨bA, 3, Option.none⟩ = some (.int .u8 x.q.b) ∧ X.cell? ⟨bA, 4, Option.none⟩ = some (.int .u8 x.q.c) ∧ X.cell? ⟨bA, 5, Option.none⟩ = some (.int .u8 x.q.d) ∧ X.cell? ⟨bA, 6, Option.none⟩ = some (.int .u8 x.q.e) ∧ X.cell? ⟨bA, 7, Option.none⟩ = some (.int .u8 x.q.f) ∧ X.cell? ⟨bA, 8, Option.none⟩ = some (.int .u8 x.port) ∧ X.cell? ⟨bA, 9, Option.none⟩ = some (.int .u8 x.ports)) ∧ (X.cell? ⟨bX, 0, Option.none⟩ = some (.int .u16 x.q.v) ∧ X.cell? ⟨bX, 1, Option.none⟩ = some (.int .u8 x.q.a) ∧ X.cell? ⟨bX, 2, Option.none⟩ = some (.int .u8 x.q.b) ∧ X.cell? ⟨bX, 3, Option.none⟩ = some (.int .u8 x.q.c) ∧ X.cell? ⟨bX, 4, Option.none⟩ = some (.int .u8 x.q.d) ∧ X.cell? ⟨bX, 5, Option.none⟩ = some (.int .u8 x.q.e) ∧ X.cell? ⟨bX, 6, Option.none⟩ = some (.int .u8 x.q.f)) ∧ (X.cell? ⟨bK, 0, Option.none⟩ = some (.int .u16 key.v) ∧ X.cell? ⟨bK, 1, Option.none⟩ = some (.int .u8 key.a) ∧ X.cell? ⟨bK, 2, Option.none⟩ = some (.int .u8 key.b) ∧ X.cell? ⟨bK, 3, Option.none⟩ = some (.int .u8 key.c) ∧ X.cell? ⟨bK, 4, Option.none⟩ = some (.int .u8 key.d) ∧ X.cell? ⟨bK, 5, Option.none⟩ = some (.int .u8 key.e) ∧ X.cell? ⟨bK, 6, Option.none⟩ = some (.int .u8 key.f)))) (by kernel_rfl) ?_ (fun hHeld => ?_)
            · (try dsimp only); (first | exact HH.out _ kk | exact HH.out _ kk.drew | exact HH.out _ kk.drew.drew)
            refine wpAnyH_take (i := 0) (v := ?_) rfl (by kernel_rfl) (by kernel_rfl) (by kernel_rfl) (fun _ _ _ h => h) (Or.inl ⟨by rfl, ?_⟩) (by assumption) ?_
            rotate_left
            · (intro W hSw; (try dsimp only at hSw); go_simp <;> with_reducible rfl)
            try simp only [Act.put, List.setIfInBounds_toArray, List.set_cons_zero, List.set_cons_succ, List.getElem_toArray, List.getElem_cons_zero, List.getElem_cons_succ]
            refine wpAnyH_take (i := 1) (v := ?_) rfl (by kernel_rfl) (by kernel_rfl) (by kernel_rfl) (fun _ _ _ h => h) (Or.inl ⟨by rfl, ?_⟩) (by assumption) ?_
            rotate_left
            · (intro W hSw; (try dsimp only at hSw); go_simp <;> with_reducible rfl)
            try simp only [Act.put, List.setIfInBounds_toArray, List.set_cons_zero, List.set_cons_succ, List.getElem_toArray, List.getElem_cons_zero, List.getElem_cons_succ]
            refine wpAnyH_take (i := 2) (v := ?_) rfl (by kernel_rfl) (by kernel_rfl) (by kernel_rfl) (fun _ _ _ h => h) (Or.inl ⟨by rfl, ?_⟩) (by assumption) ?_
            rotate_left
            · (intro W hSw; (try dsimp only at hSw); go_simp <;> with_reducible rfl)
            try simp only [Act.put, List.setIfInBounds_toArray, List.set_cons_zero, List.set_cons_succ, List.getElem_toArray, List.getElem_cons_zero, List.getElem_cons_succ]
            refine wpAnyH_take (i := 3) (v := ?_) rfl (by kernel_rfl) (by kernel_rfl) (by kernel_rfl) (fun _ _ _ h => h) (Or.inl ⟨by rfl, ?_⟩) (by assumption) ?_
            rotate_left
            · (intro W hSw; (try dsimp only at hSw); go_simp <;> with_reducible rfl)
            try simp only [Act.put, List.setIfInBounds_toArray, List.set_cons_zero, List.set_cons_succ, List.getElem_toArray, List.getElem_cons_zero, List.getElem_cons_succ]
            refine wpAnyH_take (i := 4) (v := undef) rfl (by kernel_rfl) (by kernel_rfl) (by kernel_rfl) (fun _ _ _ h => h) (Or.inr ⟨by rfl, rfl⟩) (by assumption) ?_
            try simp only [Act.put, List.setIfInBounds_toArray, List.set_cons_zero, List.set_cons_succ, List.getElem_toArray, List.getElem_cons_zero, List.getElem_cons_succ]
            refine wpAnyH_take (i := 5) (v := undef) rfl (by kernel_rfl) (by kernel_rfl) (by kernel_rfl) (fun _ _ _ h => h) (Or.inr ⟨by rfl, rfl⟩) (by assumption) ?_
            try simp only [Act.put, List.setIfInBounds_toArray, List.set_cons_zero, List.set_cons_succ, List.getElem_toArray, List.getElem_cons_zero, List.getElem_cons_succ]
            refine wpAnyH_take (i := 6) (v := undef) rfl (by kernel_rfl) (by kernel_rfl) (by kernel_rfl) (fun _ _ _ h => h) (Or.inr ⟨by rfl, rfl⟩) (by assumption) ?_
            try simp only [Act.put, List.setIfInBounds_toArray, List.set_cons_zero, List.set_cons_succ, List.getElem_toArray, List.getElem_cons_zero, List.getElem_cons_succ]
            refine wpAnyH_take (i := 7) (v := ?_) rfl (by kernel_rfl) (by kernel_rfl) (by kernel_rfl) (fun _ _ _ h => h) (Or.inl ⟨by rfl, ?_⟩) (by assumption) ?_
            rotate_left
            · (intro W hSw; (try dsimp only at hSw); go_simp <;> with_reducible rfl)
            try simp only [Act.put, List.setIfInBounds_toArray, List.set_cons_zero, List.set_cons_succ, List.getElem_toArray, List.getElem_cons_zero, List.getElem_cons_succ]
            refine wpAnyH_take (i := 8) (v := ?_) rfl (by kernel_rfl) (by kernel_rfl) (by kernel_rfl) (fun _ _ _ h => h) (Or.inl ⟨by rfl, ?_⟩) (by assumption) ?_
            rotate_left
            · (intro W hSw; (try dsimp only at hSw); go_simp <;> with_reducible rfl)
            try simp only [Act.put, List.setIfInBounds_toArray, List.set_cons_zero, List.set_cons_succ, List.getElem_toArray, List.getElem_cons_zero, List.getElem_cons_succ]
            refine wpAnyH_take (i := 9) (v := undef) rfl (by kernel_rfl) (by kernel_rfl) (by kernel_rfl) (fun _ _ _ h => h) (Or.inr ⟨by rfl, rfl⟩) (by assumption) ?_
            try simp only [Act.put, List.setIfInBounds_toArray, List.set_cons_zero, List.set_cons_succ, List.getElem_toArray, List.getElem_cons_zero, List.getElem_cons_succ]
            refine wpAnyH_take (i := 10) (v := undef) rfl (by kernel_rfl) (by kernel_rfl) (by kernel_rfl) (fun _ _ _ h => h) (Or.inr ⟨by rfl, rfl⟩) (by assumption) ?_
            try simp only [Act.put, List.setIfInBounds_toArray, List.set_cons_zero, List.set_cons_succ, List.getElem_toArray, List.getElem_cons_zero, List.getElem_cons_succ]
            refine wpAnyH_take (i := 11) (v := undef) rfl (by kernel_rfl) (by kernel_rfl) (by kernel_rfl) (fun _ _ _ h => h) (Or.inr ⟨by rfl, rfl⟩) (by assumption) ?_
            try simp only [Act.put, List.setIfInBounds_toArray, List.set_cons_zero, List.set_cons_succ, List.getElem_toArray, List.getElem_cons_zero, List.getElem_cons_succ]
            refine wpAnyH_take (i := 12) (v := undef) rfl (by kernel_rfl) (by kernel_rfl) (by kernel_rfl) (fun _ _ _ h => h) (Or.inr ⟨by rfl, rfl⟩) (by assumption) ?_
            try simp only [Act.put, List.setIfInBounds_toArray, List.set_cons_zero, List.set_cons_succ, List.getElem_toArray, List.getElem_cons_zero, List.getElem_cons_succ]
            refine wpAnyH_take (i := 13) (v := undef) rfl (by kernel_rfl) (by kernel_rfl) (by kernel_rfl) (fun _ _ _ h => h) (Or.inr ⟨by rfl, rfl⟩) (by assumption) ?_
            try simp only [Act.put, List.setIfInBounds_toArray, List.set_cons_zero, List.set_cons_succ, List.getElem_toArray, List.getElem_cons_zero, List.getElem_cons_succ]
            refine wpAnyH_take (i := 14) (v := undef) rfl (by kernel_rfl) (by kernel_rfl) (by kernel_rfl) (fun _ _ _ h => h) (Or.inr ⟨by rfl, rfl⟩) (by assumption) ?_
            try simp only [Act.put, List.setIfInBounds_toArray, List.set_cons_zero, List.set_cons_succ, List.getElem_toArray, List.getElem_cons_zero, List.getElem_cons_succ]
            refine wpAnyH_take (i := 15) (v := ?_) rfl (by kernel_rfl) (by kernel_rfl) (by kernel_rfl) (fun _ _ _ h => h) (Or.inl ⟨by rfl, ?_⟩) (by assumption) ?_
            rotate_left
            · (intro W hSw; (try dsimp only at hSw); go_simp <;> with_reducible rfl)
            try simp only [Act.put, List.setIfInBounds_toArray, List.set_cons_zero, List.set_cons_succ, List.getElem_toArray, List.getElem_cons_zero, List.getElem_cons_succ]
            refine wpAnyH_take (i := 16) (v := ?_) rfl (by kernel_rfl) (by kernel_rfl) (by kernel_rfl) (fun _ _ _ h => h) (Or.inl ⟨by rfl, ?_⟩) (by assumption) ?_
            rotate_left
            · (intro W hSw; (try dsimp only at hSw); go_simp <;> with_reducible rfl)
            try simp only [Act.put, List.setIfInBounds_toArray, List.set_cons_zero, List.set_cons_succ, List.getElem_toArray, List.getElem_cons_zero, List.getElem_cons_succ]
            refine wpAnyH_done (by kernel_rfl) ?_ _
            go_wp2_with fail
            refine wp_region_held_drew (S := (fun X : World => (X.cell? ⟨bA, 0, Option.none⟩ = some (.int .u8 x.d) ∧ X.cell? ⟨bA, 1, Option.none⟩ = some (.int .u16 x.q.v) ∧ X.cell? ⟨bA, 2, Option.none⟩ = some (.int .u8 x.q.a) ∧ X.cell? ⟨bA, 3, Option.none⟩ = some (.int .u8 x.q.b) ∧ X.cell? ⟨bA, 4, Option.none⟩ = some (.int .u8 x.q.c) ∧ X.cell? ⟨bA, 5, Option.none⟩ = some (.int .u8 x.q.d) ∧ X.cell? ⟨bA, 6, Option.none⟩ = some (.int .u8 x.q.e) ∧ X.cell? ⟨bA, 7, Option.none⟩ = some (.int .u8 x.q.f) ∧ X.cell? ⟨bA, 8, Option.none⟩ = some (.int .u8 x.port) ∧ X.cell? ⟨bA, 9, Option.none⟩ = some (.int .u8 x.ports)) ∧ (X.cell? ⟨bX, 0, Option.none⟩ = some (.int .u16 x.q.v) ∧ X.cell? ⟨bX, 1, Option.none⟩ = some (.int .u8 x.q.a) ∧ X.cell? ⟨bX, 2, Option.none⟩ = some (.int .u8 x.q.b) ∧ X.cell? ⟨bX, 3, Option.none⟩ = some (.int .u8 x.q.c) ∧ X.cell? ⟨bX, 4, Option.none⟩ = some (.int .u8 x.q.d) ∧ X.cell? ⟨bX, 5, Option.none⟩ = some (.int .u8 x.q.e) ∧ X.cell? ⟨bX, 6, Option.none⟩ = some (.int .u8 x.q.f)) ∧ (X.cell? ⟨bK, 0, Option.none⟩ = some (.int .u16 key.v) ∧ X.cell? ⟨bK, 1, Option.none⟩ = some (.int .u8 key.a) ∧ X.cell? ⟨bK, 2, Option.none⟩ = some (.int .u8 key.b) ∧ X.cell? ⟨bK, 3, Option.none⟩ = some (.int .u8 key.c) ∧ X.cell? ⟨bK, 4, Option.none⟩ = some (.int .u8 key.d) ∧ X.cell? ⟨bK, 5, Option.none⟩ = some (.int .u8 key.e) ∧ X.cell? ⟨bK, 6, Option.none⟩ = some (.int .u8 key.f)))) (by kernel_rfl) ?_ (fun hHeld => ?_)
            · (try dsimp only); (first | exact HH.out _ kk | exact HH.out _ kk.drew | exact HH.out _ kk.drew.drew)
            refine wpAnyH_take (i := 0) (v := ?_) rfl (by kernel_rfl) (by kernel_rfl) (by kernel_rfl) (fun _ _ _ h => h) (Or.inl ⟨by rfl, ?_⟩) (by assumption) ?_
            rotate_left
            · (intro W hSw; (try dsimp only at hSw); go_simp <;> with_reducible rfl)
            try simp only [Act.put, List.setIfInBounds_toArray, List.set_cons_zero, List.set_cons_succ, List.getElem_toArray, List.getElem_cons_zero, List.getElem_cons_succ]
            refine wpAnyH_ready (rs := [1]) (by kernel_rfl) (by simp) ?_
            refine AllReadyH.cons rfl (fun K hK => ?_) AllReadyH.nil
            try simp only [Act.put, List.setIfInBounds_toArray, List.set_cons_zero, List.set_cons_succ, List.getElem_toArray, List.getElem_cons_zero, List.getElem_cons_succ]
            go_simp
            (go_at_call 37; refine (C37 _ (by first | exact kk | exact kk.drew | exact kk.drew.drew)).mono ?_; rintro ee wz ⟨rfl, kz⟩; have kk : Keeps Nil wS wz := by first | exact kk.trans kz | exact kk.drew.trans kz | exact kk.drew.drew.trans kz)
            (try go_wp2_with fail)
            refine hK.out _ _ ?_ (fun hHeld => ?_)
            · (try dsimp only); (first | exact HH.out _ kk | exact HH.out _ kk.drew | exact HH.out _ kk.drew.drew)
            clear hK K
            try simp only [Act.put, List.setIfInBounds_toArray, List.set_cons_zero, List.set_cons_succ, List.getElem_toArray, List.getElem_cons_zero, List.getElem_cons_succ]
            refine wpAnyH_take (i := 2) (v := ?_) rfl (by kernel_rfl) (by kernel_rfl) (by kernel_rfl) (fun _ _ _ h => h) (Or.inl ⟨by rfl, ?_⟩) (by assumption) ?_
            rotate_left
            · (intro W hSw; (try dsimp only at hSw); go_simp <;> with_reducible rfl)
            try simp only [Act.put, List.setIfInBounds_toArray, List.set_cons_zero, List.set_cons_succ, List.getElem_toArray, List.getElem_cons_zero, List.getElem_cons_succ]
            refine wpAnyH_take (i := 3) (v := ?_) rfl (by kernel_rfl) (by kernel_rfl) (by kernel_rfl) (fun _ _ _ h => h) (Or.inl ⟨by rfl, ?_⟩) (by assumption) ?_
            rotate_left
            · (intro W hSw; (try dsimp only at hSw); go_simp <;> with_reducible rfl)
            try simp only [Act.put, List.setIfInBounds_toArray, List.set_cons_zero, List.set_cons_succ, List.getElem_toArray, List.getElem_cons_zero, List.getElem_cons_succ]
            refine wpAnyH_take (i := 4) (v := ?_) rfl (by kernel_rfl) (by kernel_rfl) (by kernel_rfl) (fun _ _ _ h => h) (Or.inl ⟨by rfl, ?_⟩) (by assumption) ?_
            rotate_left
            · (intro W hSw; (try dsimp only at hSw); go_simp <;> with_reducible rfl)
            try simp only [Act.put, List.setIfInBounds_toArray, List.set_cons_zero, List.set_cons_succ, List.getElem_toArray, List.getElem_cons_zero, List.getElem_cons_succ]
            refine wpAnyH_take (i := 5) (v := ?_) rfl (by kernel_rfl) (by kernel_rfl) (by kernel_rfl) (fun _ _ _ h => h) (Or.inl ⟨by rfl, ?_⟩) (by assumption) ?_
            rotate_left
            · (intro W hSw; (try dsimp only at hSw); go_simp <;> with_reducible rfl)
            try simp only [Act.put, List.setIfInBounds_toArray, List.set_cons_zero, List.set_cons_succ, List.getElem_toArray, List.getElem_cons_zero, List.getElem_cons_succ]
            refine wpAnyH_take (i := 6) (v := ?_) rfl (by kernel_rfl) (by kernel_rfl) (by kernel_rfl) (fun _ _ _ h => h) (Or.inl ⟨by rfl, ?_⟩) (by assumption) ?_
            rotate_left
            · (intro W hSw; (try dsimp only at hSw); go_simp <;> with_reducible rfl)
            try simp only [Act.put, List.setIfInBounds_toArray, List.set_cons_zero, List.set_cons_succ, List.getElem_toArray, List.getElem_cons_zero, List.getElem_cons_succ]
            refine wpAnyH_ready (rs := [7]) (by kernel_rfl) (by simp) ?_
            refine AllReadyH.cons rfl (fun K hK => ?_) AllReadyH.nil
            try simp only [Act.put, List.setIfInBounds_toArray, List.set_cons_zero, List.set_cons_succ, List.getElem_toArray, List.getElem_cons_zero, List.getElem_cons_succ]
            go_simp
            (go_at_call 36; refine (C36b _ (by first | exact kk | exact kk.drew | exact kk.drew.drew)).mono ?_; rintro ee wz ⟨rfl, kz⟩; have kk : Keeps Nil wS wz := by first | exact kk.trans kz | exact kk.drew.trans kz | exact kk.drew.drew.trans kz)
            (try go_wp2_with fail)
            refine hK.out _ _ ?_ (fun hHeld => ?_)
            · (try dsimp only); (first | exact HH.out _ kk | exact HH.out _ kk.drew | exact HH.out _ kk.drew.drew)
            clear hK K
            try simp only [Act.put, List.setIfInBounds_toArray, List.set_cons_zero, List.set_cons_succ, List.getElem_toArray, List.getElem_cons_zero, List.getElem_cons_succ]
            refine wpAnyH_take (i := 8) (v := ?_) rfl (by kernel_rfl) (by kernel_rfl) (by kernel_rfl) (fun _ _ _ h => h) (Or.inl ⟨by rfl, ?_⟩) (by assumption) ?_
            rotate_left
            · (intro W hSw; (try dsimp only at hSw); go_simp <;> with_reducible rfl)
            try simp only [Act.put, List.setIfInBounds_toArray, List.set_cons_zero, List.set_cons_succ, List.getElem_toArray, List.getElem_cons_zero, List.getElem_cons_succ]
            refine wpAnyH_take (i := 9) (v := ?_) rfl (by kernel_rfl) (by kernel_rfl) (by kernel_rfl) (fun _ _ _ h => h) (Or.inl ⟨by rfl, ?_⟩) (by assumption) ?_
            rotate_left
            · (intro W hSw; (try dsimp only at hSw); go_simp <;> with_reducible rfl)
            try simp only [Act.put, List.setIfInBounds_toArray, List.set_cons_zero, List.set_cons_succ, List.getElem_toArray, List.getElem_cons_zero, List.getElem_cons_succ]
            refine wpAnyH_take (i := 10) (v := ?_) rfl (by kernel_rfl) (by kernel_rfl) (by kernel_rfl) (fun _ _ _ h => h) (Or.inl ⟨by rfl, ?_⟩) (by assumption) ?_
            rotate_left
            · (intro W hSw; (try dsimp only at hSw); go_simp <;> with_reducible rfl)
            try simp only [Act.put, List.setIfInBounds_toArray, List.set_cons_zero, List.set_cons_succ, List.getElem_toArray, List.getElem_cons_zero, List.getElem_cons_succ]
            refine wpAnyH_done (by kernel_rfl) ?_ _
            have KK := hid kk
            go_wp2_with fail
            go_roundw
            case rel => exact ⟨i, by omega, by rw [HT2.out (by have := D01.out; omega)], by rw [HF2.out (by have := D01.out; omega)], by go_num, hid ⟨by rw [HLP.out, LPS.out]; rw [if_neg D01.out, if_neg (fun h => D2.out h.1), if_neg (fun h => by rw [HF.out] at h; exact absurd h.2 (by simp))], KS.out.trans KK.out⟩⟩
            case measure => simp only [intOf]; omega
          | false =>
            have HF := hid hf
            have C36b : ∀ W, Keeps Nil wS W → Calls Try.prog 36 #[.slice (some ⟨b, o, Option.none⟩) i cap, x.q.val] W fun e w' => e = .returned (.bool false) ∧ Keeps Nil W w' := fun W kW => by
              have := fixed_any (some ⟨b, o, Option.none⟩) i cap (l.take i) x.q HXO.out.2.1 W (by omega) (by have := HN.out; simp only [List.length_take]; omega) (fun _ => ⟨b, o, rfl, Nat.lt_of_lt_of_le HBS.out kW.size, (HRS.out.keepN kW HBS.out).takes (by omega)⟩)
              rw [HF.out] at this
              exact this
            clear hf
            by_cases hq : x.q = key
            · have hE : ∀ W, (binOp .eql 57 (.agg #[.int .u16 x.q.v, .int .u8 x.q.a, .int .u8 x.q.b, .int .u8 x.q.c, .int .u8 x.q.d, .int .u8 x.q.e, .int .u8 x.q.f]) (.agg #[.int .u16 key.v, .int .u8 key.a, .int .u8 key.b, .int .u8 key.c, .int .u8 key.d, .int .u8 key.e, .int .u8 key.f])).run Try.prog W = .ok (.bool true) W := fun W => (eql57 x.q key HXO.out.2.1 HKO.out true (decide_eq_true hq) W).1
              have hE2 : ∀ W, (Op.equalIn 10000 57 (.agg #[.int .u16 x.q.v, .int .u8 x.q.a, .int .u8 x.q.b, .int .u8 x.q.c, .int .u8 x.q.d, .int .u8 x.q.e, .int .u8 x.q.f]) (.agg #[.int .u16 key.v, .int .u8 key.a, .int .u8 key.b, .int .u8 key.c, .int .u8 key.d, .int .u8 key.e, .int .u8 key.f])).run Try.prog W = .ok true W := fun W => (eql57 x.q key HXO.out.2.1 HKO.out true (decide_eq_true hq) W).2
              have HQ := hid hq
              clear hq
              go_wp2_with fail
              refine wp_region_held_drew (S := (fun X : World => (X.cell? ⟨bA, 0, Option.none⟩ = some (.int .u8 x.d) ∧ X.cell? ⟨bA, 1, Option.none⟩ = some (.int .u16 x.q.v) ∧ X.cell? ⟨bA, 2, Option.none⟩ = some (.int .u8 x.q.a) ∧ X.cell? ⟨bA, 3, Option.none⟩ = some (.int .u8 x.q.b) ∧ X.cell? ⟨bA, 4, Option.none⟩ = some (.int .u8 x.q.c) ∧ X.cell? ⟨bA, 5, Option.none⟩ = some (.int .u8 x.q.d) ∧ X.cell? ⟨bA, 6, Option.none⟩ = some (.int .u8 x.q.e) ∧ X.cell? ⟨bA, 7, Option.none⟩ = some (.int .u8 x.q.f) ∧ X.cell? ⟨bA, 8, Option.none⟩ = some (.int .u8 x.port) ∧ X.cell? ⟨bA, 9, Option.none⟩ = some (.int .u8 x.ports)) ∧ (X.cell? ⟨bX, 0, Option.none⟩ = some (.int .u16 x.q.v) ∧ X.cell? ⟨bX, 1, Option.none⟩ = some (.int .u8 x.q.a) ∧ X.cell? ⟨bX, 2, Option.none⟩ = some (.int .u8 x.q.b) ∧ X.cell? ⟨bX, 3, Option.none⟩ = some (.int .u8 x.q.c) ∧ X.cell? ⟨bX, 4, Option.none⟩ = some (.int .u8 x.q.d) ∧ X.cell? ⟨bX, 5, Option.none⟩ = some (.int .u8 x.q.e) ∧ X.cell? ⟨bX, 6, Option.none⟩ = some (.int .u8 x.q.f)) ∧ (X.cell? ⟨bK, 0, Option.none⟩ = some (.int .u16 key.v) ∧ X.cell? ⟨bK, 1, Option.none⟩ = some (.int .u8 key.a) ∧ X.cell? ⟨bK, 2, Option.none⟩ = some (.int .u8 key.b) ∧ X.cell? ⟨bK, 3, Option.none⟩ = some (.int .u8 key.c) ∧ X.cell? ⟨bK, 4, Option.none⟩ = some (.int .u8 key.d) ∧ X.cell? ⟨bK, 5, Option.none⟩ = some (.int .u8 key.e) ∧ X.cell? ⟨bK, 6, Option.none⟩ = some (.int .u8 key.f)))) (by kernel_rfl) ?_ (fun hHeld => ?_)
              · (try dsimp only); (first | exact HH.out _ kk | exact HH.out _ kk.drew | exact HH.out _ kk.drew.drew)
              refine wpAnyH_take (i := 0) (v := ?_) rfl (by kernel_rfl) (by kernel_rfl) (by kernel_rfl) (fun _ _ _ h => h) (Or.inl ⟨by rfl, ?_⟩) (by assumption) ?_
              rotate_left
              · (intro W hSw; (try dsimp only at hSw); go_simp <;> with_reducible rfl)
              try simp only [Act.put, List.setIfInBounds_toArray, List.set_cons_zero, List.set_cons_succ, List.getElem_toArray, List.getElem_cons_zero, List.getElem_cons_succ]
              refine wpAnyH_take (i := 1) (v := ?_) rfl (by kernel_rfl) (by kernel_rfl) (by kernel_rfl) (fun _ _ _ h => h) (Or.inl ⟨by rfl, ?_⟩) (by assumption) ?_
              rotate_left
              · (intro W hSw; (try dsimp only at hSw); go_simp <;> with_reducible rfl)
              try simp only [Act.put, List.setIfInBounds_toArray, List.set_cons_zero, List.set_cons_succ, List.getElem_toArray, List.getElem_cons_zero, List.getElem_cons_succ]
              refine wpAnyH_take (i := 2) (v := ?_) rfl (by kernel_rfl) (by kernel_rfl) (by kernel_rfl) (fun _ _ _ h => h) (Or.inl ⟨by rfl, ?_⟩) (by assumption) ?_
              rotate_left
              · (intro W hSw; (try dsimp only at hSw); go_simp <;> with_reducible rfl)
              try simp only [Act.put, List.setIfInBounds_toArray, List.set_cons_zero, List.set_cons_succ, List.getElem_toArray, List.getElem_cons_zero, List.getElem_cons_succ]
              refine wpAnyH_take (i := 3) (v := ?_) rfl (by kernel_rfl) (by kernel_rfl) (by kernel_rfl) (fun _ _ _ h => h) (Or.inl ⟨by rfl, ?_⟩) (by assumption) ?_
              rotate_left
              · (intro W hSw; (try dsimp only at hSw); go_simp <;> with_reducible rfl)
              try simp only [Act.put, List.setIfInBounds_toArray, List.set_cons_zero, List.set_cons_succ, List.getElem_toArray, List.getElem_cons_zero, List.getElem_cons_succ]
              refine wpAnyH_take (i := 4) (v := undef) rfl (by kernel_rfl) (by kernel_rfl) (by kernel_rfl) (fun _ _ _ h => h) (Or.inr ⟨by rfl, rfl⟩) (by assumption) ?_
              try simp only [Act.put, List.setIfInBounds_toArray, List.set_cons_zero, List.set_cons_succ, List.getElem_toArray, List.getElem_cons_zero, List.getElem_cons_succ]
              refine wpAnyH_take (i := 5) (v := undef) rfl (by kernel_rfl) (by kernel_rfl) (by kernel_rfl) (fun _ _ _ h => h) (Or.inr ⟨by rfl, rfl⟩) (by assumption) ?_
              try simp only [Act.put, List.setIfInBounds_toArray, List.set_cons_zero, List.set_cons_succ, List.getElem_toArray, List.getElem_cons_zero, List.getElem_cons_succ]
              refine wpAnyH_take (i := 6) (v := undef) rfl (by kernel_rfl) (by kernel_rfl) (by kernel_rfl) (fun _ _ _ h => h) (Or.inr ⟨by rfl, rfl⟩) (by assumption) ?_
              try simp only [Act.put, List.setIfInBounds_toArray, List.set_cons_zero, List.set_cons_succ, List.getElem_toArray, List.getElem_cons_zero, List.getElem_cons_succ]
              refine wpAnyH_take (i := 7) (v := ?_) rfl (by kernel_rfl) (by kernel_rfl) (by kernel_rfl) (fun _ _ _ h => h) (Or.inl ⟨by rfl, ?_⟩) (by assumption) ?_
              rotate_left
              · (intro W hSw; (try dsimp only at hSw); go_simp <;> with_reducible rfl)
              try simp only [Act.put, List.setIfInBounds_toArray, List.set_cons_zero, List.set_cons_succ, List.getElem_toArray, List.getElem_cons_zero, List.getElem_cons_succ]
              refine wpAnyH_take (i := 8) (v := ?_) rfl (by kernel_rfl) (by kernel_rfl) (by kernel_rfl) (fun _ _ _ h => h) (Or.inl ⟨by rfl, ?_⟩) (by assumption) ?_
              rotate_left
              · (intro W hSw; (try dsimp only at hSw); go_simp <;> with_reducible rfl)
              try simp only [Act.put, List.setIfInBounds_toArray, List.set_cons_zero, List.set_cons_succ, List.getElem_toArray, List.getElem_cons_zero, List.getElem_cons_succ]
              refine wpAnyH_take (i := 9) (v := undef) rfl (by kernel_rfl) (by kernel_rfl) (by kernel_rfl) (fun _ _ _ h => h) (Or.inr ⟨by rfl, rfl⟩) (by assumption) ?_
              try simp only [Act.put, List.setIfInBounds_toArray, List.set_cons_zero, List.set_cons_succ, List.getElem_toArray, List.getElem_cons_zero, List.getElem_cons_succ]
              refine wpAnyH_take (i := 10) (v := undef) rfl (by kernel_rfl) (by kernel_rfl) (by kernel_rfl) (fun _ _ _ h => h) (Or.inr ⟨by rfl, rfl⟩) (by assumption) ?_
              try simp only [Act.put, List.setIfInBounds_toArray, List.set_cons_zero, List.set_cons_succ, List.getElem_toArray, List.getElem_cons_zero, List.getElem_cons_succ]
              refine wpAnyH_take (i := 11) (v := undef) rfl (by kernel_rfl) (by kernel_rfl) (by kernel_rfl) (fun _ _ _ h => h) (Or.inr ⟨by rfl, rfl⟩) (by assumption) ?_
              try simp only [Act.put, List.setIfInBounds_toArray, List.set_cons_zero, List.set_cons_succ, List.getElem_toArray, List.getElem_cons_zero, List.getElem_cons_succ]
              refine wpAnyH_take (i := 12) (v := undef) rfl (by kernel_rfl) (by kernel_rfl) (by kernel_rfl) (fun _ _ _ h => h) (Or.inr ⟨by rfl, rfl⟩) (by assumption) ?_
              try simp only [Act.put, List.setIfInBounds_toArray, List.set_cons_zero, List.set_cons_succ, List.getElem_toArray, List.getElem_cons_zero, List.getElem_cons_succ]
              refine wpAnyH_take (i := 13) (v := undef) rfl (by kernel_rfl) (by kernel_rfl) (by kernel_rfl) (fun _ _ _ h => h) (Or.inr ⟨by rfl, rfl⟩) (by assumption) ?_
              try simp only [Act.put, List.setIfInBounds_toArray, List.set_cons_zero, List.set_cons_succ, List.getElem_toArray, List.getElem_cons_zero, List.getElem_cons_succ]
              refine wpAnyH_take (i := 14) (v := undef) rfl (by kernel_rfl) (by kernel_rfl) (by kernel_rfl) (fun _ _ _ h => h) (Or.inr ⟨by rfl, rfl⟩) (by assumption) ?_
              try simp only [Act.put, List.setIfInBounds_toArray, List.set_cons_zero, List.set_cons_succ, List.getElem_toArray, List.getElem_cons_zero, List.getElem_cons_succ]
              refine wpAnyH_take (i := 15) (v := ?_) rfl (by kernel_rfl) (by kernel_rfl) (by kernel_rfl) (fun _ _ _ h => h) (Or.inl ⟨by rfl, ?_⟩) (by assumption) ?_
              rotate_left
              · (intro W hSw; (try dsimp only at hSw); go_simp <;> with_reducible rfl)
              try simp only [Act.put, List.setIfInBounds_toArray, List.set_cons_zero, List.set_cons_succ, List.getElem_toArray, List.getElem_cons_zero, List.getElem_cons_succ]
              refine wpAnyH_take (i := 16) (v := ?_) rfl (by kernel_rfl) (by kernel_rfl) (by kernel_rfl) (fun _ _ _ h => h) (Or.inl ⟨by rfl, ?_⟩) (by assumption) ?_
              rotate_left
              · (intro W hSw; (try dsimp only at hSw); go_simp <;> with_reducible rfl)
              try simp only [Act.put, List.setIfInBounds_toArray, List.set_cons_zero, List.set_cons_succ, List.getElem_toArray, List.getElem_cons_zero, List.getElem_cons_succ]
              refine wpAnyH_done (by kernel_rfl) ?_ _
              go_wp2_with fail
              refine wp_region_held_drew (S := (fun X : World => (X.cell? ⟨bA, 0, Option.none⟩ = some (.int .u8 x.d) ∧ X.cell? ⟨bA, 1, Option.none⟩ = some (.int .u16 x.q.v) ∧ X.cell? ⟨bA, 2, Option.none⟩ = some (.int .u8 x.q.a) ∧ X.cell? ⟨bA, 3, Option.none⟩ = some (.int .u8 x.q.b) ∧ X.cell? ⟨bA, 4, Option.none⟩ = some (.int .u8 x.q.c) ∧ X.cell? ⟨bA, 5, Option.none⟩ = some (.int .u8 x.q.d) ∧ X.cell? ⟨bA, 6, Option.none⟩ = some (.int .u8 x.q.e) ∧ X.cell? ⟨bA, 7, Option.none⟩ = some (.int .u8 x.q.f) ∧ X.cell? ⟨bA, 8, Option.none⟩ = some (.int .u8 x.port) ∧ X.cell? ⟨bA, 9, Option.none⟩ = some (.int .u8 x.ports)) ∧ (X.cell? ⟨bX, 0, Option.none⟩ = some (.int .u16 x.q.v) ∧ X.cell? ⟨bX, 1, Option.none⟩ = some (.int .u8 x.q.a) ∧ X.cell? ⟨bX, 2, Option.none⟩ = some (.int .u8 x.q.b) ∧ X.cell? ⟨bX, 3, Option.none⟩ = some (.int .u8 x.q.c) ∧ X.cell? ⟨bX, 4, Option.none⟩ = some (.int .u8 x.q.d) ∧ X.cell? ⟨bX, 5, Option.none⟩ = some (.int .u8 x.q.e) ∧ X.cell? ⟨bX, 6, Option.none⟩ = some (.int .u8 x.q.f)) ∧ (X.cell? ⟨bK, 0, Option.none⟩ = some (.int .u16 key.v) ∧ X.cell? ⟨bK, 1, Option.none⟩ = some (.int .u8 key.a) ∧ X.cell? ⟨bK, 2, Option.none⟩ = some (.int .u8 key.b) ∧ X.cell? ⟨bK, 3, Option.none⟩ = some (.int .u8 key.c) ∧ X.cell? ⟨bK, 4, Option.none⟩ = some (.int .u8 key.d) ∧ X.cell? ⟨bK, 5, Option.none⟩ = some (.int .u8 key.e) ∧ X.cell? ⟨bK, 6, Option.none⟩ = some (.int .u8 key.f)))) (by kernel_rfl) ?_ (fun hHeld => ?_)
              · (try dsimp only); (first | exact HH.out _ kk | exact HH.out _ kk.drew | exact HH.out _ kk.drew.drew)
              refine wpAnyH_take (i := 0) (v := ?_) rfl (by kernel_rfl) (by kernel_rfl) (by kernel_rfl) (fun _ _ _ h => h) (Or.inl ⟨by rfl, ?_⟩) (by assumption) ?_
              rotate_left
              · (intro W hSw; (try dsimp only at hSw); go_simp <;> with_reducible rfl)
              try simp only [Act.put, List.setIfInBounds_toArray, List.set_cons_zero, List.set_cons_succ, List.getElem_toArray, List.getElem_cons_zero, List.getElem_cons_succ]
              refine wpAnyH_ready (rs := [1]) (by kernel_rfl) (by simp) ?_
              refine AllReadyH.cons rfl (fun K hK => ?_) AllReadyH.nil
              try simp only [Act.put, List.setIfInBounds_toArray, List.set_cons_zero, List.set_cons_succ, List.getElem_toArray, List.getElem_cons_zero, List.getElem_cons_succ]
              go_simp
              (go_at_call 37; refine (C37 _ (by first | exact kk | exact kk.drew | exact kk.drew.drew)).mono ?_; rintro ee wz ⟨rfl, kz⟩; have kk : Keeps Nil wS wz := by first | exact kk.trans kz | exact kk.drew.trans kz | exact kk.drew.drew.trans kz)
              (try go_wp2_with fail)
              refine hK.out _ _ ?_ (fun hHeld => ?_)
              · (try dsimp only); (first | exact HH.out _ kk | exact HH.out _ kk.drew | exact HH.out _ kk.drew.drew)
              clear hK K
              try simp only [Act.put, List.setIfInBounds_toArray, List.set_cons_zero, List.set_cons_succ, List.getElem_toArray, List.getElem_cons_zero, List.getElem_cons_succ]
              refine wpAnyH_take (i := 2) (v := ?_) rfl (by kernel_rfl) (by kernel_rfl) (by kernel_rfl) (fun _ _ _ h => h) (Or.inl ⟨by rfl, ?_⟩) (by assumption) ?_
              rotate_left
              · (intro W hSw; (try dsimp only at hSw); go_simp <;> with_reducible rfl)
              try simp only [Act.put, List.setIfInBounds_toArray, List.set_cons_zero, List.set_cons_succ, List.getElem_toArray, List.getElem_cons_zero, List.getElem_cons_succ]
              refine wpAnyH_take (i := 3) (v := ?_) rfl (by kernel_rfl) (by kernel_rfl) (by kernel_rfl) (fun _ _ _ h => h) (Or.inl ⟨by rfl, ?_⟩) (by assumption) ?_
              rotate_left
              · (intro W hSw; (try dsimp only at hSw); go_simp <;> with_reducible rfl)
              try simp only [Act.put, List.setIfInBounds_toArray, List.set_cons_zero, List.set_cons_succ, List.getElem_toArray, List.getElem_cons_zero, List.getElem_cons_succ]
              refine wpAnyH_take (i := 4) (v := ?_) rfl (by kernel_rfl) (by kernel_rfl) (by kernel_rfl) (fun _ _ _ h => h) (Or.inl ⟨by rfl, ?_⟩) (by assumption) ?_
              rotate_left
              · (intro W hSw; (try dsimp only at hSw); go_simp <;> with_reducible rfl)
              try simp only [Act.put, List.setIfInBounds_toArray, List.set_cons_zero, List.set_cons_succ, List.getElem_toArray, List.getElem_cons_zero, List.getElem_cons_succ]
              refine wpAnyH_take (i := 5) (v := ?_) rfl (by kernel_rfl) (by kernel_rfl) (by kernel_rfl) (fun _ _ _ h => h) (Or.inl ⟨by rfl, ?_⟩) (by assumption) ?_
              rotate_left
              · (intro W hSw; (try dsimp only at hSw); go_simp <;> with_reducible rfl)
              try simp only [Act.put, List.setIfInBounds_toArray, List.set_cons_zero, List.set_cons_succ, List.getElem_toArray, List.getElem_cons_zero, List.getElem_cons_succ]
              refine wpAnyH_take (i := 6) (v := ?_) rfl (by kernel_rfl) (by kernel_rfl) (by kernel_rfl) (fun _ _ _ h => h) (Or.inl ⟨by rfl, ?_⟩) (by assumption) ?_
              rotate_left
              · (intro W hSw; (try dsimp only at hSw); go_simp <;> with_reducible rfl)
              try simp only [Act.put, List.setIfInBounds_toArray, List.set_cons_zero, List.set_cons_succ, List.getElem_toArray, List.getElem_cons_zero, List.getElem_cons_succ]
              refine wpAnyH_ready (rs := [7]) (by kernel_rfl) (by simp) ?_
              refine AllReadyH.cons rfl (fun K hK => ?_) AllReadyH.nil
              try simp only [Act.put, List.setIfInBounds_toArray, List.set_cons_zero, List.set_cons_succ, List.getElem_toArray, List.getElem_cons_zero, List.getElem_cons_succ]
              go_simp
              (go_at_call 36; refine (C36b _ (by first | exact kk | exact kk.drew | exact kk.drew.drew)).mono ?_; rintro ee wz ⟨rfl, kz⟩; have kk : Keeps Nil wS wz := by first | exact kk.trans kz | exact kk.drew.trans kz | exact kk.drew.drew.trans kz)
              (try go_wp2_with fail)
              refine hK.out _ _ ?_ (fun hHeld => ?_)
              · (try dsimp only); (first | exact HH.out _ kk | exact HH.out _ kk.drew | exact HH.out _ kk.drew.drew)
              clear hK K
              try simp only [Act.put, List.setIfInBounds_toArray, List.set_cons_zero, List.set_cons_succ, List.getElem_toArray, List.getElem_cons_zero, List.getElem_cons_succ]
              refine wpAnyH_take (i := 8) (v := ?_) rfl (by kernel_rfl) (by kernel_rfl) (by kernel_rfl) (fun _ _ _ h => h) (Or.inl ⟨by rfl, ?_⟩) (by assumption) ?_
              rotate_left
              · (intro W hSw; (try dsimp only at hSw); go_simp <;> with_reducible rfl)
              try simp only [Act.put, List.setIfInBounds_toArray, List.set_cons_zero, List.set_cons_succ, List.getElem_toArray, List.getElem_cons_zero, List.getElem_cons_succ]
              refine wpAnyH_take (i := 9) (v := ?_) rfl (by kernel_rfl) (by kernel_rfl) (by kernel_rfl) (fun _ _ _ h => h) (Or.inl ⟨by rfl, ?_⟩) (by assumption) ?_
              rotate_left
              · (intro W hSw; (try dsimp only at hSw); go_simp <;> with_reducible rfl)
              try simp only [Act.put, List.setIfInBounds_toArray, List.set_cons_zero, List.set_cons_succ, List.getElem_toArray, List.getElem_cons_zero, List.getElem_cons_succ]
              refine wpAnyH_take (i := 10) (v := ?_) rfl (by kernel_rfl) (by kernel_rfl) (by kernel_rfl) (fun _ _ _ h => h) (Or.inl ⟨by rfl, ?_⟩) (by assumption) ?_
              rotate_left
              · (intro W hSw; (try dsimp only at hSw); go_simp <;> with_reducible rfl)
              try simp only [Act.put, List.setIfInBounds_toArray, List.set_cons_zero, List.set_cons_succ, List.getElem_toArray, List.getElem_cons_zero, List.getElem_cons_succ]
              refine wpAnyH_done (by kernel_rfl) ?_ _
              obtain ⟨h0, ⟨x0, x1, x2, x3, x4, x5, x6⟩, ⟨y0, y1, y2, y3, y4, y5, y6⟩⟩ := HH.out _ kk
              go_wp2_with fail
              clear h0 x0 x1 x2 x3 x4 x5 x6 y0 y1 y2 y3 y4 y5 y6
              have hp0 := HP8.out.1
              have hp1 := HP8.out.2
              by_cases ht : T < 40
              · have HTT := hid ht
                have htt : decide (T < 40) = true := decide_eq_true ht
                clear ht
                cases hb : fbit F x.port with
                | true =>
                  have HFB := hid hb
                  have hbb : (bits BinOp.and .u8 (F / 2 ^ x.port.toNat) 1 == 0) = false := by rw [and_zero _ (Int.ediv_nonneg hFl.1 (Int.pow_nonneg (by omega))) (Int.lt_of_le_of_lt (Int.ediv_le_self _ hFl.1) hFl.2)]; unfold fbit at hb; rw [hb]; rfl
                  clear hb
                  refine wp_region_held_drew (S := (fun X : World => (X.cell? ⟨bA, 0, Option.none⟩ = some (.int .u8 x.d) ∧ X.cell? ⟨bA, 1, Option.none⟩ = some (.int .u16 x.q.v) ∧ X.cell? ⟨bA, 2, Option.none⟩ = some (.int .u8 x.q.a) ∧ X.cell? ⟨bA, 3, Option.none⟩ = some (.int .u8 x.q.b) ∧ X.cell? ⟨bA, 4, Option.none⟩ = some (.int .u8 x.q.c) ∧ X.cell? ⟨bA, 5, Option.none⟩ = some (.int .u8 x.q.d) ∧ X.cell? ⟨bA, 6, Option.none⟩ = some (.int .u8 x.q.e) ∧ X.cell? ⟨bA, 7, Option.none⟩ = some (.int .u8 x.q.f) ∧ X.cell? ⟨bA, 8, Option.none⟩ = some (.int .u8 x.port) ∧ X.cell? ⟨bA, 9, Option.none⟩ = some (.int .u8 x.ports)) ∧ (X.cell? ⟨bX, 0, Option.none⟩ = some (.int .u16 x.q.v) ∧ X.cell? ⟨bX, 1, Option.none⟩ = some (.int .u8 x.q.a) ∧ X.cell? ⟨bX, 2, Option.none⟩ = some (.int .u8 x.q.b) ∧ X.cell? ⟨bX, 3, Option.none⟩ = some (.int .u8 x.q.c) ∧ X.cell? ⟨bX, 4, Option.none⟩ = some (.int .u8 x.q.d) ∧ X.cell? ⟨bX, 5, Option.none⟩ = some (.int .u8 x.q.e) ∧ X.cell? ⟨bX, 6, Option.none⟩ = some (.int .u8 x.q.f)) ∧ (X.cell? ⟨bK, 0, Option.none⟩ = some (.int .u16 key.v) ∧ X.cell? ⟨bK, 1, Option.none⟩ = some (.int .u8 key.a) ∧ X.cell? ⟨bK, 2, Option.none⟩ = some (.int .u8 key.b) ∧ X.cell? ⟨bK, 3, Option.none⟩ = some (.int .u8 key.c) ∧ X.cell? ⟨bK, 4, Option.none⟩ = some (.int .u8 key.d) ∧ X.cell? ⟨bK, 5, Option.none⟩ = some (.int .u8 key.e) ∧ X.cell? ⟨bK, 6, Option.none⟩ = some (.int .u8 key.f)))) (by kernel_rfl) ?_ (fun hHeld => ?_)
                  · (try dsimp only); (first | exact HH.out _ kk | exact HH.out _ kk.drew | exact HH.out _ kk.drew.drew)
                  refine wpAnyH_take (i := 0) (v := ?_) rfl (by kernel_rfl) (by kernel_rfl) (by kernel_rfl) (fun _ _ _ h => h) (Or.inl ⟨by rfl, ?_⟩) (by assumption) ?_
                  rotate_left
                  · (intro W hSw; (try dsimp only at hSw); go_simp <;> with_reducible rfl)
                  try simp only [Act.put, List.setIfInBounds_toArray, List.set_cons_zero, List.set_cons_succ, List.getElem_toArray, List.getElem_cons_zero, List.getElem_cons_succ]
                  refine wpAnyH_take (i := 1) (v := ?_) rfl (by kernel_rfl) (by kernel_rfl) (by kernel_rfl) (fun _ _ _ h => h) (Or.inl ⟨by rfl, ?_⟩) (by assumption) ?_
                  rotate_left
                  · (intro W hSw; (try dsimp only at hSw); go_simp <;> with_reducible rfl)
                  try simp only [Act.put, List.setIfInBounds_toArray, List.set_cons_zero, List.set_cons_succ, List.getElem_toArray, List.getElem_cons_zero, List.getElem_cons_succ]
                  refine wpAnyH_take (i := 2) (v := ?_) rfl (by kernel_rfl) (by kernel_rfl) (by kernel_rfl) (fun _ _ _ h => h) (Or.inl ⟨by rfl, ?_⟩) (by assumption) ?_
                  rotate_left
                  · (intro W hSw; (try dsimp only at hSw); go_simp <;> with_reducible rfl)
                  try simp only [Act.put, List.setIfInBounds_toArray, List.set_cons_zero, List.set_cons_succ, List.getElem_toArray, List.getElem_cons_zero, List.getElem_cons_succ]
                  refine wpAnyH_take (i := 3) (v := ?_) rfl (by kernel_rfl) (by kernel_rfl) (by kernel_rfl) (fun _ _ _ h => h) (Or.inl ⟨by rfl, ?_⟩) (by assumption) ?_
                  rotate_left
                  · (intro W hSw; (try dsimp only at hSw); go_simp <;> with_reducible rfl)
                  try simp only [Act.put, List.setIfInBounds_toArray, List.set_cons_zero, List.set_cons_succ, List.getElem_toArray, List.getElem_cons_zero, List.getElem_cons_succ]
                  refine wpAnyH_take (i := 4) (v := ?_) rfl (by kernel_rfl) (by kernel_rfl) (by kernel_rfl) (fun _ _ _ h => h) (Or.inl ⟨by rfl, ?_⟩) (by assumption) ?_
                  rotate_left
                  · (intro W hSw; (try dsimp only at hSw); go_simp <;> with_reducible rfl)
                  try simp only [Act.put, List.setIfInBounds_toArray, List.set_cons_zero, List.set_cons_succ, List.getElem_toArray, List.getElem_cons_zero, List.getElem_cons_succ]
                  refine wpAnyH_take (i := 5) (v := ?_) rfl (by kernel_rfl) (by kernel_rfl) (by kernel_rfl) (fun _ _ _ h => h) (Or.inl ⟨by rfl, ?_⟩) (by assumption) ?_
                  rotate_left
                  · (intro W hSw; (try dsimp only at hSw); go_simp <;> with_reducible rfl)
                  try simp only [Act.put, List.setIfInBounds_toArray, List.set_cons_zero, List.set_cons_succ, List.getElem_toArray, List.getElem_cons_zero, List.getElem_cons_succ]
                  refine wpAnyH_take (i := 6) (v := ?_) rfl (by kernel_rfl) (by kernel_rfl) (by kernel_rfl) (fun _ _ _ h => h) (Or.inl ⟨by rfl, ?_⟩) (by assumption) ?_
                  rotate_left
                  · (intro W hSw; (try dsimp only at hSw); go_simp <;> with_reducible rfl)
                  try simp only [Act.put, List.setIfInBounds_toArray, List.set_cons_zero, List.set_cons_succ, List.getElem_toArray, List.getElem_cons_zero, List.getElem_cons_succ]
                  refine wpAnyH_take (i := 7) (v := ?_) rfl (by kernel_rfl) (by kernel_rfl) (by kernel_rfl) (fun _ _ _ h => h) (Or.inl ⟨by rfl, ?_⟩) (by assumption) ?_
                  rotate_left
                  · (intro W hSw; (try dsimp only at hSw); go_simp <;> with_reducible rfl)
                  try simp only [Act.put, List.setIfInBounds_toArray, List.set_cons_zero, List.set_cons_succ, List.getElem_toArray, List.getElem_cons_zero, List.getElem_cons_succ]
                  refine wpAnyH_take (i := 8) (v := ?_) rfl (by kernel_rfl) (by kernel_rfl) (by kernel_rfl) (fun _ _ _ h => h) (Or.inl ⟨by rfl, ?_⟩) (by assumption) ?_
                  rotate_left
                  · (intro W hSw; (try dsimp only at hSw); go_simp <;> with_reducible rfl)
                  try simp only [Act.put, List.setIfInBounds_toArray, List.set_cons_zero, List.set_cons_succ, List.getElem_toArray, List.getElem_cons_zero, List.getElem_cons_succ]
                  refine wpAnyH_take (i := 9) (v := ?_) rfl (by kernel_rfl) (by kernel_rfl) (by kernel_rfl) (fun _ _ _ h => h) (Or.inl ⟨by rfl, ?_⟩) (by assumption) ?_
                  rotate_left
                  · (intro W hSw; (try dsimp only at hSw); go_simp <;> with_reducible rfl)
                  try simp only [Act.put, List.setIfInBounds_toArray, List.set_cons_zero, List.set_cons_succ, List.getElem_toArray, List.getElem_cons_zero, List.getElem_cons_succ]
                  refine wpAnyH_take (i := 10) (v := ?_) rfl (by kernel_rfl) (by kernel_rfl) (by kernel_rfl) (fun _ _ _ h => h) (Or.inl ⟨by rfl, ?_⟩) (by assumption) ?_
                  rotate_left
                  · (intro W hSw; (try dsimp only at hSw); go_simp <;> with_reducible rfl)
                  try simp only [Act.put, List.setIfInBounds_toArray, List.set_cons_zero, List.set_cons_succ, List.getElem_toArray, List.getElem_cons_zero, List.getElem_cons_succ]
                  refine wpAnyH_take (i := 11) (v := ?_) rfl (by kernel_rfl) (by kernel_rfl) (by kernel_rfl) (fun _ _ _ h => h) (Or.inl ⟨by rfl, ?_⟩) (by assumption) ?_
                  rotate_left
                  · (intro W hSw; (try dsimp only at hSw); go_simp <;> with_reducible rfl)
                  try simp only [Act.put, List.setIfInBounds_toArray, List.set_cons_zero, List.set_cons_succ, List.getElem_toArray, List.getElem_cons_zero, List.getElem_cons_succ]
                  refine wpAnyH_take (i := 12) (v := ?_) rfl (by kernel_rfl) (by kernel_rfl) (by kernel_rfl) (fun _ _ _ h => h) (Or.inl ⟨by rfl, ?_⟩) (by assumption) ?_
                  rotate_left
                  · (intro W hSw; (try dsimp only at hSw); go_simp <;> with_reducible rfl)
                  try simp only [Act.put, List.setIfInBounds_toArray, List.set_cons_zero, List.set_cons_succ, List.getElem_toArray, List.getElem_cons_zero, List.getElem_cons_succ]
                  refine wpAnyH_take (i := 13) (v := undef) rfl (by kernel_rfl) (by kernel_rfl) (by kernel_rfl) (fun _ _ _ h => h) (Or.inr ⟨by rfl, rfl⟩) (by assumption) ?_
                  try simp only [Act.put, List.setIfInBounds_toArray, List.set_cons_zero, List.set_cons_succ, List.getElem_toArray, List.getElem_cons_zero, List.getElem_cons_succ]
                  refine wpAnyH_take (i := 14) (v := undef) rfl (by kernel_rfl) (by kernel_rfl) (by kernel_rfl) (fun _ _ _ h => h) (Or.inr ⟨by rfl, rfl⟩) (by assumption) ?_
                  try simp only [Act.put, List.setIfInBounds_toArray, List.set_cons_zero, List.set_cons_succ, List.getElem_toArray, List.getElem_cons_zero, List.getElem_cons_succ]
                  refine wpAnyH_take (i := 15) (v := undef) rfl (by kernel_rfl) (by kernel_rfl) (by kernel_rfl) (fun _ _ _ h => h) (Or.inr ⟨by rfl, rfl⟩) (by assumption) ?_
                  try simp only [Act.put, List.setIfInBounds_toArray, List.set_cons_zero, List.set_cons_succ, List.getElem_toArray, List.getElem_cons_zero, List.getElem_cons_succ]
                  refine wpAnyH_take (i := 16) (v := undef) rfl (by kernel_rfl) (by kernel_rfl) (by kernel_rfl) (fun _ _ _ h => h) (Or.inr ⟨by rfl, rfl⟩) (by assumption) ?_
                  try simp only [Act.put, List.setIfInBounds_toArray, List.set_cons_zero, List.set_cons_succ, List.getElem_toArray, List.getElem_cons_zero, List.getElem_cons_succ]
                  refine wpAnyH_take (i := 17) (v := undef) rfl (by kernel_rfl) (by kernel_rfl) (by kernel_rfl) (fun _ _ _ h => h) (Or.inr ⟨by rfl, rfl⟩) (by assumption) ?_
                  try simp only [Act.put, List.setIfInBounds_toArray, List.set_cons_zero, List.set_cons_succ, List.getElem_toArray, List.getElem_cons_zero, List.getElem_cons_succ]
                  refine wpAnyH_take (i := 18) (v := undef) rfl (by kernel_rfl) (by kernel_rfl) (by kernel_rfl) (fun _ _ _ h => h) (Or.inr ⟨by rfl, rfl⟩) (by assumption) ?_
                  try simp only [Act.put, List.setIfInBounds_toArray, List.set_cons_zero, List.set_cons_succ, List.getElem_toArray, List.getElem_cons_zero, List.getElem_cons_succ]
                  refine wpAnyH_take (i := 19) (v := undef) rfl (by kernel_rfl) (by kernel_rfl) (by kernel_rfl) (fun _ _ _ h => h) (Or.inr ⟨by rfl, rfl⟩) (by assumption) ?_
                  try simp only [Act.put, List.setIfInBounds_toArray, List.set_cons_zero, List.set_cons_succ, List.getElem_toArray, List.getElem_cons_zero, List.getElem_cons_succ]
                  refine wpAnyH_take (i := 20) (v := undef) rfl (by kernel_rfl) (by kernel_rfl) (by kernel_rfl) (fun _ _ _ h => h) (Or.inr ⟨by rfl, rfl⟩) (by assumption) ?_
                  try simp only [Act.put, List.setIfInBounds_toArray, List.set_cons_zero, List.set_cons_succ, List.getElem_toArray, List.getElem_cons_zero, List.getElem_cons_succ]
                  refine wpAnyH_take (i := 21) (v := undef) rfl (by kernel_rfl) (by kernel_rfl) (by kernel_rfl) (fun _ _ _ h => h) (Or.inr ⟨by rfl, rfl⟩) (by assumption) ?_
                  try simp only [Act.put, List.setIfInBounds_toArray, List.set_cons_zero, List.set_cons_succ, List.getElem_toArray, List.getElem_cons_zero, List.getElem_cons_succ]
                  refine wpAnyH_take (i := 22) (v := undef) rfl (by kernel_rfl) (by kernel_rfl) (by kernel_rfl) (fun _ _ _ h => h) (Or.inr ⟨by rfl, rfl⟩) (by assumption) ?_
                  try simp only [Act.put, List.setIfInBounds_toArray, List.set_cons_zero, List.set_cons_succ, List.getElem_toArray, List.getElem_cons_zero, List.getElem_cons_succ]
                  refine wpAnyH_take (i := 23) (v := ?_) rfl (by kernel_rfl) (by kernel_rfl) (by kernel_rfl) (fun _ _ _ h => h) (Or.inl ⟨by rfl, ?_⟩) (by assumption) ?_
                  rotate_left
                  · (intro W hSw; (try dsimp only at hSw); go_simp <;> with_reducible rfl)
                  try simp only [Act.put, List.setIfInBounds_toArray, List.set_cons_zero, List.set_cons_succ, List.getElem_toArray, List.getElem_cons_zero, List.getElem_cons_succ]
                  refine wpAnyH_take (i := 24) (v := ?_) rfl (by kernel_rfl) (by kernel_rfl) (by kernel_rfl) (fun _ _ _ h => h) (Or.inl ⟨by rfl, ?_⟩) (by assumption) ?_
                  rotate_left
                  · (intro W hSw; (try dsimp only at hSw); go_simp <;> with_reducible rfl)
                  try simp only [Act.put, List.setIfInBounds_toArray, List.set_cons_zero, List.set_cons_succ, List.getElem_toArray, List.getElem_cons_zero, List.getElem_cons_succ]
                  refine wpAnyH_take (i := 25) (v := ?_) rfl (by kernel_rfl) (by kernel_rfl) (by kernel_rfl) (fun _ _ _ h => h) (Or.inl ⟨by rfl, ?_⟩) (by assumption) ?_
                  rotate_left
                  · (intro W hSw; (try dsimp only at hSw); go_simp <;> with_reducible rfl)
                  try simp only [Act.put, List.setIfInBounds_toArray, List.set_cons_zero, List.set_cons_succ, List.getElem_toArray, List.getElem_cons_zero, List.getElem_cons_succ]
                  refine wpAnyH_done (by kernel_rfl) ?_ _
                  have KK := hid kk
                  have hfin : res = _ := HLP.out.trans (LPS.out.trans (((if_neg D01.out).trans (if_neg (fun h => D2.out h.1))).trans ((if_pos ⟨HMB.out, HF.out⟩).trans (if_pos HQ.out))))
                  have HFIN : Hid (res = (x.port, false)) := hid (hfin.trans (by simp [HFB.out]))
                  clear hfin
                  go_wp2_with fail
                  go_ret2
                  exact ⟨by rw [HFIN.out]; rfl, K1.out.trans (KS.out.trans (by first | exact KK.out | exact KK.out.drew))⟩
                | false =>
                  have HFB := hid hb
                  have hbb : (bits BinOp.and .u8 (F / 2 ^ x.port.toNat) 1 == 0) = true := by rw [and_zero _ (Int.ediv_nonneg hFl.1 (Int.pow_nonneg (by omega))) (Int.lt_of_le_of_lt (Int.ediv_le_self _ hFl.1) hFl.2)]; unfold fbit at hb; rw [hb]; rfl
                  clear hb
                  obtain ⟨P, hP⟩ : ∃ P, pushedP (l.drop (i + 1)) (l.take (i + 1)) = P := ⟨_, rfl⟩
                  have HPP := hid hP
                  clear hP
                  by_cases hce : cap = i + 1
                  · have C38 : ∀ W, Keeps Nil wS W → Calls Try.prog 38 #[.slice (some ⟨b, o, Option.none⟩) (n - (i + 1)) (cap - (i + 1)), .slice (some ⟨b, o, Option.none⟩) (i + 1) cap] W fun e w' => e = .returned (.bool P) ∧ Keeps Nil W w' := fun W kW => by
                      have := pushed_any (some ⟨b, o, Option.none⟩) (some ⟨b, o, Option.none⟩) (n - (i + 1)) (cap - (i + 1)) (i + 1) cap (l.drop (i + 1)) (l.take (i + 1)) W (by omega) (by have := HN.out; simp only [List.length_drop]; omega)
                        (fun h0 => by have := HCAP.out; omega) (by omega) (by have := HN.out; simp only [List.length_take]; omega)
                        (fun _ => ⟨b, o, rfl, Nat.lt_of_lt_of_le HBS.out kW.size, (HRS.out.keepN kW HBS.out).takes (by omega)⟩)
                      rw [HPP.out] at this
                      exact this
                    have hcq : (cap = i + 1) = True := eq_true hce
                    clear hce
                    refine wp_region_held_drew (S := (fun X : World => (X.cell? ⟨bA, 0, Option.none⟩ = some (.int .u8 x.d) ∧ X.cell? ⟨bA, 1, Option.none⟩ = some (.int .u16 x.q.v) ∧ X.cell? ⟨bA, 2, Option.none⟩ = some (.int .u8 x.q.a) ∧ X.cell? ⟨bA, 3, Option.none⟩ = some (.int .u8 x.q.b) ∧ X.cell? ⟨bA, 4, Option.none⟩ = some (.int .u8 x.q.c) ∧ X.cell? ⟨bA, 5, Option.none⟩ = some (.int .u8 x.q.d) ∧ X.cell? ⟨bA, 6, Option.none⟩ = some (.int .u8 x.q.e) ∧ X.cell? ⟨bA, 7, Option.none⟩ = some (.int .u8 x.q.f) ∧ X.cell? ⟨bA, 8, Option.none⟩ = some (.int .u8 x.port) ∧ X.cell? ⟨bA, 9, Option.none⟩ = some (.int .u8 x.ports)) ∧ (X.cell? ⟨bX, 0, Option.none⟩ = some (.int .u16 x.q.v) ∧ X.cell? ⟨bX, 1, Option.none⟩ = some (.int .u8 x.q.a) ∧ X.cell? ⟨bX, 2, Option.none⟩ = some (.int .u8 x.q.b) ∧ X.cell? ⟨bX, 3, Option.none⟩ = some (.int .u8 x.q.c) ∧ X.cell? ⟨bX, 4, Option.none⟩ = some (.int .u8 x.q.d) ∧ X.cell? ⟨bX, 5, Option.none⟩ = some (.int .u8 x.q.e) ∧ X.cell? ⟨bX, 6, Option.none⟩ = some (.int .u8 x.q.f)) ∧ (X.cell? ⟨bK, 0, Option.none⟩ = some (.int .u16 key.v) ∧ X.cell? ⟨bK, 1, Option.none⟩ = some (.int .u8 key.a) ∧ X.cell? ⟨bK, 2, Option.none⟩ = some (.int .u8 key.b) ∧ X.cell? ⟨bK, 3, Option.none⟩ = some (.int .u8 key.c) ∧ X.cell? ⟨bK, 4, Option.none⟩ = some (.int .u8 key.d) ∧ X.cell? ⟨bK, 5, Option.none⟩ = some (.int .u8 key.e) ∧ X.cell? ⟨bK, 6, Option.none⟩ = some (.int .u8 key.f)))) (by kernel_rfl) ?_ (fun hHeld => ?_)
                    · (try dsimp only); (first | exact HH.out _ kk | exact HH.out _ kk.drew | exact HH.out _ kk.drew.drew)
                    refine wpAnyH_take (i := 0) (v := ?_) rfl (by kernel_rfl) (by kernel_rfl) (by kernel_rfl) (fun _ _ _ h => h) (Or.inl ⟨by rfl, ?_⟩) (by assumption) ?_
                    rotate_left
                    · (intro W hSw; (try dsimp only at hSw); go_simp <;> with_reducible rfl)
                    try simp only [Act.put, List.setIfInBounds_toArray, List.set_cons_zero, List.set_cons_succ, List.getElem_toArray, List.getElem_cons_zero, List.getElem_cons_succ]
                    refine wpAnyH_take (i := 1) (v := ?_) rfl (by kernel_rfl) (by kernel_rfl) (by kernel_rfl) (fun _ _ _ h => h) (Or.inl ⟨by rfl, ?_⟩) (by assumption) ?_
                    rotate_left
                    · (intro W hSw; (try dsimp only at hSw); go_simp <;> with_reducible rfl)
                    try simp only [Act.put, List.setIfInBounds_toArray, List.set_cons_zero, List.set_cons_succ, List.getElem_toArray, List.getElem_cons_zero, List.getElem_cons_succ]
                    refine wpAnyH_take (i := 2) (v := ?_) rfl (by kernel_rfl) (by kernel_rfl) (by kernel_rfl) (fun _ _ _ h => h) (Or.inl ⟨by rfl, ?_⟩) (by assumption) ?_
                    rotate_left
                    · (intro W hSw; (try dsimp only at hSw); go_simp <;> with_reducible rfl)
                    try simp only [Act.put, List.setIfInBounds_toArray, List.set_cons_zero, List.set_cons_succ, List.getElem_toArray, List.getElem_cons_zero, List.getElem_cons_succ]
                    refine wpAnyH_take (i := 3) (v := ?_) rfl (by kernel_rfl) (by kernel_rfl) (by kernel_rfl) (fun _ _ _ h => h) (Or.inl ⟨by rfl, ?_⟩) (by assumption) ?_
                    rotate_left
                    · (intro W hSw; (try dsimp only at hSw); go_simp <;> with_reducible rfl)
                    try simp only [Act.put, List.setIfInBounds_toArray, List.set_cons_zero, List.set_cons_succ, List.getElem_toArray, List.getElem_cons_zero, List.getElem_cons_succ]
                    refine wpAnyH_take (i := 4) (v := ?_) rfl (by kernel_rfl) (by kernel_rfl) (by kernel_rfl) (fun _ _ _ h => h) (Or.inl ⟨by rfl, ?_⟩) (by assumption) ?_
                    rotate_left
                    · (intro W hSw; (try dsimp only at hSw); go_simp <;> with_reducible rfl)
                    try simp only [Act.put, List.setIfInBounds_toArray, List.set_cons_zero, List.set_cons_succ, List.getElem_toArray, List.getElem_cons_zero, List.getElem_cons_succ]
                    refine wpAnyH_take (i := 5) (v := ?_) rfl (by kernel_rfl) (by kernel_rfl) (by kernel_rfl) (fun _ _ _ h => h) (Or.inl ⟨by rfl, ?_⟩) (by assumption) ?_
                    rotate_left
                    · (intro W hSw; (try dsimp only at hSw); go_simp <;> with_reducible rfl)
                    try simp only [Act.put, List.setIfInBounds_toArray, List.set_cons_zero, List.set_cons_succ, List.getElem_toArray, List.getElem_cons_zero, List.getElem_cons_succ]
                    refine wpAnyH_take (i := 6) (v := ?_) rfl (by kernel_rfl) (by kernel_rfl) (by kernel_rfl) (fun _ _ _ h => h) (Or.inl ⟨by rfl, ?_⟩) (by assumption) ?_
                    rotate_left
                    · (intro W hSw; (try dsimp only at hSw); go_simp <;> with_reducible rfl)
                    try simp only [Act.put, List.setIfInBounds_toArray, List.set_cons_zero, List.set_cons_succ, List.getElem_toArray, List.getElem_cons_zero, List.getElem_cons_succ]
                    refine wpAnyH_take (i := 7) (v := ?_) rfl (by kernel_rfl) (by kernel_rfl) (by kernel_rfl) (fun _ _ _ h => h) (Or.inl ⟨by rfl, ?_⟩) (by assumption) ?_
                    rotate_left
                    · (intro W hSw; (try dsimp only at hSw); go_simp <;> with_reducible rfl)
                    try simp only [Act.put, List.setIfInBounds_toArray, List.set_cons_zero, List.set_cons_succ, List.getElem_toArray, List.getElem_cons_zero, List.getElem_cons_succ]
                    refine wpAnyH_take (i := 8) (v := ?_) rfl (by kernel_rfl) (by kernel_rfl) (by kernel_rfl) (fun _ _ _ h => h) (Or.inl ⟨by rfl, ?_⟩) (by assumption) ?_
                    rotate_left
                    · (intro W hSw; (try dsimp only at hSw); go_simp <;> with_reducible rfl)
                    try simp only [Act.put, List.setIfInBounds_toArray, List.set_cons_zero, List.set_cons_succ, List.getElem_toArray, List.getElem_cons_zero, List.getElem_cons_succ]
                    refine wpAnyH_take (i := 9) (v := ?_) rfl (by kernel_rfl) (by kernel_rfl) (by kernel_rfl) (fun _ _ _ h => h) (Or.inl ⟨by rfl, ?_⟩) (by assumption) ?_
                    rotate_left
                    · (intro W hSw; (try dsimp only at hSw); go_simp <;> with_reducible rfl)
                    try simp only [Act.put, List.setIfInBounds_toArray, List.set_cons_zero, List.set_cons_succ, List.getElem_toArray, List.getElem_cons_zero, List.getElem_cons_succ]
                    refine wpAnyH_take (i := 10) (v := ?_) rfl (by kernel_rfl) (by kernel_rfl) (by kernel_rfl) (fun _ _ _ h => h) (Or.inl ⟨by rfl, ?_⟩) (by assumption) ?_
                    rotate_left
                    · (intro W hSw; (try dsimp only at hSw); go_simp <;> with_reducible rfl)
                    try simp only [Act.put, List.setIfInBounds_toArray, List.set_cons_zero, List.set_cons_succ, List.getElem_toArray, List.getElem_cons_zero, List.getElem_cons_succ]
                    refine wpAnyH_take (i := 11) (v := ?_) rfl (by kernel_rfl) (by kernel_rfl) (by kernel_rfl) (fun _ _ _ h => h) (Or.inl ⟨by rfl, ?_⟩) (by assumption) ?_
                    rotate_left
                    · (intro W hSw; (try dsimp only at hSw); go_simp <;> with_reducible rfl)
                    try simp only [Act.put, List.setIfInBounds_toArray, List.set_cons_zero, List.set_cons_succ, List.getElem_toArray, List.getElem_cons_zero, List.getElem_cons_succ]
                    refine wpAnyH_take (i := 12) (v := ?_) rfl (by kernel_rfl) (by kernel_rfl) (by kernel_rfl) (fun _ _ _ h => h) (Or.inl ⟨by rfl, ?_⟩) (by assumption) ?_
                    rotate_left
                    · (intro W hSw; (try dsimp only at hSw); go_simp <;> with_reducible rfl)
                    try simp only [Act.put, List.setIfInBounds_toArray, List.set_cons_zero, List.set_cons_succ, List.getElem_toArray, List.getElem_cons_zero, List.getElem_cons_succ]
                    refine wpAnyH_take (i := 13) (v := ?_) rfl (by kernel_rfl) (by kernel_rfl) (by kernel_rfl) (fun _ _ _ h => h) (Or.inl ⟨by rfl, ?_⟩) (by assumption) ?_
                    rotate_left
                    · (intro W hSw; (try dsimp only at hSw); go_simp <;> with_reducible rfl)
                    try simp only [Act.put, List.setIfInBounds_toArray, List.set_cons_zero, List.set_cons_succ, List.getElem_toArray, List.getElem_cons_zero, List.getElem_cons_succ]
                    refine wpAnyH_take (i := 14) (v := ?_) rfl (by kernel_rfl) (by kernel_rfl) (by kernel_rfl) (fun _ _ _ h => h) (Or.inl ⟨by rfl, ?_⟩) (by assumption) ?_
                    rotate_left
                    · (intro W hSw; (try dsimp only at hSw); go_simp <;> with_reducible rfl)
                    try simp only [Act.put, List.setIfInBounds_toArray, List.set_cons_zero, List.set_cons_succ, List.getElem_toArray, List.getElem_cons_zero, List.getElem_cons_succ]
                    refine wpAnyH_take (i := 15) (v := ?_) rfl (by kernel_rfl) (by kernel_rfl) (by kernel_rfl) (fun _ _ _ h => h) (Or.inl ⟨by rfl, ?_⟩) (by assumption) ?_
                    rotate_left
                    · (intro W hSw; (try dsimp only at hSw); go_simp <;> with_reducible rfl)
                    try simp only [Act.put, List.setIfInBounds_toArray, List.set_cons_zero, List.set_cons_succ, List.getElem_toArray, List.getElem_cons_zero, List.getElem_cons_succ]
                    refine wpAnyH_take (i := 16) (v := ?_) rfl (by kernel_rfl) (by kernel_rfl) (by kernel_rfl) (fun _ _ _ h => h) (Or.inl ⟨by rfl, ?_⟩) (by assumption) ?_
                    rotate_left
                    · (intro W hSw; (try dsimp only at hSw); go_simp <;> with_reducible rfl)
                    try simp only [Act.put, List.setIfInBounds_toArray, List.set_cons_zero, List.set_cons_succ, List.getElem_toArray, List.getElem_cons_zero, List.getElem_cons_succ]
                    refine wpAnyH_take (i := 17) (v := ?_) rfl (by kernel_rfl) (by kernel_rfl) (by kernel_rfl) (fun _ _ _ h => h) (Or.inl ⟨by rfl, ?_⟩) (by assumption) ?_
                    rotate_left
                    · (intro W hSw; (try dsimp only at hSw); go_simp <;> with_reducible rfl)
                    try simp only [Act.put, List.setIfInBounds_toArray, List.set_cons_zero, List.set_cons_succ, List.getElem_toArray, List.getElem_cons_zero, List.getElem_cons_succ]
                    refine wpAnyH_take (i := 18) (v := ?_) rfl (by kernel_rfl) (by kernel_rfl) (by kernel_rfl) (fun _ _ _ h => h) (Or.inl ⟨by rfl, ?_⟩) (by assumption) ?_
                    rotate_left
                    · (intro W hSw; (try dsimp only at hSw); go_simp <;> with_reducible rfl)
                    try simp only [Act.put, List.setIfInBounds_toArray, List.set_cons_zero, List.set_cons_succ, List.getElem_toArray, List.getElem_cons_zero, List.getElem_cons_succ]
                    refine wpAnyH_take (i := 19) (v := ?_) rfl (by kernel_rfl) (by kernel_rfl) (by kernel_rfl) (fun _ _ _ h => h) (Or.inl ⟨by rfl, ?_⟩) (by assumption) ?_
                    rotate_left
                    · (intro W hSw; (try dsimp only at hSw); go_simp <;> with_reducible rfl)
                    try simp only [Act.put, List.setIfInBounds_toArray, List.set_cons_zero, List.set_cons_succ, List.getElem_toArray, List.getElem_cons_zero, List.getElem_cons_succ]
                    refine wpAnyH_take (i := 20) (v := ?_) rfl (by kernel_rfl) (by kernel_rfl) (by kernel_rfl) (fun _ _ _ h => h) (Or.inl ⟨by rfl, ?_⟩) (by assumption) ?_
                    rotate_left
                    · (intro W hSw; (try dsimp only at hSw); go_simp <;> with_reducible rfl)
                    try simp only [Act.put, List.setIfInBounds_toArray, List.set_cons_zero, List.set_cons_succ, List.getElem_toArray, List.getElem_cons_zero, List.getElem_cons_succ]
                    refine wpAnyH_ready (rs := [21]) (by kernel_rfl) (by simp) ?_
                    refine AllReadyH.cons rfl (fun K hK => ?_) AllReadyH.nil
                    try simp only [Act.put, List.setIfInBounds_toArray, List.set_cons_zero, List.set_cons_succ, List.getElem_toArray, List.getElem_cons_zero, List.getElem_cons_succ]
                    go_simp
                    (go_at_call 38; refine (C38 _ (by first | exact kk | exact kk.drew | exact kk.drew.drew)).mono ?_; rintro ee wz ⟨rfl, kz⟩; have kk : Keeps Nil wS wz := by first | exact kk.trans kz | exact kk.drew.trans kz | exact kk.drew.drew.trans kz)
                    (try go_wp2_with fail)
                    refine hK.out _ _ ?_ (fun hHeld => ?_)
                    · (try dsimp only); (first | exact HH.out _ kk | exact HH.out _ kk.drew | exact HH.out _ kk.drew.drew)
                    clear hK K
                    try simp only [Act.put, List.setIfInBounds_toArray, List.set_cons_zero, List.set_cons_succ, List.getElem_toArray, List.getElem_cons_zero, List.getElem_cons_succ]
                    refine wpAnyH_take (i := 22) (v := ?_) rfl (by kernel_rfl) (by kernel_rfl) (by kernel_rfl) (fun _ _ _ h => h) (Or.inl ⟨by rfl, ?_⟩) (by assumption) ?_
                    rotate_left
                    · (intro W hSw; (try dsimp only at hSw); go_simp <;> with_reducible rfl)
                    try simp only [Act.put, List.setIfInBounds_toArray, List.set_cons_zero, List.set_cons_succ, List.getElem_toArray, List.getElem_cons_zero, List.getElem_cons_succ]
                    refine wpAnyH_take (i := 23) (v := ?_) rfl (by kernel_rfl) (by kernel_rfl) (by kernel_rfl) (fun _ _ _ h => h) (Or.inl ⟨by rfl, ?_⟩) (by assumption) ?_
                    rotate_left
                    · (intro W hSw; (try dsimp only at hSw); go_simp <;> with_reducible rfl)
                    try simp only [Act.put, List.setIfInBounds_toArray, List.set_cons_zero, List.set_cons_succ, List.getElem_toArray, List.getElem_cons_zero, List.getElem_cons_succ]
                    refine wpAnyH_take (i := 24) (v := ?_) rfl (by kernel_rfl) (by kernel_rfl) (by kernel_rfl) (fun _ _ _ h => h) (Or.inl ⟨by rfl, ?_⟩) (by assumption) ?_
                    rotate_left
                    · (intro W hSw; (try dsimp only at hSw); go_simp <;> with_reducible rfl)
                    try simp only [Act.put, List.setIfInBounds_toArray, List.set_cons_zero, List.set_cons_succ, List.getElem_toArray, List.getElem_cons_zero, List.getElem_cons_succ]
                    refine wpAnyH_take (i := 25) (v := ?_) rfl (by kernel_rfl) (by kernel_rfl) (by kernel_rfl) (fun _ _ _ h => h) (Or.inl ⟨by rfl, ?_⟩) (by assumption) ?_
                    rotate_left
                    · (intro W hSw; (try dsimp only at hSw); go_simp <;> with_reducible rfl)
                    try simp only [Act.put, List.setIfInBounds_toArray, List.set_cons_zero, List.set_cons_succ, List.getElem_toArray, List.getElem_cons_zero, List.getElem_cons_succ]
                    refine wpAnyH_done (by kernel_rfl) ?_ _
                    have KK := hid kk
                    have hfin : res = _ := HLP.out.trans (LPS.out.trans (((if_neg D01.out).trans (if_neg (fun h => D2.out h.1))).trans ((if_pos ⟨HMB.out, HF.out⟩).trans (if_pos HQ.out))))
                    have HFIN : Hid (res = (x.port, !P)) := hid (hfin.trans (by simp [HFB.out, HTT.out, HPP.out]))
                    clear hfin
                    go_wp2_with fail
                    go_ret2
                    exact ⟨by rw [HFIN.out]; rfl, K1.out.trans (KS.out.trans (by first | exact KK.out | exact KK.out.drew))⟩
                  · have C38 : ∀ W, Keeps Nil wS W → Calls Try.prog 38 #[.slice (some ⟨b, o + (i + 1) * 10, Option.none⟩) (n - (i + 1)) (cap - (i + 1)), .slice (some ⟨b, o, Option.none⟩) (i + 1) cap] W fun e w' => e = .returned (.bool P) ∧ Keeps Nil W w' := fun W kW => by
                      have := pushed_any (some ⟨b, o + (i + 1) * 10, Option.none⟩) (some ⟨b, o, Option.none⟩) (n - (i + 1)) (cap - (i + 1)) (i + 1) cap (l.drop (i + 1)) (l.take (i + 1)) W (by omega) (by have := HN.out; simp only [List.length_drop]; omega)
                        (fun _ => ⟨b, _, rfl, Nat.lt_of_lt_of_le HBS.out kW.size, (HRS.out.keepN kW HBS.out).drops (by omega)⟩) (by omega) (by have := HN.out; simp only [List.length_take]; omega)
                        (fun _ => ⟨b, o, rfl, Nat.lt_of_lt_of_le HBS.out kW.size, (HRS.out.keepN kW HBS.out).takes (by omega)⟩)
                      rw [HPP.out] at this
                      exact this
                    have hcq : (cap = i + 1) = False := eq_false hce
                    clear hce
                    refine wp_region_held_drew (S := (fun X : World => (X.cell? ⟨bA, 0, Option.none⟩ = some (.int .u8 x.d) ∧ X.cell? ⟨bA, 1, Option.none⟩ = some (.int .u16 x.q.v) ∧ X.cell? ⟨bA, 2, Option.none⟩ = some (.int .u8 x.q.a) ∧ X.cell? ⟨bA, 3, Option.none⟩ = some (.int .u8 x.q.b) ∧ X.cell? ⟨bA, 4, Option.none⟩ = some (.int .u8 x.q.c) ∧ X.cell? ⟨bA, 5, Option.none⟩ = some (.int .u8 x.q.d) ∧ X.cell? ⟨bA, 6, Option.none⟩ = some (.int .u8 x.q.e) ∧ X.cell? ⟨bA, 7, Option.none⟩ = some (.int .u8 x.q.f) ∧ X.cell? ⟨bA, 8, Option.none⟩ = some (.int .u8 x.port) ∧ X.cell? ⟨bA, 9, Option.none⟩ = some (.int .u8 x.ports)) ∧ (X.cell? ⟨bX, 0, Option.none⟩ = some (.int .u16 x.q.v) ∧ X.cell? ⟨bX, 1, Option.none⟩ = some (.int .u8 x.q.a) ∧ X.cell? ⟨bX, 2, Option.none⟩ = some (.int .u8 x.q.b) ∧ X.cell? ⟨bX, 3, Option.none⟩ = some (.int .u8 x.q.c) ∧ X.cell? ⟨bX, 4, Option.none⟩ = some (.int .u8 x.q.d) ∧ X.cell? ⟨bX, 5, Option.none⟩ = some (.int .u8 x.q.e) ∧ X.cell? ⟨bX, 6, Option.none⟩ = some (.int .u8 x.q.f)) ∧ (X.cell? ⟨bK, 0, Option.none⟩ = some (.int .u16 key.v) ∧ X.cell? ⟨bK, 1, Option.none⟩ = some (.int .u8 key.a) ∧ X.cell? ⟨bK, 2, Option.none⟩ = some (.int .u8 key.b) ∧ X.cell? ⟨bK, 3, Option.none⟩ = some (.int .u8 key.c) ∧ X.cell? ⟨bK, 4, Option.none⟩ = some (.int .u8 key.d) ∧ X.cell? ⟨bK, 5, Option.none⟩ = some (.int .u8 key.e) ∧ X.cell? ⟨bK, 6, Option.none⟩ = some (.int .u8 key.f)))) (by kernel_rfl) ?_ (fun hHeld => ?_)
                    · (try dsimp only); (first | exact HH.out _ kk | exact HH.out _ kk.drew | exact HH.out _ kk.drew.drew)
                    refine wpAnyH_take (i := 0) (v := ?_) rfl (by kernel_rfl) (by kernel_rfl) (by kernel_rfl) (fun _ _ _ h => h) (Or.inl ⟨by rfl, ?_⟩) (by assumption) ?_
                    rotate_left
                    · (intro W hSw; (try dsimp only at hSw); go_simp <;> with_reducible rfl)
                    try simp only [Act.put, List.setIfInBounds_toArray, List.set_cons_zero, List.set_cons_succ, List.getElem_toArray, List.getElem_cons_zero, List.getElem_cons_succ]
                    refine wpAnyH_take (i := 1) (v := ?_) rfl (by kernel_rfl) (by kernel_rfl) (by kernel_rfl) (fun _ _ _ h => h) (Or.inl ⟨by rfl, ?_⟩) (by assumption) ?_
                    rotate_left
                    · (intro W hSw; (try dsimp only at hSw); go_simp <;> with_reducible rfl)
                    try simp only [Act.put, List.setIfInBounds_toArray, List.set_cons_zero, List.set_cons_succ, List.getElem_toArray, List.getElem_cons_zero, List.getElem_cons_succ]
                    refine wpAnyH_take (i := 2) (v := ?_) rfl (by kernel_rfl) (by kernel_rfl) (by kernel_rfl) (fun _ _ _ h => h) (Or.inl ⟨by rfl, ?_⟩) (by assumption) ?_
                    rotate_left
                    · (intro W hSw; (try dsimp only at hSw); go_simp <;> with_reducible rfl)
                    try simp only [Act.put, List.setIfInBounds_toArray, List.set_cons_zero, List.set_cons_succ, List.getElem_toArray, List.getElem_cons_zero, List.getElem_cons_succ]
                    refine wpAnyH_take (i := 3) (v := ?_) rfl (by kernel_rfl) (by kernel_rfl) (by kernel_rfl) (fun _ _ _ h => h) (Or.inl ⟨by rfl, ?_⟩) (by assumption) ?_
                    rotate_left
                    · (intro W hSw; (try dsimp only at hSw); go_simp <;> with_reducible rfl)
                    try simp only [Act.put, List.setIfInBounds_toArray, List.set_cons_zero, List.set_cons_succ, List.getElem_toArray, List.getElem_cons_zero, List.getElem_cons_succ]
                    refine wpAnyH_take (i := 4) (v := ?_) rfl (by kernel_rfl) (by kernel_rfl) (by kernel_rfl) (fun _ _ _ h => h) (Or.inl ⟨by rfl, ?_⟩) (by assumption) ?_
                    rotate_left
                    · (intro W hSw; (try dsimp only at hSw); go_simp <;> with_reducible rfl)
                    try simp only [Act.put, List.setIfInBounds_toArray, List.set_cons_zero, List.set_cons_succ, List.getElem_toArray, List.getElem_cons_zero, List.getElem_cons_succ]
                    refine wpAnyH_take (i := 5) (v := ?_) rfl (by kernel_rfl) (by kernel_rfl) (by kernel_rfl) (fun _ _ _ h => h) (Or.inl ⟨by rfl, ?_⟩) (by assumption) ?_
                    rotate_left
                    · (intro W hSw; (try dsimp only at hSw); go_simp <;> with_reducible rfl)
                    try simp only [Act.put, List.setIfInBounds_toArray, List.set_cons_zero, List.set_cons_succ, List.getElem_toArray, List.getElem_cons_zero, List.getElem_cons_succ]
                    refine wpAnyH_take (i := 6) (v := ?_) rfl (by kernel_rfl) (by kernel_rfl) (by kernel_rfl) (fun _ _ _ h => h) (Or.inl ⟨by rfl, ?_⟩) (by assumption) ?_
                    rotate_left
                    · (intro W hSw; (try dsimp only at hSw); go_simp <;> with_reducible rfl)
                    try simp only [Act.put, List.setIfInBounds_toArray, List.set_cons_zero, List.set_cons_succ, List.getElem_toArray, List.getElem_cons_zero, List.getElem_cons_succ]
                    refine wpAnyH_take (i := 7) (v := ?_) rfl (by kernel_rfl) (by kernel_rfl) (by kernel_rfl) (fun _ _ _ h => h) (Or.inl ⟨by rfl, ?_⟩) (by assumption) ?_
                    rotate_left
                    · (intro W hSw; (try dsimp only at hSw); go_simp <;> with_reducible rfl)
                    try simp only [Act.put, List.setIfInBounds_toArray, List.set_cons_zero, List.set_cons_succ, List.getElem_toArray, List.getElem_cons_zero, List.getElem_cons_succ]
                    refine wpAnyH_take (i := 8) (v := ?_) rfl (by kernel_rfl) (by kernel_rfl) (by kernel_rfl) (fun _ _ _ h => h) (Or.inl ⟨by rfl, ?_⟩) (by assumption) ?_
                    rotate_left
                    · (intro W hSw; (try dsimp only at hSw); go_simp <;> with_reducible rfl)
                    try simp only [Act.put, List.setIfInBounds_toArray, List.set_cons_zero, List.set_cons_succ, List.getElem_toArray, List.getElem_cons_zero, List.getElem_cons_succ]
                    refine wpAnyH_take (i := 9) (v := ?_) rfl (by kernel_rfl) (by kernel_rfl) (by kernel_rfl) (fun _ _ _ h => h) (Or.inl ⟨by rfl, ?_⟩) (by assumption) ?_
                    rotate_left
                    · (intro W hSw; (try dsimp only at hSw); go_simp <;> with_reducible rfl)
                    try simp only [Act.put, List.setIfInBounds_toArray, List.set_cons_zero, List.set_cons_succ, List.getElem_toArray, List.getElem_cons_zero, List.getElem_cons_succ]
                    refine wpAnyH_take (i := 10) (v := ?_) rfl (by kernel_rfl) (by kernel_rfl) (by kernel_rfl) (fun _ _ _ h => h) (Or.inl ⟨by rfl, ?_⟩) (by assumption) ?_
                    rotate_left
                    · (intro W hSw; (try dsimp only at hSw); go_simp <;> with_reducible rfl)
                    try simp only [Act.put, List.setIfInBounds_toArray, List.set_cons_zero, List.set_cons_succ, List.getElem_toArray, List.getElem_cons_zero, List.getElem_cons_succ]
                    refine wpAnyH_take (i := 11) (v := ?_) rfl (by kernel_rfl) (by kernel_rfl) (by kernel_rfl) (fun _ _ _ h => h) (Or.inl ⟨by rfl, ?_⟩) (by assumption) ?_
                    rotate_left
                    · (intro W hSw; (try dsimp only at hSw); go_simp <;> with_reducible rfl)
                    try simp only [Act.put, List.setIfInBounds_toArray, List.set_cons_zero, List.set_cons_succ, List.getElem_toArray, List.getElem_cons_zero, List.getElem_cons_succ]
                    refine wpAnyH_take (i := 12) (v := ?_) rfl (by kernel_rfl) (by kernel_rfl) (by kernel_rfl) (fun _ _ _ h => h) (Or.inl ⟨by rfl, ?_⟩) (by assumption) ?_
                    rotate_left
                    · (intro W hSw; (try dsimp only at hSw); go_simp <;> with_reducible rfl)
                    try simp only [Act.put, List.setIfInBounds_toArray, List.set_cons_zero, List.set_cons_succ, List.getElem_toArray, List.getElem_cons_zero, List.getElem_cons_succ]
                    refine wpAnyH_take (i := 13) (v := ?_) rfl (by kernel_rfl) (by kernel_rfl) (by kernel_rfl) (fun _ _ _ h => h) (Or.inl ⟨by rfl, ?_⟩) (by assumption) ?_
                    rotate_left
                    · (intro W hSw; (try dsimp only at hSw); go_simp <;> with_reducible rfl)
                    try simp only [Act.put, List.setIfInBounds_toArray, List.set_cons_zero, List.set_cons_succ, List.getElem_toArray, List.getElem_cons_zero, List.getElem_cons_succ]
                    refine wpAnyH_take (i := 14) (v := ?_) rfl (by kernel_rfl) (by kernel_rfl) (by kernel_rfl) (fun _ _ _ h => h) (Or.inl ⟨by rfl, ?_⟩) (by assumption) ?_
                    rotate_left
                    · (intro W hSw; (try dsimp only at hSw); go_simp <;> with_reducible rfl)
                    try simp only [Act.put, List.setIfInBounds_toArray, List.set_cons_zero, List.set_cons_succ, List.getElem_toArray, List.getElem_cons_zero, List.getElem_cons_succ]
                    refine wpAnyH_take (i := 15) (v := ?_) rfl (by kernel_rfl) (by kernel_rfl) (by kernel_rfl) (fun _ _ _ h => h) (Or.inl ⟨by rfl, ?_⟩) (by assumption) ?_
                    rotate_left
                    · (intro W hSw; (try dsimp only at hSw); go_simp <;> with_reducible rfl)
                    try simp only [Act.put, List.setIfInBounds_toArray, List.set_cons_zero, List.set_cons_succ, List.getElem_toArray, List.getElem_cons_zero, List.getElem_cons_succ]
                    refine wpAnyH_take (i := 16) (v := ?_) rfl (by kernel_rfl) (by kernel_rfl) (by kernel_rfl) (fun _ _ _ h => h) (Or.inl ⟨by rfl, ?_⟩) (by assumption) ?_
                    rotate_left
                    · (intro W hSw; (try dsimp only at hSw); go_simp <;> with_reducible rfl)
                    try simp only [Act.put, List.setIfInBounds_toArray, List.set_cons_zero, List.set_cons_succ, List.getElem_toArray, List.getElem_cons_zero, List.getElem_cons_succ]
                    refine wpAnyH_take (i := 17) (v := ?_) rfl (by kernel_rfl) (by kernel_rfl) (by kernel_rfl) (fun _ _ _ h => h) (Or.inl ⟨by rfl, ?_⟩) (by assumption) ?_
                    rotate_left
                    · (intro W hSw; (try dsimp only at hSw); go_simp <;> with_reducible rfl)
                    try simp only [Act.put, List.setIfInBounds_toArray, List.set_cons_zero, List.set_cons_succ, List.getElem_toArray, List.getElem_cons_zero, List.getElem_cons_succ]
                    refine wpAnyH_take (i := 18) (v := ?_) rfl (by kernel_rfl) (by kernel_rfl) (by kernel_rfl) (fun _ _ _ h => h) (Or.inl ⟨by rfl, ?_⟩) (by assumption) ?_
                    rotate_left
                    · (intro W hSw; (try dsimp only at hSw); go_simp <;> with_reducible rfl)
                    try simp only [Act.put, List.setIfInBounds_toArray, List.set_cons_zero, List.set_cons_succ, List.getElem_toArray, List.getElem_cons_zero, List.getElem_cons_succ]
                    refine wpAnyH_take (i := 19) (v := ?_) rfl (by kernel_rfl) (by kernel_rfl) (by kernel_rfl) (fun _ _ _ h => h) (Or.inl ⟨by rfl, ?_⟩) (by assumption) ?_
                    rotate_left
                    · (intro W hSw; (try dsimp only at hSw); go_simp <;> with_reducible rfl)
                    try simp only [Act.put, List.setIfInBounds_toArray, List.set_cons_zero, List.set_cons_succ, List.getElem_toArray, List.getElem_cons_zero, List.getElem_cons_succ]
                    refine wpAnyH_take (i := 20) (v := ?_) rfl (by kernel_rfl) (by kernel_rfl) (by kernel_rfl) (fun _ _ _ h => h) (Or.inl ⟨by rfl, ?_⟩) (by assumption) ?_
                    rotate_left
                    · (intro W hSw; (try dsimp only at hSw); go_simp <;> with_reducible rfl)
                    try simp only [Act.put, List.setIfInBounds_toArray, List.set_cons_zero, List.set_cons_succ, List.getElem_toArray, List.getElem_cons_zero, List.getElem_cons_succ]
                    refine wpAnyH_ready (rs := [21]) (by kernel_rfl) (by simp) ?_
                    refine AllReadyH.cons rfl (fun K hK => ?_) AllReadyH.nil
                    try simp only [Act.put, List.setIfInBounds_toArray, List.set_cons_zero, List.set_cons_succ, List.getElem_toArray, List.getElem_cons_zero, List.getElem_cons_succ]
                    go_simp
                    (go_at_call 38; refine (C38 _ (by first | exact kk | exact kk.drew | exact kk.drew.drew)).mono ?_; rintro ee wz ⟨rfl, kz⟩; have kk : Keeps Nil wS wz := by first | exact kk.trans kz | exact kk.drew.trans kz | exact kk.drew.drew.trans kz)
                    (try go_wp2_with fail)
                    refine hK.out _ _ ?_ (fun hHeld => ?_)
                    · (try dsimp only); (first | exact HH.out _ kk | exact HH.out _ kk.drew | exact HH.out _ kk.drew.drew)
                    clear hK K
                    try simp only [Act.put, List.setIfInBounds_toArray, List.set_cons_zero, List.set_cons_succ, List.getElem_toArray, List.getElem_cons_zero, List.getElem_cons_succ]
                    refine wpAnyH_take (i := 22) (v := ?_) rfl (by kernel_rfl) (by kernel_rfl) (by kernel_rfl) (fun _ _ _ h => h) (Or.inl ⟨by rfl, ?_⟩) (by assumption) ?_
                    rotate_left
                    · (intro W hSw; (try dsimp only at hSw); go_simp <;> with_reducible rfl)
                    try simp only [Act.put, List.setIfInBounds_toArray, List.set_cons_zero, List.set_cons_succ, List.getElem_toArray, List.getElem_cons_zero, List.getElem_cons_succ]
                    refine wpAnyH_take (i := 23) (v := ?_) rfl (by kernel_rfl) (by kernel_rfl) (by kernel_rfl) (fun _ _ _ h => h) (Or.inl ⟨by rfl, ?_⟩) (by assumption) ?_
                    rotate_left
                    · (intro W hSw; (try dsimp only at hSw); go_simp <;> with_reducible rfl)
                    try simp only [Act.put, List.setIfInBounds_toArray, List.set_cons_zero, List.set_cons_succ, List.getElem_toArray, List.getElem_cons_zero, List.getElem_cons_succ]
                    refine wpAnyH_take (i := 24) (v := ?_) rfl (by kernel_rfl) (by kernel_rfl) (by kernel_rfl) (fun _ _ _ h => h) (Or.inl ⟨by rfl, ?_⟩) (by assumption) ?_
                    rotate_left
                    · (intro W hSw; (try dsimp only at hSw); go_simp <;> with_reducible rfl)
                    try simp only [Act.put, List.setIfInBounds_toArray, List.set_cons_zero, List.set_cons_succ, List.getElem_toArray, List.getElem_cons_zero, List.getElem_cons_succ]
                    refine wpAnyH_take (i := 25) (v := ?_) rfl (by kernel_rfl) (by kernel_rfl) (by kernel_rfl) (fun _ _ _ h => h) (Or.inl ⟨by rfl, ?_⟩) (by assumption) ?_
                    rotate_left
                    · (intro W hSw; (try dsimp only at hSw); go_simp <;> with_reducible rfl)
                    try simp only [Act.put, List.setIfInBounds_toArray, List.set_cons_zero, List.set_cons_succ, List.getElem_toArray, List.getElem_cons_zero, List.getElem_cons_succ]
                    refine wpAnyH_done (by kernel_rfl) ?_ _
                    have KK := hid kk
                    have hfin : res = _ := HLP.out.trans (LPS.out.trans (((if_neg D01.out).trans (if_neg (fun h => D2.out h.1))).trans ((if_pos ⟨HMB.out, HF.out⟩).trans (if_pos HQ.out))))
                    have HFIN : Hid (res = (x.port, !P)) := hid (hfin.trans (by simp [HFB.out, HTT.out, HPP.out]))
                    clear hfin
                    go_wp2_with fail
                    go_ret2
                    exact ⟨by rw [HFIN.out]; rfl, K1.out.trans (KS.out.trans (by first | exact KK.out | exact KK.out.drew))⟩
              · have HTT := hid ht
                have htt : decide (T < 40) = false := decide_eq_false ht
                clear ht
                refine wp_region_held_drew (S := (fun X : World => (X.cell? ⟨bA, 0, Option.none⟩ = some (.int .u8 x.d) ∧ X.cell? ⟨bA, 1, Option.none⟩ = some (.int .u16 x.q.v) ∧ X.cell? ⟨bA, 2, Option.none⟩ = some (.int .u8 x.q.a) ∧ X.cell? ⟨bA, 3, Option.none⟩ = some (.int .u8 x.q.b) ∧ X.cell? ⟨bA, 4, Option.none⟩ = some (.int .u8 x.q.c) ∧ X.cell? ⟨bA, 5, Option.none⟩ = some (.int .u8 x.q.d) ∧ X.cell? ⟨bA, 6, Option.none⟩ = some (.int .u8 x.q.e) ∧ X.cell? ⟨bA, 7, Option.none⟩ = some (.int .u8 x.q.f) ∧ X.cell? ⟨bA, 8, Option.none⟩ = some (.int .u8 x.port) ∧ X.cell? ⟨bA, 9, Option.none⟩ = some (.int .u8 x.ports)) ∧ (X.cell? ⟨bX, 0, Option.none⟩ = some (.int .u16 x.q.v) ∧ X.cell? ⟨bX, 1, Option.none⟩ = some (.int .u8 x.q.a) ∧ X.cell? ⟨bX, 2, Option.none⟩ = some (.int .u8 x.q.b) ∧ X.cell? ⟨bX, 3, Option.none⟩ = some (.int .u8 x.q.c) ∧ X.cell? ⟨bX, 4, Option.none⟩ = some (.int .u8 x.q.d) ∧ X.cell? ⟨bX, 5, Option.none⟩ = some (.int .u8 x.q.e) ∧ X.cell? ⟨bX, 6, Option.none⟩ = some (.int .u8 x.q.f)) ∧ (X.cell? ⟨bK, 0, Option.none⟩ = some (.int .u16 key.v) ∧ X.cell? ⟨bK, 1, Option.none⟩ = some (.int .u8 key.a) ∧ X.cell? ⟨bK, 2, Option.none⟩ = some (.int .u8 key.b) ∧ X.cell? ⟨bK, 3, Option.none⟩ = some (.int .u8 key.c) ∧ X.cell? ⟨bK, 4, Option.none⟩ = some (.int .u8 key.d) ∧ X.cell? ⟨bK, 5, Option.none⟩ = some (.int .u8 key.e) ∧ X.cell? ⟨bK, 6, Option.none⟩ = some (.int .u8 key.f)))) (by kernel_rfl) ?_ (fun hHeld => ?_)
                · (try dsimp only); (first | exact HH.out _ kk | exact HH.out _ kk.drew | exact HH.out _ kk.drew.drew)
                refine wpAnyH_take (i := 0) (v := ?_) rfl (by kernel_rfl) (by kernel_rfl) (by kernel_rfl) (fun _ _ _ h => h) (Or.inl ⟨by rfl, ?_⟩) (by assumption) ?_
                rotate_left
                · (intro W hSw; (try dsimp only at hSw); go_simp <;> with_reducible rfl)
                try simp only [Act.put, List.setIfInBounds_toArray, List.set_cons_zero, List.set_cons_succ, List.getElem_toArray, List.getElem_cons_zero, List.getElem_cons_succ]
                refine wpAnyH_take (i := 1) (v := ?_) rfl (by kernel_rfl) (by kernel_rfl) (by kernel_rfl) (fun _ _ _ h => h) (Or.inl ⟨by rfl, ?_⟩) (by assumption) ?_
                rotate_left
                · (intro W hSw; (try dsimp only at hSw); go_simp <;> with_reducible rfl)
                try simp only [Act.put, List.setIfInBounds_toArray, List.set_cons_zero, List.set_cons_succ, List.getElem_toArray, List.getElem_cons_zero, List.getElem_cons_succ]
                refine wpAnyH_take (i := 2) (v := ?_) rfl (by kernel_rfl) (by kernel_rfl) (by kernel_rfl) (fun _ _ _ h => h) (Or.inl ⟨by rfl, ?_⟩) (by assumption) ?_
                rotate_left
                · (intro W hSw; (try dsimp only at hSw); go_simp <;> with_reducible rfl)
                try simp only [Act.put, List.setIfInBounds_toArray, List.set_cons_zero, List.set_cons_succ, List.getElem_toArray, List.getElem_cons_zero, List.getElem_cons_succ]
                refine wpAnyH_take (i := 3) (v := ?_) rfl (by kernel_rfl) (by kernel_rfl) (by kernel_rfl) (fun _ _ _ h => h) (Or.inl ⟨by rfl, ?_⟩) (by assumption) ?_
                rotate_left
                · (intro W hSw; (try dsimp only at hSw); go_simp <;> with_reducible rfl)
                try simp only [Act.put, List.setIfInBounds_toArray, List.set_cons_zero, List.set_cons_succ, List.getElem_toArray, List.getElem_cons_zero, List.getElem_cons_succ]
                refine wpAnyH_take (i := 4) (v := ?_) rfl (by kernel_rfl) (by kernel_rfl) (by kernel_rfl) (fun _ _ _ h => h) (Or.inl ⟨by rfl, ?_⟩) (by assumption) ?_
                rotate_left
                · (intro W hSw; (try dsimp only at hSw); go_simp <;> with_reducible rfl)
                try simp only [Act.put, List.setIfInBounds_toArray, List.set_cons_zero, List.set_cons_succ, List.getElem_toArray, List.getElem_cons_zero, List.getElem_cons_succ]
                refine wpAnyH_take (i := 5) (v := undef) rfl (by kernel_rfl) (by kernel_rfl) (by kernel_rfl) (fun _ _ _ h => h) (Or.inr ⟨by rfl, rfl⟩) (by assumption) ?_
                try simp only [Act.put, List.setIfInBounds_toArray, List.set_cons_zero, List.set_cons_succ, List.getElem_toArray, List.getElem_cons_zero, List.getElem_cons_succ]
                refine wpAnyH_take (i := 6) (v := undef) rfl (by kernel_rfl) (by kernel_rfl) (by kernel_rfl) (fun _ _ _ h => h) (Or.inr ⟨by rfl, rfl⟩) (by assumption) ?_
                try simp only [Act.put, List.setIfInBounds_toArray, List.set_cons_zero, List.set_cons_succ, List.getElem_toArray, List.getElem_cons_zero, List.getElem_cons_succ]
                refine wpAnyH_take (i := 7) (v := undef) rfl (by kernel_rfl) (by kernel_rfl) (by kernel_rfl) (fun _ _ _ h => h) (Or.inr ⟨by rfl, rfl⟩) (by assumption) ?_
                try simp only [Act.put, List.setIfInBounds_toArray, List.set_cons_zero, List.set_cons_succ, List.getElem_toArray, List.getElem_cons_zero, List.getElem_cons_succ]
                refine wpAnyH_take (i := 8) (v := undef) rfl (by kernel_rfl) (by kernel_rfl) (by kernel_rfl) (fun _ _ _ h => h) (Or.inr ⟨by rfl, rfl⟩) (by assumption) ?_
                try simp only [Act.put, List.setIfInBounds_toArray, List.set_cons_zero, List.set_cons_succ, List.getElem_toArray, List.getElem_cons_zero, List.getElem_cons_succ]
                refine wpAnyH_take (i := 9) (v := undef) rfl (by kernel_rfl) (by kernel_rfl) (by kernel_rfl) (fun _ _ _ h => h) (Or.inr ⟨by rfl, rfl⟩) (by assumption) ?_
                try simp only [Act.put, List.setIfInBounds_toArray, List.set_cons_zero, List.set_cons_succ, List.getElem_toArray, List.getElem_cons_zero, List.getElem_cons_succ]
                refine wpAnyH_take (i := 10) (v := undef) rfl (by kernel_rfl) (by kernel_rfl) (by kernel_rfl) (fun _ _ _ h => h) (Or.inr ⟨by rfl, rfl⟩) (by assumption) ?_
                try simp only [Act.put, List.setIfInBounds_toArray, List.set_cons_zero, List.set_cons_succ, List.getElem_toArray, List.getElem_cons_zero, List.getElem_cons_succ]
                refine wpAnyH_take (i := 11) (v := ?_) rfl (by kernel_rfl) (by kernel_rfl) (by kernel_rfl) (fun _ _ _ h => h) (Or.inl ⟨by rfl, ?_⟩) (by assumption) ?_
                rotate_left
                · (intro W hSw; (try dsimp only at hSw); go_simp <;> with_reducible rfl)
                try simp only [Act.put, List.setIfInBounds_toArray, List.set_cons_zero, List.set_cons_succ, List.getElem_toArray, List.getElem_cons_zero, List.getElem_cons_succ]
                refine wpAnyH_take (i := 12) (v := ?_) rfl (by kernel_rfl) (by kernel_rfl) (by kernel_rfl) (fun _ _ _ h => h) (Or.inl ⟨by rfl, ?_⟩) (by assumption) ?_
                rotate_left
                · (intro W hSw; (try dsimp only at hSw); go_simp <;> with_reducible rfl)
                try simp only [Act.put, List.setIfInBounds_toArray, List.set_cons_zero, List.set_cons_succ, List.getElem_toArray, List.getElem_cons_zero, List.getElem_cons_succ]
                refine wpAnyH_take (i := 13) (v := undef) rfl (by kernel_rfl) (by kernel_rfl) (by kernel_rfl) (fun _ _ _ h => h) (Or.inr ⟨by rfl, rfl⟩) (by assumption) ?_
                try simp only [Act.put, List.setIfInBounds_toArray, List.set_cons_zero, List.set_cons_succ, List.getElem_toArray, List.getElem_cons_zero, List.getElem_cons_succ]
                refine wpAnyH_take (i := 14) (v := undef) rfl (by kernel_rfl) (by kernel_rfl) (by kernel_rfl) (fun _ _ _ h => h) (Or.inr ⟨by rfl, rfl⟩) (by assumption) ?_
                try simp only [Act.put, List.setIfInBounds_toArray, List.set_cons_zero, List.set_cons_succ, List.getElem_toArray, List.getElem_cons_zero, List.getElem_cons_succ]
                refine wpAnyH_take (i := 15) (v := undef) rfl (by kernel_rfl) (by kernel_rfl) (by kernel_rfl) (fun _ _ _ h => h) (Or.inr ⟨by rfl, rfl⟩) (by assumption) ?_
                try simp only [Act.put, List.setIfInBounds_toArray, List.set_cons_zero, List.set_cons_succ, List.getElem_toArray, List.getElem_cons_zero, List.getElem_cons_succ]
                refine wpAnyH_take (i := 16) (v := undef) rfl (by kernel_rfl) (by kernel_rfl) (by kernel_rfl) (fun _ _ _ h => h) (Or.inr ⟨by rfl, rfl⟩) (by assumption) ?_
                try simp only [Act.put, List.setIfInBounds_toArray, List.set_cons_zero, List.set_cons_succ, List.getElem_toArray, List.getElem_cons_zero, List.getElem_cons_succ]
                refine wpAnyH_take (i := 17) (v := undef) rfl (by kernel_rfl) (by kernel_rfl) (by kernel_rfl) (fun _ _ _ h => h) (Or.inr ⟨by rfl, rfl⟩) (by assumption) ?_
                try simp only [Act.put, List.setIfInBounds_toArray, List.set_cons_zero, List.set_cons_succ, List.getElem_toArray, List.getElem_cons_zero, List.getElem_cons_succ]
                refine wpAnyH_take (i := 18) (v := undef) rfl (by kernel_rfl) (by kernel_rfl) (by kernel_rfl) (fun _ _ _ h => h) (Or.inr ⟨by rfl, rfl⟩) (by assumption) ?_
                try simp only [Act.put, List.setIfInBounds_toArray, List.set_cons_zero, List.set_cons_succ, List.getElem_toArray, List.getElem_cons_zero, List.getElem_cons_succ]
                refine wpAnyH_take (i := 19) (v := undef) rfl (by kernel_rfl) (by kernel_rfl) (by kernel_rfl) (fun _ _ _ h => h) (Or.inr ⟨by rfl, rfl⟩) (by assumption) ?_
                try simp only [Act.put, List.setIfInBounds_toArray, List.set_cons_zero, List.set_cons_succ, List.getElem_toArray, List.getElem_cons_zero, List.getElem_cons_succ]
                refine wpAnyH_take (i := 20) (v := undef) rfl (by kernel_rfl) (by kernel_rfl) (by kernel_rfl) (fun _ _ _ h => h) (Or.inr ⟨by rfl, rfl⟩) (by assumption) ?_
                try simp only [Act.put, List.setIfInBounds_toArray, List.set_cons_zero, List.set_cons_succ, List.getElem_toArray, List.getElem_cons_zero, List.getElem_cons_succ]
                refine wpAnyH_take (i := 21) (v := undef) rfl (by kernel_rfl) (by kernel_rfl) (by kernel_rfl) (fun _ _ _ h => h) (Or.inr ⟨by rfl, rfl⟩) (by assumption) ?_
                try simp only [Act.put, List.setIfInBounds_toArray, List.set_cons_zero, List.set_cons_succ, List.getElem_toArray, List.getElem_cons_zero, List.getElem_cons_succ]
                refine wpAnyH_take (i := 22) (v := undef) rfl (by kernel_rfl) (by kernel_rfl) (by kernel_rfl) (fun _ _ _ h => h) (Or.inr ⟨by rfl, rfl⟩) (by assumption) ?_
                try simp only [Act.put, List.setIfInBounds_toArray, List.set_cons_zero, List.set_cons_succ, List.getElem_toArray, List.getElem_cons_zero, List.getElem_cons_succ]
                refine wpAnyH_take (i := 23) (v := ?_) rfl (by kernel_rfl) (by kernel_rfl) (by kernel_rfl) (fun _ _ _ h => h) (Or.inl ⟨by rfl, ?_⟩) (by assumption) ?_
                rotate_left
                · (intro W hSw; (try dsimp only at hSw); go_simp <;> with_reducible rfl)
                try simp only [Act.put, List.setIfInBounds_toArray, List.set_cons_zero, List.set_cons_succ, List.getElem_toArray, List.getElem_cons_zero, List.getElem_cons_succ]
                refine wpAnyH_take (i := 24) (v := ?_) rfl (by kernel_rfl) (by kernel_rfl) (by kernel_rfl) (fun _ _ _ h => h) (Or.inl ⟨by rfl, ?_⟩) (by assumption) ?_
                rotate_left
                · (intro W hSw; (try dsimp only at hSw); go_simp <;> with_reducible rfl)
                try simp only [Act.put, List.setIfInBounds_toArray, List.set_cons_zero, List.set_cons_succ, List.getElem_toArray, List.getElem_cons_zero, List.getElem_cons_succ]
                refine wpAnyH_take (i := 25) (v := ?_) rfl (by kernel_rfl) (by kernel_rfl) (by kernel_rfl) (fun _ _ _ h => h) (Or.inl ⟨by rfl, ?_⟩) (by assumption) ?_
                rotate_left
                · (intro W hSw; (try dsimp only at hSw); go_simp <;> with_reducible rfl)
                try simp only [Act.put, List.setIfInBounds_toArray, List.set_cons_zero, List.set_cons_succ, List.getElem_toArray, List.getElem_cons_zero, List.getElem_cons_succ]
                refine wpAnyH_done (by kernel_rfl) ?_ _
                have KK := hid kk
                have hfin : res = _ := HLP.out.trans (LPS.out.trans (((if_neg D01.out).trans (if_neg (fun h => D2.out h.1))).trans ((if_pos ⟨HMB.out, HF.out⟩).trans (if_pos HQ.out))))
                have HFIN : Hid (res = (x.port, false)) := hid (hfin.trans (by simp [HTT.out]))
                clear hfin
                go_wp2_with fail
                go_ret2
                exact ⟨by rw [HFIN.out]; rfl, K1.out.trans (KS.out.trans (by first | exact KK.out | exact KK.out.drew))⟩
            · have hE : ∀ W, (binOp .eql 57 (.agg #[.int .u16 x.q.v, .int .u8 x.q.a, .int .u8 x.q.b, .int .u8 x.q.c, .int .u8 x.q.d, .int .u8 x.q.e, .int .u8 x.q.f]) (.agg #[.int .u16 key.v, .int .u8 key.a, .int .u8 key.b, .int .u8 key.c, .int .u8 key.d, .int .u8 key.e, .int .u8 key.f])).run Try.prog W = .ok (.bool false) W := fun W => (eql57 x.q key HXO.out.2.1 HKO.out false (decide_eq_false hq) W).1
              have hE2 : ∀ W, (Op.equalIn 10000 57 (.agg #[.int .u16 x.q.v, .int .u8 x.q.a, .int .u8 x.q.b, .int .u8 x.q.c, .int .u8 x.q.d, .int .u8 x.q.e, .int .u8 x.q.f]) (.agg #[.int .u16 key.v, .int .u8 key.a, .int .u8 key.b, .int .u8 key.c, .int .u8 key.d, .int .u8 key.e, .int .u8 key.f])).run Try.prog W = .ok false W := fun W => (eql57 x.q key HXO.out.2.1 HKO.out false (decide_eq_false hq) W).2
              have HQ := hid hq
              clear hq
              go_wp2_with fail
              refine wp_region_held_drew (S := (fun X : World => (X.cell? ⟨bA, 0, Option.none⟩ = some (.int .u8 x.d) ∧ X.cell? ⟨bA, 1, Option.none⟩ = some (.int .u16 x.q.v) ∧ X.cell? ⟨bA, 2, Option.none⟩ = some (.int .u8 x.q.a) ∧ X.cell? ⟨bA, 3, Option.none⟩ = some (.int .u8 x.q.b) ∧ X.cell? ⟨bA, 4, Option.none⟩ = some (.int .u8 x.q.c) ∧ X.cell? ⟨bA, 5, Option.none⟩ = some (.int .u8 x.q.d) ∧ X.cell? ⟨bA, 6, Option.none⟩ = some (.int .u8 x.q.e) ∧ X.cell? ⟨bA, 7, Option.none⟩ = some (.int .u8 x.q.f) ∧ X.cell? ⟨bA, 8, Option.none⟩ = some (.int .u8 x.port) ∧ X.cell? ⟨bA, 9, Option.none⟩ = some (.int .u8 x.ports)) ∧ (X.cell? ⟨bX, 0, Option.none⟩ = some (.int .u16 x.q.v) ∧ X.cell? ⟨bX, 1, Option.none⟩ = some (.int .u8 x.q.a) ∧ X.cell? ⟨bX, 2, Option.none⟩ = some (.int .u8 x.q.b) ∧ X.cell? ⟨bX, 3, Option.none⟩ = some (.int .u8 x.q.c) ∧ X.cell? ⟨bX, 4, Option.none⟩ = some (.int .u8 x.q.d) ∧ X.cell? ⟨bX, 5, Option.none⟩ = some (.int .u8 x.q.e) ∧ X.cell? ⟨bX, 6, Option.none⟩ = some (.int .u8 x.q.f)) ∧ (X.cell? ⟨bK, 0, Option.none⟩ = some (.int .u16 key.v) ∧ X.cell? ⟨bK, 1, Option.none⟩ = some (.int .u8 key.a) ∧ X.cell? ⟨bK, 2, Option.none⟩ = some (.int .u8 key.b) ∧ X.cell? ⟨bK, 3, Option.none⟩ = some (.int .u8 key.c) ∧ X.cell? ⟨bK, 4, Option.none⟩ = some (.int .u8 key.d) ∧ X.cell? ⟨bK, 5, Option.none⟩ = some (.int .u8 key.e) ∧ X.cell? ⟨bK, 6, Option.none⟩ = some (.int .u8 key.f)))) (by kernel_rfl) ?_ (fun hHeld => ?_)
              · (try dsimp only); (first | exact HH.out _ kk | exact HH.out _ kk.drew | exact HH.out _ kk.drew.drew)
              refine wpAnyH_take (i := 0) (v := ?_) rfl (by kernel_rfl) (by kernel_rfl) (by kernel_rfl) (fun _ _ _ h => h) (Or.inl ⟨by rfl, ?_⟩) (by assumption) ?_
              rotate_left
              · (intro W hSw; (try dsimp only at hSw); go_simp <;> with_reducible rfl)
              try simp only [Act.put, List.setIfInBounds_toArray, List.set_cons_zero, List.set_cons_succ, List.getElem_toArray, List.getElem_cons_zero, List.getElem_cons_succ]
              refine wpAnyH_take (i := 1) (v := ?_) rfl (by kernel_rfl) (by kernel_rfl) (by kernel_rfl) (fun _ _ _ h => h) (Or.inl ⟨by rfl, ?_⟩) (by assumption) ?_
              rotate_left
              · (intro W hSw; (try dsimp only at hSw); go_simp <;> with_reducible rfl)
              try simp only [Act.put, List.setIfInBounds_toArray, List.set_cons_zero, List.set_cons_succ, List.getElem_toArray, List.getElem_cons_zero, List.getElem_cons_succ]
              refine wpAnyH_take (i := 2) (v := ?_) rfl (by kernel_rfl) (by kernel_rfl) (by kernel_rfl) (fun _ _ _ h => h) (Or.inl ⟨by rfl, ?_⟩) (by assumption) ?_
              rotate_left
              · (intro W hSw; (try dsimp only at hSw); go_simp <;> with_reducible rfl)
              try simp only [Act.put, List.setIfInBounds_toArray, List.set_cons_zero, List.set_cons_succ, List.getElem_toArray, List.getElem_cons_zero, List.getElem_cons_succ]
              refine wpAnyH_take (i := 3) (v := ?_) rfl (by kernel_rfl) (by kernel_rfl) (by kernel_rfl) (fun _ _ _ h => h) (Or.inl ⟨by rfl, ?_⟩) (by assumption) ?_
              rotate_left
              · (intro W hSw; (try dsimp only at hSw); go_simp <;> with_reducible rfl)
              try simp only [Act.put, List.setIfInBounds_toArray, List.set_cons_zero, List.set_cons_succ, List.getElem_toArray, List.getElem_cons_zero, List.getElem_cons_succ]
              refine wpAnyH_take (i := 4) (v := undef) rfl (by kernel_rfl) (by kernel_rfl) (by kernel_rfl) (fun _ _ _ h => h) (Or.inr ⟨by rfl, rfl⟩) (by assumption) ?_
              try simp only [Act.put, List.setIfInBounds_toArray, List.set_cons_zero, List.set_cons_succ, List.getElem_toArray, List.getElem_cons_zero, List.getElem_cons_succ]
              refine wpAnyH_take (i := 5) (v := undef) rfl (by kernel_rfl) (by kernel_rfl) (by kernel_rfl) (fun _ _ _ h => h) (Or.inr ⟨by rfl, rfl⟩) (by assumption) ?_
              try simp only [Act.put, List.setIfInBounds_toArray, List.set_cons_zero, List.set_cons_succ, List.getElem_toArray, List.getElem_cons_zero, List.getElem_cons_succ]
              refine wpAnyH_take (i := 6) (v := undef) rfl (by kernel_rfl) (by kernel_rfl) (by kernel_rfl) (fun _ _ _ h => h) (Or.inr ⟨by rfl, rfl⟩) (by assumption) ?_
              try simp only [Act.put, List.setIfInBounds_toArray, List.set_cons_zero, List.set_cons_succ, List.getElem_toArray, List.getElem_cons_zero, List.getElem_cons_succ]
              refine wpAnyH_take (i := 7) (v := ?_) rfl (by kernel_rfl) (by kernel_rfl) (by kernel_rfl) (fun _ _ _ h => h) (Or.inl ⟨by rfl, ?_⟩) (by assumption) ?_
              rotate_left
              · (intro W hSw; (try dsimp only at hSw); go_simp <;> with_reducible rfl)
              try simp only [Act.put, List.setIfInBounds_toArray, List.set_cons_zero, List.set_cons_succ, List.getElem_toArray, List.getElem_cons_zero, List.getElem_cons_succ]
              refine wpAnyH_take (i := 8) (v := ?_) rfl (by kernel_rfl) (by kernel_rfl) (by kernel_rfl) (fun _ _ _ h => h) (Or.inl ⟨by rfl, ?_⟩) (by assumption) ?_
              rotate_left
              · (intro W hSw; (try dsimp only at hSw); go_simp <;> with_reducible rfl)
              try simp only [Act.put, List.setIfInBounds_toArray, List.set_cons_zero, List.set_cons_succ, List.getElem_toArray, List.getElem_cons_zero, List.getElem_cons_succ]
              refine wpAnyH_take (i := 9) (v := undef) rfl (by kernel_rfl) (by kernel_rfl) (by kernel_rfl) (fun _ _ _ h => h) (Or.inr ⟨by rfl, rfl⟩) (by assumption) ?_
              try simp only [Act.put, List.setIfInBounds_toArray, List.set_cons_zero, List.set_cons_succ, List.getElem_toArray, List.getElem_cons_zero, List.getElem_cons_succ]
              refine wpAnyH_take (i := 10) (v := undef) rfl (by kernel_rfl) (by kernel_rfl) (by kernel_rfl) (fun _ _ _ h => h) (Or.inr ⟨by rfl, rfl⟩) (by assumption) ?_
              try simp only [Act.put, List.setIfInBounds_toArray, List.set_cons_zero, List.set_cons_succ, List.getElem_toArray, List.getElem_cons_zero, List.getElem_cons_succ]
              refine wpAnyH_take (i := 11) (v := undef) rfl (by kernel_rfl) (by kernel_rfl) (by kernel_rfl) (fun _ _ _ h => h) (Or.inr ⟨by rfl, rfl⟩) (by assumption) ?_
              try simp only [Act.put, List.setIfInBounds_toArray, List.set_cons_zero, List.set_cons_succ, List.getElem_toArray, List.getElem_cons_zero, List.getElem_cons_succ]
              refine wpAnyH_take (i := 12) (v := undef) rfl (by kernel_rfl) (by kernel_rfl) (by kernel_rfl) (fun _ _ _ h => h) (Or.inr ⟨by rfl, rfl⟩) (by assumption) ?_
              try simp only [Act.put, List.setIfInBounds_toArray, List.set_cons_zero, List.set_cons_succ, List.getElem_toArray, List.getElem_cons_zero, List.getElem_cons_succ]
              refine wpAnyH_take (i := 13) (v := undef) rfl (by kernel_rfl) (by kernel_rfl) (by kernel_rfl) (fun _ _ _ h => h) (Or.inr ⟨by rfl, rfl⟩) (by assumption) ?_
              try simp only [Act.put, List.setIfInBounds_toArray, List.set_cons_zero, List.set_cons_succ, List.getElem_toArray, List.getElem_cons_zero, List.getElem_cons_succ]
              refine wpAnyH_take (i := 14) (v := undef) rfl (by kernel_rfl) (by kernel_rfl) (by kernel_rfl) (fun _ _ _ h => h) (Or.inr ⟨by rfl, rfl⟩) (by assumption) ?_
              try simp only [Act.put, List.setIfInBounds_toArray, List.set_cons_zero, List.set_cons_succ, List.getElem_toArray, List.getElem_cons_zero, List.getElem_cons_succ]
              refine wpAnyH_take (i := 15) (v := ?_) rfl (by kernel_rfl) (by kernel_rfl) (by kernel_rfl) (fun _ _ _ h => h) (Or.inl ⟨by rfl, ?_⟩) (by assumption) ?_
              rotate_left
              · (intro W hSw; (try dsimp only at hSw); go_simp <;> with_reducible rfl)
              try simp only [Act.put, List.setIfInBounds_toArray, List.set_cons_zero, List.set_cons_succ, List.getElem_toArray, List.getElem_cons_zero, List.getElem_cons_succ]
              refine wpAnyH_take (i := 16) (v := ?_) rfl (by kernel_rfl) (by kernel_rfl) (by kernel_rfl) (fun _ _ _ h => h) (Or.inl ⟨by rfl, ?_⟩) (by assumption) ?_
              rotate_left
              · (intro W hSw; (try dsimp only at hSw); go_simp <;> with_reducible rfl)
              try simp only [Act.put, List.setIfInBounds_toArray, List.set_cons_zero, List.set_cons_succ, List.getElem_toArray, List.getElem_cons_zero, List.getElem_cons_succ]
              refine wpAnyH_done (by kernel_rfl) ?_ _
              go_wp2_with fail
              refine wp_region_held_drew (S := (fun X : World => (X.cell? ⟨bA, 0, Option.none⟩ = some (.int .u8 x.d) ∧ X.cell? ⟨bA, 1, Option.none⟩ = some (.int .u16 x.q.v) ∧ X.cell? ⟨bA, 2, Option.none⟩ = some (.int .u8 x.q.a) ∧ X.cell? ⟨bA, 3, Option.none⟩ = some (.int .u8 x.q.b) ∧ X.cell? ⟨bA, 4, Option.none⟩ = some (.int .u8 x.q.c) ∧ X.cell? ⟨bA, 5, Option.none⟩ = some (.int .u8 x.q.d) ∧ X.cell? ⟨bA, 6, Option.none⟩ = some (.int .u8 x.q.e) ∧ X.cell? ⟨bA, 7, Option.none⟩ = some (.int .u8 x.q.f) ∧ X.cell? ⟨bA, 8, Option.none⟩ = some (.int .u8 x.port) ∧ X.cell? ⟨bA, 9, Option.none⟩ = some (.int .u8 x.ports)) ∧ (X.cell? ⟨bX, 0, Option.none⟩ = some (.int .u16 x.q.v) ∧ X.cell? ⟨bX, 1, Option.none⟩ = some (.int .u8 x.q.a) ∧ X.cell? ⟨bX, 2, Option.none⟩ = some (.int .u8 x.q.b) ∧ X.cell? ⟨bX, 3, Option.none⟩ = some (.int .u8 x.q.c) ∧ X.cell? ⟨bX, 4, Option.none⟩ = some (.int .u8 x.q.d) ∧ X.cell? ⟨bX, 5, Option.none⟩ = some (.int .u8 x.q.e) ∧ X.cell? ⟨bX, 6, Option.none⟩ = some (.int .u8 x.q.f)) ∧ (X.cell? ⟨bK, 0, Option.none⟩ = some (.int .u16 key.v) ∧ X.cell? ⟨bK, 1, Option.none⟩ = some (.int .u8 key.a) ∧ X.cell? ⟨bK, 2, Option.none⟩ = some (.int .u8 key.b) ∧ X.cell? ⟨bK, 3, Option.none⟩ = some (.int .u8 key.c) ∧ X.cell? ⟨bK, 4, Option.none⟩ = some (.int .u8 key.d) ∧ X.cell? ⟨bK, 5, Option.none⟩ = some (.int .u8 key.e) ∧ X.cell? ⟨bK, 6, Option.none⟩ = some (.int .u8 key.f)))) (by kernel_rfl) ?_ (fun hHeld => ?_)
              · (try dsimp only); (first | exact HH.out _ kk | exact HH.out _ kk.drew | exact HH.out _ kk.drew.drew)
              refine wpAnyH_take (i := 0) (v := ?_) rfl (by kernel_rfl) (by kernel_rfl) (by kernel_rfl) (fun _ _ _ h => h) (Or.inl ⟨by rfl, ?_⟩) (by assumption) ?_
              rotate_left
              · (intro W hSw; (try dsimp only at hSw); go_simp <;> with_reducible rfl)
              try simp only [Act.put, List.setIfInBounds_toArray, List.set_cons_zero, List.set_cons_succ, List.getElem_toArray, List.getElem_cons_zero, List.getElem_cons_succ]
              refine wpAnyH_ready (rs := [1]) (by kernel_rfl) (by simp) ?_
              refine AllReadyH.cons rfl (fun K hK => ?_) AllReadyH.nil
              try simp only [Act.put, List.setIfInBounds_toArray, List.set_cons_zero, List.set_cons_succ, List.getElem_toArray, List.getElem_cons_zero, List.getElem_cons_succ]
              go_simp
              (go_at_call 37; refine (C37 _ (by first | exact kk | exact kk.drew | exact kk.drew.drew)).mono ?_; rintro ee wz ⟨rfl, kz⟩; have kk : Keeps Nil wS wz := by first | exact kk.trans kz | exact kk.drew.trans kz | exact kk.drew.drew.trans kz)
              (try go_wp2_with fail)
              refine hK.out _ _ ?_ (fun hHeld => ?_)
              · (try dsimp only); (first | exact HH.out _ kk | exact HH.out _ kk.drew | exact HH.out _ kk.drew.drew)
              clear hK K
              try simp only [Act.put, List.setIfInBounds_toArray, List.set_cons_zero, List.set_cons_succ, List.getElem_toArray, List.getElem_cons_zero, List.getElem_cons_succ]
              refine wpAnyH_take (i := 2) (v := ?_) rfl (by kernel_rfl) (by kernel_rfl) (by kernel_rfl) (fun _ _ _ h => h) (Or.inl ⟨by rfl, ?_⟩) (by assumption) ?_
              rotate_left
              · (intro W hSw; (try dsimp only at hSw); go_simp <;> with_reducible rfl)
              try simp only [Act.put, List.setIfInBounds_toArray, List.set_cons_zero, List.set_cons_succ, List.getElem_toArray, List.getElem_cons_zero, List.getElem_cons_succ]
              refine wpAnyH_take (i := 3) (v := ?_) rfl (by kernel_rfl) (by kernel_rfl) (by kernel_rfl) (fun _ _ _ h => h) (Or.inl ⟨by rfl, ?_⟩) (by assumption) ?_
              rotate_left
              · (intro W hSw; (try dsimp only at hSw); go_simp <;> with_reducible rfl)
              try simp only [Act.put, List.setIfInBounds_toArray, List.set_cons_zero, List.set_cons_succ, List.getElem_toArray, List.getElem_cons_zero, List.getElem_cons_succ]
              refine wpAnyH_take (i := 4) (v := ?_) rfl (by kernel_rfl) (by kernel_rfl) (by kernel_rfl) (fun _ _ _ h => h) (Or.inl ⟨by rfl, ?_⟩) (by assumption) ?_
              rotate_left
              · (intro W hSw; (try dsimp only at hSw); go_simp <;> with_reducible rfl)
              try simp only [Act.put, List.setIfInBounds_toArray, List.set_cons_zero, List.set_cons_succ, List.getElem_toArray, List.getElem_cons_zero, List.getElem_cons_succ]
              refine wpAnyH_take (i := 5) (v := ?_) rfl (by kernel_rfl) (by kernel_rfl) (by kernel_rfl) (fun _ _ _ h => h) (Or.inl ⟨by rfl, ?_⟩) (by assumption) ?_
              rotate_left
              · (intro W hSw; (try dsimp only at hSw); go_simp <;> with_reducible rfl)
              try simp only [Act.put, List.setIfInBounds_toArray, List.set_cons_zero, List.set_cons_succ, List.getElem_toArray, List.getElem_cons_zero, List.getElem_cons_succ]
              refine wpAnyH_take (i := 6) (v := ?_) rfl (by kernel_rfl) (by kernel_rfl) (by kernel_rfl) (fun _ _ _ h => h) (Or.inl ⟨by rfl, ?_⟩) (by assumption) ?_
              rotate_left
              · (intro W hSw; (try dsimp only at hSw); go_simp <;> with_reducible rfl)
              try simp only [Act.put, List.setIfInBounds_toArray, List.set_cons_zero, List.set_cons_succ, List.getElem_toArray, List.getElem_cons_zero, List.getElem_cons_succ]
              refine wpAnyH_ready (rs := [7]) (by kernel_rfl) (by simp) ?_
              refine AllReadyH.cons rfl (fun K hK => ?_) AllReadyH.nil
              try simp only [Act.put, List.setIfInBounds_toArray, List.set_cons_zero, List.set_cons_succ, List.getElem_toArray, List.getElem_cons_zero, List.getElem_cons_succ]
              go_simp
              (go_at_call 36; refine (C36b _ (by first | exact kk | exact kk.drew | exact kk.drew.drew)).mono ?_; rintro ee wz ⟨rfl, kz⟩; have kk : Keeps Nil wS wz := by first | exact kk.trans kz | exact kk.drew.trans kz | exact kk.drew.drew.trans kz)
              (try go_wp2_with fail)
              refine hK.out _ _ ?_ (fun hHeld => ?_)
              · (try dsimp only); (first | exact HH.out _ kk | exact HH.out _ kk.drew | exact HH.out _ kk.drew.drew)
              clear hK K
              try simp only [Act.put, List.setIfInBounds_toArray, List.set_cons_zero, List.set_cons_succ, List.getElem_toArray, List.getElem_cons_zero, List.getElem_cons_succ]
              refine wpAnyH_take (i := 8) (v := ?_) rfl (by kernel_rfl) (by kernel_rfl) (by kernel_rfl) (fun _ _ _ h => h) (Or.inl ⟨by rfl, ?_⟩) (by assumption) ?_
              rotate_left
              · (intro W hSw; (try dsimp only at hSw); go_simp <;> with_reducible rfl)
              try simp only [Act.put, List.setIfInBounds_toArray, List.set_cons_zero, List.set_cons_succ, List.getElem_toArray, List.getElem_cons_zero, List.getElem_cons_succ]
              refine wpAnyH_take (i := 9) (v := ?_) rfl (by kernel_rfl) (by kernel_rfl) (by kernel_rfl) (fun _ _ _ h => h) (Or.inl ⟨by rfl, ?_⟩) (by assumption) ?_
              rotate_left
              · (intro W hSw; (try dsimp only at hSw); go_simp <;> with_reducible rfl)
              try simp only [Act.put, List.setIfInBounds_toArray, List.set_cons_zero, List.set_cons_succ, List.getElem_toArray, List.getElem_cons_zero, List.getElem_cons_succ]
              refine wpAnyH_take (i := 10) (v := ?_) rfl (by kernel_rfl) (by kernel_rfl) (by kernel_rfl) (fun _ _ _ h => h) (Or.inl ⟨by rfl, ?_⟩) (by assumption) ?_
              rotate_left
              · (intro W hSw; (try dsimp only at hSw); go_simp <;> with_reducible rfl)
              try simp only [Act.put, List.setIfInBounds_toArray, List.set_cons_zero, List.set_cons_succ, List.getElem_toArray, List.getElem_cons_zero, List.getElem_cons_succ]
              refine wpAnyH_done (by kernel_rfl) ?_ _
              obtain ⟨h0, ⟨x0, x1, x2, x3, x4, x5, x6⟩, ⟨y0, y1, y2, y3, y4, y5, y6⟩⟩ := HH.out _ kk
              have KK := hid kk
              go_wp2_with fail
              go_roundw
              case rel => exact ⟨i, by omega, by rw [HT2.out (by have := D01.out; omega)], by rw [HF2.out (by have := D01.out; omega)], by go_num, hid ⟨by rw [HLP.out, LPS.out]; rw [if_neg D01.out, if_neg (fun h => D2.out h.1), if_pos ⟨HMB.out, HF.out⟩, if_neg HQ.out], KS.out.trans KK.out⟩⟩
              case measure => simp only [intOf]; omega
end Go.Proofs.Ytdmjpgefoppfmaa
