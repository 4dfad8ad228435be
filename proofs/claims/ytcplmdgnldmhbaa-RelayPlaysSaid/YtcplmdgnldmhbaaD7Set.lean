/-
  Layer 7, the document's Set. Conditions: the rows lie so; the numbers are in range.
-/
import Derived.Test.YtcplmdgnldmhbaaD7P
import Derived.Deep.DeepCutAuto
namespace Go.Proofs.Ytcplmdgnldmhbaa
open Go.RowKit
set_option linter.unusedVariables false
set_option linter.unusedSimpArgs false
set_option maxRecDepth 8000

/-- What the document's Set answers. -/
def RSets (r : List (Pl × Int) × Int) (n : Int) (B : Nat) (w : World) (e : Ending) (w' : World) : Prop :=
  ∃ P C, e = .returned (.tuple #[vtab n P r.1.length C, .int .i64 r.2]) ∧ Acc7 w' B P r.1.length C r.1 ∧ Keeps Nil w w'
set_option maxHeartbeats 16000000 in
theorem rvset_any (n : Int) (p : Option Addr) (m c : Nat) (L : List (Pl × Int)) (w : World) (B : Nat) (hm : L.length = m) (hacc : Acc7 w B p m c L) (hBw : B ≤ w.heap.size) (hk : KeyV L) (hl : m ≤ 8) (h1 : 1 ≤ n) (h8 : n ≤ 8) {v a b : Int} (hv : 0 ≤ v ∧ v < 65536) (ha : 0 ≤ a ∧ a < 256) (hb : 0 ≤ b ∧ b < 256) :
    Calls Try.prog 21 #[vtab n p m c, .int .u16 v, .int .u8 a, .int .u8 b] w (RSets (rsetP n L v a b) n B w) := by
  have h : WV w 0 3 p m c (flatV L) := (WV.of_own hacc).mono (Nat.zero_le _)
  have HFI : ∀ W : World, Keeps Nil w W → Hid (Calls Try.prog 45 #[vtab n p m c, .int .u16 v] W fun e w' => e = .returned (.int .i64 (sidx (vp v) L)) ∧ Keeps Nil W w') := by
    intro W k; subst hm; exact find_any v n 0 p c L W (h.keepN k) hk (by omega)
  have HWI : ∀ W : World, Keeps Nil w W → Hid (Calls Try.prog 46 #[vtab n p m c, .int .u16 v] W fun e w' => (∃ P M C, e = .returned (vtab n P M C) ∧ Acc7 w' W.heap.size P M C (sdel L (vp v))) ∧ Keeps Nil W w') := by
    intro W k; subst hm; exact rwithout_any v n 0 p c L W (h.keepN k) hk (by omega)
  have HHA := fun (k : Nat) (h8 : k < 8) (W : World) => hid (has_any a (k : Int) ha ⟨by omega, by omega⟩ W)
  have HHB := fun (k : Nat) (h8 : k < 8) (W : World) => hid (has_any b (k : Int) hb ⟨by omega, by omega⟩ W)
  have kz : Keeps Nil w ((w.alloc (.cells #[Value.int IntKind.i64 n, Value.slice p m c, Value.int IntKind.u16 0, Value.int IntKind.u16 0, Value.int IntKind.u16 0, Value.int IntKind.u16 0, Value.int IntKind.u16 0, Value.int IntKind.u16 0, Value.int IntKind.u16 0, Value.int IntKind.u16 0] 57 (0, 0))).alloc (.cells #[Value.int IntKind.i64 0, Value.slice Option.none 0 0, Value.int IntKind.u16 0, Value.int IntKind.u16 0, Value.int IntKind.u16 0, Value.int IntKind.u16 0, Value.int IntKind.u16 0, Value.int IntKind.u16 0, Value.int IntKind.u16 0, Value.int IntKind.u16 0] 57 (0, 0))) := ((Keeps.refl _ _).alloc _).alloc _
  obtain ⟨hA, hZ⟩ := two_allocs w (.cells #[Value.int IntKind.i64 n, Value.slice p m c, Value.int IntKind.u16 0, Value.int IntKind.u16 0, Value.int IntKind.u16 0, Value.int IntKind.u16 0, Value.int IntKind.u16 0, Value.int IntKind.u16 0, Value.int IntKind.u16 0, Value.int IntKind.u16 0] 57 (0, 0)) (.cells #[Value.int IntKind.i64 0, Value.slice Option.none 0 0, Value.int IntKind.u16 0, Value.int IntKind.u16 0, Value.int IntKind.u16 0, Value.int IntKind.u16 0, Value.int IntKind.u16 0, Value.int IntKind.u16 0, Value.int IntKind.u16 0, Value.int IntKind.u16 0] 57 (0, 0))
  obtain ⟨r, hr⟩ : ∃ r, rsetP n L v a b = r := ⟨_, rfl⟩
  rw [hr]
  have HRR := hid hr
  have H0 := hid hacc
  have HBW := hid hBw
  have HK := hid hk
  have HMM := hid hm
  clear hr h hk hm hacc hBw
  go_enter Try.func21, Try.ntmps21
  go_upto_region 1 with (fail)
  generalize ((w.alloc (.cells #[Value.int IntKind.i64 n, Value.slice p m c, Value.int IntKind.u16 0, Value.int IntKind.u16 0, Value.int IntKind.u16 0, Value.int IntKind.u16 0, Value.int IntKind.u16 0, Value.int IntKind.u16 0, Value.int IntKind.u16 0, Value.int IntKind.u16 0] 57 (0, 0))).alloc (.cells #[Value.int IntKind.i64 0, Value.slice Option.none 0 0, Value.int IntKind.u16 0, Value.int IntKind.u16 0, Value.int IntKind.u16 0, Value.int IntKind.u16 0, Value.int IntKind.u16 0, Value.int IntKind.u16 0, Value.int IntKind.u16 0, Value.int IntKind.u16 0] 57 (0, 0))) = wz at *
  generalize hbz : w.heap.size + 1 = bZ at *
  generalize hbt : w.heap.size = bT at *
  have HBB := hid (And.intro hbt hbz)
  clear hbz hbt
  have HA := hid hA
  have HZ := hid hZ
  have KZ := hid kz
  clear kz hA hZ
  cases hmy : (decide (1 ≤ v) && decide (v ≤ 4094)) with
  | false =>
    have hr2 : r = (L, 2) := by rw [← HRR.out]; unfold rsetP; rw [if_pos (.inl hmy)]
    have HR2 := hid hr2
    clear hr2
    have hx : decide (v < 1) = true ∨ (decide (v < 1) = false ∧ decide (4094 < v) = true) := by
      simp at hmy ⊢; omega
    clear hmy HFI HWI HHA HHB
    rcases hx with hx | ⟨hx, hx2⟩
    · obtain ⟨c0, c1, c2, c3, c4, c5, c6, c7, c8, c9⟩ := ten_of HA.out
      obtain ⟨z0, z1, z2, z3, z4, z5, z6, z7, z8, z9⟩ := ten_of HZ.out
      obtain ⟨f0, f1, f2, f3, f4, f5, f6, f7, f8, f9⟩ := ten_free HZ.out
      have lA := lt_of_block HA.out
      have lZ := lt_of_block HZ.out
      go_wp2_with fail
      obtain ⟨w9, hw9, hF9, k9⟩ := set10 HZ.out (Value.int IntKind.i64 n) (Value.slice p m c) (Value.int IntKind.u16 0) (Value.int IntKind.u16 0) (Value.int IntKind.u16 0) (Value.int IntKind.u16 0) (Value.int IntKind.u16 0) (Value.int IntKind.u16 0) (Value.int IntKind.u16 0) (Value.int IntKind.u16 0)
      rw [hw9]
      clear c0 c1 c2 c3 c4 c5 c6 c7 c8 c9 z0 z1 z2 z3 z4 z5 z6 z7 z8 z9 f0 f1 f2 f3 f4 f5 f6 f7 f8 f9 hw9
      obtain ⟨y0, y1, y2, y3, y4, y5, y6, y7, y8, y9⟩ := ten_of hF9
      have K9 := hid (KZ.out.thenAt k9 (by have := HBB.out; omega))
      refine bodyPost_ret (v := .tuple #[vtab n p m c, .int .i64 2]) (by simp [results, Try.results21, go_sem, y0, y1, y2, y3, y4, y5, y6, y7, y8, y9]) rfl ?_
      rw [HR2.out]
      have hmm := HMM.out
      subst hmm
      exact ⟨p, c, rfl, ownsRow_keep H0.out K9.out (fun _ _ e => e), K9.out⟩
    · obtain ⟨c0, c1, c2, c3, c4, c5, c6, c7, c8, c9⟩ := ten_of HA.out
      obtain ⟨z0, z1, z2, z3, z4, z5, z6, z7, z8, z9⟩ := ten_of HZ.out
      obtain ⟨f0, f1, f2, f3, f4, f5, f6, f7, f8, f9⟩ := ten_free HZ.out
      have lA := lt_of_block HA.out
      have lZ := lt_of_block HZ.out
      go_wp2_with fail
      obtain ⟨w9, hw9, hF9, k9⟩ := set10 HZ.out (Value.int IntKind.i64 n) (Value.slice p m c) (Value.int IntKind.u16 0) (Value.int IntKind.u16 0) (Value.int IntKind.u16 0) (Value.int IntKind.u16 0) (Value.int IntKind.u16 0) (Value.int IntKind.u16 0) (Value.int IntKind.u16 0) (Value.int IntKind.u16 0)
      rw [hw9]
      clear c0 c1 c2 c3 c4 c5 c6 c7 c8 c9 z0 z1 z2 z3 z4 z5 z6 z7 z8 z9 f0 f1 f2 f3 f4 f5 f6 f7 f8 f9 hw9
      obtain ⟨y0, y1, y2, y3, y4, y5, y6, y7, y8, y9⟩ := ten_of hF9
      have K9 := hid (KZ.out.thenAt k9 (by have := HBB.out; omega))
      refine bodyPost_ret (v := .tuple #[vtab n p m c, .int .i64 2]) (by simp [results, Try.results21, go_sem, y0, y1, y2, y3, y4, y5, y6, y7, y8, y9]) rfl ?_
      rw [HR2.out]
      have hmm := HMM.out
      subst hmm
      exact ⟨p, c, rfl, ownsRow_keep H0.out K9.out (fun _ _ e => e), K9.out⟩
  | true =>
  have hx : decide (v < 1) = false := by simp at hmy ⊢; omega
  have hx2 : decide (4094 < v) = false := by simp at hmy ⊢; omega
  have HMY := hid hmy
  clear hmy
  go_wp2_with fail
  go_loopw [10] (fun s10 wr => ∃ k : Nat, k ≤ 8 ∧ s10 = .int .u8 k ∧ Hid (∀ q, q < k → badB a b n q = false) ∧ wr = wz) (fun s10 _ => 8 - (intOf s10).toNat)
  case atStart => exact ⟨0, by omega, rfl, hid (fun q h => absurd h (Nat.not_lt_zero _)), rfl⟩
  case round =>
    obtain ⟨k, hk8, rfl, HB, rfl⟩ := hrel
    by_cases hlt : k < 8
    · have CA := HHA k hlt
      have CB := HHB k hlt
      simp only [Int.toNat_natCast] at CA CB
      obtain ⟨xa, hxa⟩ : ∃ x, (bits BinOp.and .u8 (a / 2 ^ k) 1 == 1) = x := ⟨_, rfl⟩
      obtain ⟨xb, hxb⟩ : ∃ x, (bits BinOp.and .u8 (b / 2 ^ k) 1 == 1) = x := ⟨_, rfl⟩
      obtain ⟨xn, hxn⟩ : ∃ x, decide (n ≤ (k : Int)) = x := ⟨_, rfl⟩
      rw [hxa] at CA
      rw [hxb] at CB
      have hbad : badB a b n k = ((xa && xn) || (xb && !xa)) := by unfold badB bitP; rw [hxa, hxb, hxn]
      have HBAD := hid hbad
      clear hbad hxa hxb
      have hwk : IntKind.i64.wrap (k : Int) = k := IntWalk.i64_in _ (by omega)
      obtain ⟨c0, c1, c2, c3, c4, c5, c6, c7, c8, c9⟩ := ten_of HA.out
      have ARM : True := trivial
      cases xa <;> cases xb <;> cases xn
      · go_wp2_with (first | (with_reducible refine (CA _).out.mono ?_; rintro ee wv ⟨rfl, rfl⟩) | (with_reducible refine (CB _).out.mono ?_; rintro ee wv ⟨rfl, rfl⟩))
        go_roundw
        case rel => exact ⟨k + 1, by omega, by go_num, hid (fun q hq => by
          by_cases e : q = k
          · subst e; rw [HBAD.out]; rfl
          · exact HB.out q (by omega)), by first | rfl | trivial⟩
        case measure => simp only [intOf]; omega
      · go_wp2_with (first | (with_reducible refine (CA _).out.mono ?_; rintro ee wv ⟨rfl, rfl⟩) | (with_reducible refine (CB _).out.mono ?_; rintro ee wv ⟨rfl, rfl⟩))
        go_roundw
        case rel => exact ⟨k + 1, by omega, by go_num, hid (fun q hq => by
          by_cases e : q = k
          · subst e; rw [HBAD.out]; rfl
          · exact HB.out q (by omega)), by first | rfl | trivial⟩
        case measure => simp only [intOf]; omega
      · have hr2 : r = (L, 2) := by
          rw [← HRR.out]; unfold rsetP; rw [if_pos (.inr (by unfold badAny; exact List.any_eq_true.2 ⟨k, List.mem_range.2 hlt, by rw [HBAD.out]; rfl⟩))]
        have HR2 := hid hr2
        clear hr2
        go_upto_region 7 with (first | (with_reducible refine (CA _).out.mono ?_; rintro ee wv ⟨rfl, rfl⟩) | (with_reducible refine (CB _).out.mono ?_; rintro ee wv ⟨rfl, rfl⟩))
        clear c0 c1 c2 c3 c4 c5 c6 c7 c8 c9
        obtain ⟨c0, c1, c2, c3, c4, c5, c6, c7, c8, c9⟩ := ten_of HA.out
        obtain ⟨z0, z1, z2, z3, z4, z5, z6, z7, z8, z9⟩ := ten_of HZ.out
        obtain ⟨f0, f1, f2, f3, f4, f5, f6, f7, f8, f9⟩ := ten_free HZ.out
        have lA := lt_of_block HA.out
        have lZ := lt_of_block HZ.out
        go_wp2_with fail
        obtain ⟨w9, hw9, hF9, k9⟩ := set10 HZ.out (Value.int IntKind.i64 n) (Value.slice p m c) (Value.int IntKind.u16 0) (Value.int IntKind.u16 0) (Value.int IntKind.u16 0) (Value.int IntKind.u16 0) (Value.int IntKind.u16 0) (Value.int IntKind.u16 0) (Value.int IntKind.u16 0) (Value.int IntKind.u16 0)
        rw [hw9]
        clear c0 c1 c2 c3 c4 c5 c6 c7 c8 c9 z0 z1 z2 z3 z4 z5 z6 z7 z8 z9 f0 f1 f2 f3 f4 f5 f6 f7 f8 f9 hw9
        obtain ⟨y0, y1, y2, y3, y4, y5, y6, y7, y8, y9⟩ := ten_of hF9
        have K9 := hid (KZ.out.thenAt k9 (by have := HBB.out; omega))
        refine bodyPost_ret (v := .tuple #[vtab n p m c, .int .i64 2]) (by simp [results, Try.results21, go_sem, y0, y1, y2, y3, y4, y5, y6, y7, y8, y9]) rfl ?_
        rw [HR2.out]
        have hmm := HMM.out
        subst hmm
        exact ⟨p, c, rfl, ownsRow_keep H0.out K9.out (fun _ _ e => e), K9.out⟩
      · have hr2 : r = (L, 2) := by
          rw [← HRR.out]; unfold rsetP; rw [if_pos (.inr (by unfold badAny; exact List.any_eq_true.2 ⟨k, List.mem_range.2 hlt, by rw [HBAD.out]; rfl⟩))]
        have HR2 := hid hr2
        clear hr2
        go_upto_region 7 with (first | (with_reducible refine (CA _).out.mono ?_; rintro ee wv ⟨rfl, rfl⟩) | (with_reducible refine (CB _).out.mono ?_; rintro ee wv ⟨rfl, rfl⟩))
        clear c0 c1 c2 c3 c4 c5 c6 c7 c8 c9
        obtain ⟨c0, c1, c2, c3, c4, c5, c6, c7, c8, c9⟩ := ten_of HA.out
        obtain ⟨z0, z1, z2, z3, z4, z5, z6, z7, z8, z9⟩ := ten_of HZ.out
        obtain ⟨f0, f1, f2, f3, f4, f5, f6, f7, f8, f9⟩ := ten_free HZ.out
        have lA := lt_of_block HA.out
        have lZ := lt_of_block HZ.out
        go_wp2_with fail
        obtain ⟨w9, hw9, hF9, k9⟩ := set10 HZ.out (Value.int IntKind.i64 n) (Value.slice p m c) (Value.int IntKind.u16 0) (Value.int IntKind.u16 0) (Value.int IntKind.u16 0) (Value.int IntKind.u16 0) (Value.int IntKind.u16 0) (Value.int IntKind.u16 0) (Value.int IntKind.u16 0) (Value.int IntKind.u16 0)
        rw [hw9]
        clear c0 c1 c2 c3 c4 c5 c6 c7 c8 c9 z0 z1 z2 z3 z4 z5 z6 z7 z8 z9 f0 f1 f2 f3 f4 f5 f6 f7 f8 f9 hw9
        obtain ⟨y0, y1, y2, y3, y4, y5, y6, y7, y8, y9⟩ := ten_of hF9
        have K9 := hid (KZ.out.thenAt k9 (by have := HBB.out; omega))
        refine bodyPost_ret (v := .tuple #[vtab n p m c, .int .i64 2]) (by simp [results, Try.results21, go_sem, y0, y1, y2, y3, y4, y5, y6, y7, y8, y9]) rfl ?_
        rw [HR2.out]
        have hmm := HMM.out
        subst hmm
        exact ⟨p, c, rfl, ownsRow_keep H0.out K9.out (fun _ _ e => e), K9.out⟩
      · go_wp2_with (first | (with_reducible refine (CA _).out.mono ?_; rintro ee wv ⟨rfl, rfl⟩) | (with_reducible refine (CB _).out.mono ?_; rintro ee wv ⟨rfl, rfl⟩))
        go_roundw
        case rel => exact ⟨k + 1, by omega, by go_num, hid (fun q hq => by
          by_cases e : q = k
          · subst e; rw [HBAD.out]; rfl
          · exact HB.out q (by omega)), by first | rfl | trivial⟩
        case measure => simp only [intOf]; omega
      · have hr2 : r = (L, 2) := by
          rw [← HRR.out]; unfold rsetP; rw [if_pos (.inr (by unfold badAny; exact List.any_eq_true.2 ⟨k, List.mem_range.2 hlt, by rw [HBAD.out]; rfl⟩))]
        have HR2 := hid hr2
        clear hr2
        go_upto_region 7 with (first | (with_reducible refine (CA _).out.mono ?_; rintro ee wv ⟨rfl, rfl⟩) | (with_reducible refine (CB _).out.mono ?_; rintro ee wv ⟨rfl, rfl⟩))
        clear c0 c1 c2 c3 c4 c5 c6 c7 c8 c9
        obtain ⟨c0, c1, c2, c3, c4, c5, c6, c7, c8, c9⟩ := ten_of HA.out
        obtain ⟨z0, z1, z2, z3, z4, z5, z6, z7, z8, z9⟩ := ten_of HZ.out
        obtain ⟨f0, f1, f2, f3, f4, f5, f6, f7, f8, f9⟩ := ten_free HZ.out
        have lA := lt_of_block HA.out
        have lZ := lt_of_block HZ.out
        go_wp2_with fail
        obtain ⟨w9, hw9, hF9, k9⟩ := set10 HZ.out (Value.int IntKind.i64 n) (Value.slice p m c) (Value.int IntKind.u16 0) (Value.int IntKind.u16 0) (Value.int IntKind.u16 0) (Value.int IntKind.u16 0) (Value.int IntKind.u16 0) (Value.int IntKind.u16 0) (Value.int IntKind.u16 0) (Value.int IntKind.u16 0)
        rw [hw9]
        clear c0 c1 c2 c3 c4 c5 c6 c7 c8 c9 z0 z1 z2 z3 z4 z5 z6 z7 z8 z9 f0 f1 f2 f3 f4 f5 f6 f7 f8 f9 hw9
        obtain ⟨y0, y1, y2, y3, y4, y5, y6, y7, y8, y9⟩ := ten_of hF9
        have K9 := hid (KZ.out.thenAt k9 (by have := HBB.out; omega))
        refine bodyPost_ret (v := .tuple #[vtab n p m c, .int .i64 2]) (by simp [results, Try.results21, go_sem, y0, y1, y2, y3, y4, y5, y6, y7, y8, y9]) rfl ?_
        rw [HR2.out]
        have hmm := HMM.out
        subst hmm
        exact ⟨p, c, rfl, ownsRow_keep H0.out K9.out (fun _ _ e => e), K9.out⟩
      · go_wp2_with (first | (with_reducible refine (CA _).out.mono ?_; rintro ee wv ⟨rfl, rfl⟩) | (with_reducible refine (CB _).out.mono ?_; rintro ee wv ⟨rfl, rfl⟩))
        go_roundw
        case rel => exact ⟨k + 1, by omega, by go_num, hid (fun q hq => by
          by_cases e : q = k
          · subst e; rw [HBAD.out]; rfl
          · exact HB.out q (by omega)), by first | rfl | trivial⟩
        case measure => simp only [intOf]; omega
      · have hr2 : r = (L, 2) := by
          rw [← HRR.out]; unfold rsetP; rw [if_pos (.inr (by unfold badAny; exact List.any_eq_true.2 ⟨k, List.mem_range.2 hlt, by rw [HBAD.out]; rfl⟩))]
        have HR2 := hid hr2
        clear hr2
        go_upto_region 7 with (first | (with_reducible refine (CA _).out.mono ?_; rintro ee wv ⟨rfl, rfl⟩) | (with_reducible refine (CB _).out.mono ?_; rintro ee wv ⟨rfl, rfl⟩))
        clear c0 c1 c2 c3 c4 c5 c6 c7 c8 c9
        obtain ⟨c0, c1, c2, c3, c4, c5, c6, c7, c8, c9⟩ := ten_of HA.out
        obtain ⟨z0, z1, z2, z3, z4, z5, z6, z7, z8, z9⟩ := ten_of HZ.out
        obtain ⟨f0, f1, f2, f3, f4, f5, f6, f7, f8, f9⟩ := ten_free HZ.out
        have lA := lt_of_block HA.out
        have lZ := lt_of_block HZ.out
        go_wp2_with fail
        obtain ⟨w9, hw9, hF9, k9⟩ := set10 HZ.out (Value.int IntKind.i64 n) (Value.slice p m c) (Value.int IntKind.u16 0) (Value.int IntKind.u16 0) (Value.int IntKind.u16 0) (Value.int IntKind.u16 0) (Value.int IntKind.u16 0) (Value.int IntKind.u16 0) (Value.int IntKind.u16 0) (Value.int IntKind.u16 0)
        rw [hw9]
        clear c0 c1 c2 c3 c4 c5 c6 c7 c8 c9 z0 z1 z2 z3 z4 z5 z6 z7 z8 z9 f0 f1 f2 f3 f4 f5 f6 f7 f8 f9 hw9
        obtain ⟨y0, y1, y2, y3, y4, y5, y6, y7, y8, y9⟩ := ten_of hF9
        have K9 := hid (KZ.out.thenAt k9 (by have := HBB.out; omega))
        refine bodyPost_ret (v := .tuple #[vtab n p m c, .int .i64 2]) (by simp [results, Try.results21, go_sem, y0, y1, y2, y3, y4, y5, y6, y7, y8, y9]) rfl ?_
        rw [HR2.out]
        have hmm := HMM.out
        subst hmm
        exact ⟨p, c, rfl, ownsRow_keep H0.out K9.out (fun _ _ e => e), K9.out⟩
    · obtain rfl : k = 8 := by omega
      have hno : badAny a b n = false := by
        unfold badAny
        rw [List.any_eq_false]
        intro q hq hc
        rw [HB.out q (List.mem_range.1 hq)] at hc
        cases hc
      have HNO := hid hno
      clear hno HB hlt hk8 HHA HHB
      obtain ⟨c0, c1, c2, c3, c4, c5, c6, c7, c8, c9⟩ := ten_of HA.out
      go_wp2_with fail
      refine (HFI _ KZ.out).out.mono ?_
      rintro ee w2 ⟨rfl, k2⟩
      have A2 := hid (k2.lies HA.out)
      have Z2 := hid (k2.lies HZ.out)
      have K2 := hid (KZ.out.trans k2)
      clear k2 c0 c1 c2 c3 c4 c5 c6 c7 c8 c9 HA HZ HFI
      by_cases hfull : (sget L (vp v)).isSome = false ∧ 8 ≤ L.length
      · have hr2 : r = (L, 6) := by
          rw [← HRR.out]; unfold rsetP; rw [if_neg (by rintro (e | e); rw [HMY.out] at e; cases e; rw [HNO.out] at e; cases e), if_pos hfull]
        have HR2 := hid hr2
        have hmm : decide (8 ≤ (m : Int)) = true := by have := HMM.out; simp; omega
        clear hr2
        rcases sidx_spec (vp v) L with ⟨e1, e2⟩ | ⟨k, u, e1, e2, e3⟩
        · rw [e2]
          clear e1 e2 hfull
          obtain ⟨c0, c1, c2, c3, c4, c5, c6, c7, c8, c9⟩ := ten_of A2.out
          go_upto_region 9 with (fail)
          clear c0 c1 c2 c3 c4 c5 c6 c7 c8 c9
          obtain ⟨c0, c1, c2, c3, c4, c5, c6, c7, c8, c9⟩ := ten_of A2.out
          obtain ⟨z0, z1, z2, z3, z4, z5, z6, z7, z8, z9⟩ := ten_of Z2.out
          obtain ⟨f0, f1, f2, f3, f4, f5, f6, f7, f8, f9⟩ := ten_free Z2.out
          have lA := lt_of_block A2.out
          have lZ := lt_of_block Z2.out
          go_wp2_with fail
          obtain ⟨w9, hw9, hF9, k9⟩ := set10 Z2.out (Value.int IntKind.i64 n) (Value.slice p m c) (Value.int IntKind.u16 0) (Value.int IntKind.u16 0) (Value.int IntKind.u16 0) (Value.int IntKind.u16 0) (Value.int IntKind.u16 0) (Value.int IntKind.u16 0) (Value.int IntKind.u16 0) (Value.int IntKind.u16 0)
          rw [hw9]
          clear c0 c1 c2 c3 c4 c5 c6 c7 c8 c9 z0 z1 z2 z3 z4 z5 z6 z7 z8 z9 f0 f1 f2 f3 f4 f5 f6 f7 f8 f9 hw9
          obtain ⟨y0, y1, y2, y3, y4, y5, y6, y7, y8, y9⟩ := ten_of hF9
          have K9 := hid (K2.out.thenAt k9 (by have := HBB.out; omega))
          refine bodyPost_ret (v := .tuple #[vtab n p m c, .int .i64 6]) (by simp [results, Try.results21, go_sem, y0, y1, y2, y3, y4, y5, y6, y7, y8, y9]) rfl ?_
          rw [HR2.out]
          have hmm := HMM.out
          subst hmm
          exact ⟨p, c, rfl, ownsRow_keep H0.out K9.out (fun _ _ e => e), K9.out⟩

        · rw [e1] at hfull
          have := hfull.1
          cases this
      · have hr2 : r = (vset7 L v (a * 256 + b), 0) := by
          rw [← HRR.out]; unfold rsetP; rw [if_neg (by rintro (e | e); rw [HMY.out] at e; cases e; rw [HNO.out] at e; cases e), if_neg hfull]
        have HR2 := hid hr2
        clear hr2
        have hi : decide (sidx (vp v) L < 0) = false ∨ (sidx (vp v) L = -1 ∧ decide (8 ≤ (m : Int)) = false) := by
          rcases sidx_spec (vp v) L with ⟨e1, e2⟩ | ⟨k, u, e1, e2, e3⟩
          · refine .inr ⟨e2, ?_⟩
            rw [e1] at hfull
            have := HMM.out
            simp at hfull ⊢; omega
          · left; rw [e2]; simp
        clear hfull
        generalize sidx (vp v) L = si at *
        obtain ⟨c0, c1, c2, c3, c4, c5, c6, c7, c8, c9⟩ := ten_of A2.out
        rcases hi with hi | ⟨rfl, hi⟩
        all_goals
          go_upto_region 10 with (fail)
          clear hi
          go_wp2_with fail
          refine (HWI _ K2.out).out.mono ?_
          rintro ee w3 ⟨⟨P3, M3, C3, rfl, own3⟩, k3⟩
          have A3 := hid (k3.lies A2.out)
          have Z3 := hid (k3.lies Z2.out)
          have K3 := hid (K2.out.trans k3)
          have hM3 := own3.len
          have R3 := hid (WV.of_own own3)
          clear k3 own3 c0 c1 c2 c3 c4 c5 c6 c7 c8 c9
          obtain ⟨c0, c1, c2, c3, c4, c5, c6, c7, c8, c9⟩ := ten_of A3.out
          obtain ⟨f0, f1, f2, f3, f4, f5, f6, f7, f8, f9⟩ := ten_free A3.out
          have lA := lt_of_block A3.out
          have hM8 : M3 ≤ 8 := by rw [← hM3]; have h1 := HMM.out; have h2 : (sdel L (vp v)).length ≤ L.length := List.length_filter_le _ _; omega
          go_upto_region 11 with (fail)
          obtain ⟨w4, hw4, hA4, k4⟩ := set10 A3.out (Value.int IntKind.i64 n) (Value.slice P3 M3 C3) (Value.int IntKind.u16 0) (Value.int IntKind.u16 0) (Value.int IntKind.u16 0) (Value.int IntKind.u16 0) (Value.int IntKind.u16 0) (Value.int IntKind.u16 0) (Value.int IntKind.u16 0) (Value.int IntKind.u16 0)
          rw [hw4]
          clear c0 c1 c2 c3 c4 c5 c6 c7 c8 c9 f0 f1 f2 f3 f4 f5 f6 f7 f8 f9 lA hw4
          have A4 := hid hA4
          have Z4 := hid (k4.lies Z3.out (fun e => by rw [At] at e; have := HBB.out; omega))
          have K4 := hid (K3.out.thenAt k4 (by have := HBB.out; omega))
          have R4 := hid (R3.out.keep k4 (fun g hg hl e => by rw [At] at e; have := lt_of_block A2.out; omega))
          clear hA4 k4
          obtain ⟨L1, hL1⟩ : ∃ l, sdel L (vp v) = l := ⟨_, rfl⟩
          rw [hL1] at hM3 R4
          have HL1 := hid hL1
          have HM3 := hid hM3
          clear hL1 hM3 R3
          obtain ⟨c0, c1, c2, c3, c4, c5, c6, c7, c8, c9⟩ := ten_of A4.out
          go_wp2_with fail
          go_loopw [11, 12, 13] (fun s11 s12 s13 wr => ∃ (k n' : Nat) (p' : Option Addr) (c' : Nat) (d : Bool) (M : List (Pl × Int)), k ≤ M3 ∧ n' ≤ 2 * k ∧ s13 = .int .i64 k ∧ s12 = .bool d ∧ s11 = .slice p' n' c' ∧ Keeps Nil w4 wr ∧ Hid (VSo v (a * 256 + b) L1 k d M ∧ Acc7 wr w4.heap.size p' n' c' M)) (fun _ _ s13 _ => M3 - (intOf s13).toNat)
          case atStart => exact ⟨0, 0, Option.none, 0, false, [], Nat.zero_le _, by omega, rfl, rfl, rfl, Keeps.refl _ _, hid ⟨VSo.start _ _ _, World.ownsRow_nil _ _ _ _⟩⟩
          case round =>
            obtain ⟨k, n', p', c', d, M, hk, hnk, rfl, rfl, rfl, kk, HACC⟩ := hrel
            clear c0 c1 c2 c3 c4 c5 c6 c7 c8 c9
            have KK := hid kk
            clear kk
            obtain ⟨c0, c1, c2, c3, c4, c5, c6, c7, c8, c9⟩ := ten_of (KK.out.lies A4.out)
            by_cases hlt : k < M3
            · obtain ⟨x, hx⟩ : ∃ x, L1[k]? = some x := ⟨_, List.getElem?_eq_getElem (by have := HM3.out; omega)⟩
              obtain ⟨g, off, hp, _, hg, x0, x1, x2⟩ := ((R4.out).keepN KK.out).vlan hx
              have hnc : M3 ≤ C3 := R4.out.2.1
              subst hp
              have HX := hid hx
              have HG := hid ((R4.out).vlan hx)
              have HNV := hid (show w4.heap.size ≤ wr.heap.size from KK.out.size)
              clear hx
              cases d with
              | true =>
                go_wp2_with (at_builtin; refine acc7_step (o := ⟨some 94, _, _, _, _, _⟩) x ⟨rfl, rfl, rfl⟩ HACC.out.2 (by omega) HNV.out rfl _ _ rfl rfl rfl ?_; intro p2 c2' w5 own5 k5)
                go_roundw
                case rel => exact ⟨k + 1, n' + 1, p2, c2', true, _, by omega, by omega, by go_num, rfl, rfl, k5 w4 (Nat.le_refl _) KK.out, hid ⟨HACC.out.1.more HX.out, own5⟩⟩
                case measure => simp only [intOf]; omega
              | false =>
                cases hvx : decide (v < x.1.v) with
                | false =>
                  have HVX := hid hvx
                  go_wp2_with (at_builtin; refine acc7_step (o := ⟨some 94, _, _, _, _, _⟩) x ⟨rfl, rfl, rfl⟩ HACC.out.2 (by omega) HNV.out rfl _ _ rfl rfl rfl ?_; intro p2 c2' w5 own5 k5)
                  go_roundw
                  case rel => exact ⟨k + 1, n' + 1, p2, c2', false, _, by omega, by omega, by go_num, rfl, rfl, k5 w4 (Nat.le_refl _) KK.out, hid ⟨HACC.out.1.past HX.out (of_decide_eq_false HVX.out), own5⟩⟩
                  case measure => simp only [intOf]; omega
                | true =>
                  have HVX := hid hvx
                  have HAB := hid (show v = (vp v, a * 256 + b).1.v ∧ a = (vp v, a * 256 + b).2 / 256 ∧ b = (vp v, a * 256 + b).2 % 256 from ⟨rfl, by show a = (a * 256 + b) / 256; omega, by show b = (a * 256 + b) % 256; omega⟩)
                  go_upto_region 19 with (at_builtin; refine acc7_step (o := ⟨some 86, _, _, _, _, _⟩) (vp v, a * 256 + b) HAB.out HACC.out.2 (by omega) HNV.out rfl _ _ rfl rfl rfl ?_; intro p2 c2' w5 own5 k5)
                  have K5 := hid (k5 w4 (Nat.le_refl _) KK.out)
                  have O5 := hid own5
                  have HNV5 := hid (show w4.heap.size ≤ w5.heap.size from K5.out.size)
                  clear k5 own5 c0 c1 c2 c3 c4 c5 c6 c7 c8 c9 x0 x1 x2
                  obtain ⟨c0, c1, c2, c3, c4, c5, c6, c7, c8, c9⟩ := ten_of (K5.out.lies A4.out)
                  obtain ⟨g', off', hp', _, hg5, x0, x1, x2⟩ := ((R4.out).keepN K5.out).vlan HX.out
                  injection hp' with hp'
                  injection hp' with hp1 hp2
                  subst hp1 hp2
                  go_wp2_with (at_builtin; refine acc7_step (o := ⟨some 94, _, _, _, _, _⟩) x ⟨rfl, rfl, rfl⟩ O5.out (by omega) HNV5.out rfl _ _ rfl rfl rfl ?_; intro p6 c6 w6 own6 k6)
                  go_roundw
                  case rel => exact ⟨k + 1, n' + 1 + 1, p6, c6, true, _, by omega, by omega, by go_num, rfl, rfl, k6 w4 (Nat.le_refl _) K5.out, hid ⟨HACC.out.1.here HX.out (of_decide_eq_true HVX.out), own6⟩⟩
                  case measure => simp only [intOf]; omega
            · obtain rfl : k = M3 := by omega
              have HNV := hid (show w4.heap.size ≤ wr.heap.size from KK.out.size)
              cases d with
              | true =>
                have HFV := hid (show M = vset7 L v (a * 256 + b) by
                  have e : L1.length = k := HM3.out
                  have h := HACC.out.1
                  rw [← e] at h
                  rw [h.end_, ← HL1.out]
                  rfl)
                have OW := hid HACC.out.2
                have K5 := hid KK.out
                clear HACC
                have A5 := hid (K5.out.lies A4.out)
                have Z5 := hid (K5.out.lies Z4.out)
                clear c0 c1 c2 c3 c4 c5 c6 c7 c8 c9
                obtain ⟨c0, c1, c2, c3, c4, c5, c6, c7, c8, c9⟩ := ten_of A5.out
                have q1 := tail_free A5.out 1
                have lA5 := lt_of_block A5.out
                go_upto_region 23 with (fail)
                have hA6 := setCell_block A5.out 1 (Value.slice p' n' c')
                have k6 : Keeps (At bT) wr (wr.setCell ⟨bT, 1, Option.none⟩ (Value.slice p' n' c')) := (Keeps.refl _ _).set _ _ (at_self _) _
                generalize wr.setCell ⟨bT, 1, Option.none⟩ (Value.slice p' n' c') = w7 at *
                have A7 := hid (show w7.heap[bT]? = some (.cells #[Value.int IntKind.i64 n, Value.slice p' n' c', Value.int IntKind.u16 0, Value.int IntKind.u16 0, Value.int IntKind.u16 0, Value.int IntKind.u16 0, Value.int IntKind.u16 0, Value.int IntKind.u16 0, Value.int IntKind.u16 0, Value.int IntKind.u16 0] 57 (0, 0)) from hA6)
                have Z7 := hid (k6.lies Z5.out (fun e => by rw [At] at e; have := HBB.out; omega))
                have K7 := hid ((K4.out.trans K5.out).thenAt k6 (by have := HBB.out; omega))
                have O7 := hid (ownsRow_keep OW.out k6 (fun g hg e => by rw [At] at e; have := lt_of_block A4.out; omega))
                clear hA6 k6 c0 c1 c2 c3 c4 c5 c6 c7 c8 c9 q1 lA5
                obtain ⟨c0, c1, c2, c3, c4, c5, c6, c7, c8, c9⟩ := ten_of A7.out
                obtain ⟨z0, z1, z2, z3, z4, z5, z6, z7, z8, z9⟩ := ten_of Z7.out
                obtain ⟨f0, f1, f2, f3, f4, f5, f6, f7, f8, f9⟩ := ten_free Z7.out
                have lA := lt_of_block A7.out
                have lZ := lt_of_block Z7.out
                go_wp2_with fail
                obtain ⟨w9, hw9, hF9, k9⟩ := set10 Z7.out (Value.int IntKind.i64 n) (Value.slice p' n' c') (Value.int IntKind.u16 0) (Value.int IntKind.u16 0) (Value.int IntKind.u16 0) (Value.int IntKind.u16 0) (Value.int IntKind.u16 0) (Value.int IntKind.u16 0) (Value.int IntKind.u16 0) (Value.int IntKind.u16 0)
                rw [hw9]
                clear c0 c1 c2 c3 c4 c5 c6 c7 c8 c9 z0 z1 z2 z3 z4 z5 z6 z7 z8 z9 f0 f1 f2 f3 f4 f5 f6 f7 f8 f9 hw9
                obtain ⟨y0, y1, y2, y3, y4, y5, y6, y7, y8, y9⟩ := ten_of hF9
                have K9 := hid (K7.out.thenAt k9 (by have := HBB.out; omega))
                refine bodyPost_ret (v := .tuple #[vtab n p' (n') c', .int .i64 0]) (by simp [results, Try.results21, go_sem, y0, y1, y2, y3, y4, y5, y6, y7, y8, y9]) rfl ?_

                rw [HR2.out, ← HFV.out]
                have e9 : (M).length = n' := OW.out.len
                have w9v := ownsRow_keep O7.out k9 (fun g hg e => by rw [At] at e; have := lt_of_block Z4.out; omega)
                have hbw : B ≤ w4.heap.size := by have h1 := HBW.out; have h2 := K4.out.size; have h3 := HBB.out.1; omega
                rw [← e9] at w9v ⊢
                exact ⟨p', c', rfl, own_mono w9v hbw, K9.out⟩
              | false =>
                have HAB := hid (show v = (vp v, a * 256 + b).1.v ∧ a = (vp v, a * 256 + b).2 / 256 ∧ b = (vp v, a * 256 + b).2 % 256 from ⟨rfl, by show a = (a * 256 + b) / 256; omega, by show b = (a * 256 + b) % 256; omega⟩)
                go_upto_region 22 with (at_builtin; refine acc7_step (o := ⟨some 103, _, _, _, _, _⟩) (vp v, a * 256 + b) HAB.out HACC.out.2 (by omega) HNV.out rfl _ _ rfl rfl rfl ?_; intro p2 c2' w5 own5 k5)
                have HFV := hid (show M ++ [(vp v, a * 256 + b)] = vset7 L v (a * 256 + b) by
                  have e : L1.length = k := HM3.out
                  have h := HACC.out.1
                  rw [← e] at h
                  rw [h.last, ← HL1.out]
                  rfl)
                have OW := hid own5
                have K5 := hid (k5 w4 (Nat.le_refl _) KK.out)
                clear HACC k5 own5
                have A5 := hid (K5.out.lies A4.out)
                have Z5 := hid (K5.out.lies Z4.out)
                clear c0 c1 c2 c3 c4 c5 c6 c7 c8 c9
                obtain ⟨c0, c1, c2, c3, c4, c5, c6, c7, c8, c9⟩ := ten_of A5.out
                have q1 := tail_free A5.out 1
                have lA5 := lt_of_block A5.out
                go_upto_region 23 with (fail)
                have hA6 := setCell_block A5.out 1 (Value.slice p2 (n' + 1) c2')
                have k6 : Keeps (At bT) w5 (w5.setCell ⟨bT, 1, Option.none⟩ (Value.slice p2 (n' + 1) c2')) := (Keeps.refl _ _).set _ _ (at_self _) _
                generalize w5.setCell ⟨bT, 1, Option.none⟩ (Value.slice p2 (n' + 1) c2') = w7 at *
                have A7 := hid (show w7.heap[bT]? = some (.cells #[Value.int IntKind.i64 n, Value.slice p2 (n' + 1) c2', Value.int IntKind.u16 0, Value.int IntKind.u16 0, Value.int IntKind.u16 0, Value.int IntKind.u16 0, Value.int IntKind.u16 0, Value.int IntKind.u16 0, Value.int IntKind.u16 0, Value.int IntKind.u16 0] 57 (0, 0)) from hA6)
                have Z7 := hid (k6.lies Z5.out (fun e => by rw [At] at e; have := HBB.out; omega))
                have K7 := hid ((K4.out.trans K5.out).thenAt k6 (by have := HBB.out; omega))
                have O7 := hid (ownsRow_keep OW.out k6 (fun g hg e => by rw [At] at e; have := lt_of_block A4.out; omega))
                clear hA6 k6 c0 c1 c2 c3 c4 c5 c6 c7 c8 c9 q1 lA5
                obtain ⟨c0, c1, c2, c3, c4, c5, c6, c7, c8, c9⟩ := ten_of A7.out
                obtain ⟨z0, z1, z2, z3, z4, z5, z6, z7, z8, z9⟩ := ten_of Z7.out
                obtain ⟨f0, f1, f2, f3, f4, f5, f6, f7, f8, f9⟩ := ten_free Z7.out
                have lA := lt_of_block A7.out
                have lZ := lt_of_block Z7.out
                go_wp2_with fail
                obtain ⟨w9, hw9, hF9, k9⟩ := set10 Z7.out (Value.int IntKind.i64 n) (Value.slice p2 (n' + 1) c2') (Value.int IntKind.u16 0) (Value.int IntKind.u16 0) (Value.int IntKind.u16 0) (Value.int IntKind.u16 0) (Value.int IntKind.u16 0) (Value.int IntKind.u16 0) (Value.int IntKind.u16 0) (Value.int IntKind.u16 0)
                rw [hw9]
                clear c0 c1 c2 c3 c4 c5 c6 c7 c8 c9 z0 z1 z2 z3 z4 z5 z6 z7 z8 z9 f0 f1 f2 f3 f4 f5 f6 f7 f8 f9 hw9
                obtain ⟨y0, y1, y2, y3, y4, y5, y6, y7, y8, y9⟩ := ten_of hF9
                have K9 := hid (K7.out.thenAt k9 (by have := HBB.out; omega))
                refine bodyPost_ret (v := .tuple #[vtab n p2 ((n' + 1)) c2', .int .i64 0]) (by simp [results, Try.results21, go_sem, y0, y1, y2, y3, y4, y5, y6, y7, y8, y9]) rfl ?_

                rw [HR2.out, ← HFV.out]
                have e9 : (M ++ [(vp v, a * 256 + b)]).length = (n' + 1) := OW.out.len
                have w9v := ownsRow_keep O7.out k9 (fun g hg e => by rw [At] at e; have := lt_of_block Z4.out; omega)
                have hbw : B ≤ w4.heap.size := by have h1 := HBW.out; have h2 := K4.out.size; have h3 := HBB.out.1; omega
                rw [← e9] at w9v ⊢
                exact ⟨p2, c2', rfl, own_mono w9v hbw, K9.out⟩
end Go.Proofs.Ytcplmdgnldmhbaa
