/-
  Layer 8: the document's database: DropStatic. Conditions: its rows lie so; the numbers are in range.
-/
import Derived.Test.YtdmjpgefoppfmaaRSet
namespace Go.Proofs.Ytdmjpgefoppfmaa
open Go.RowKit
set_option linter.unusedVariables false
attribute [local go_sem ↓] Go.wp_at_zero Go.wp_at_succ
theorem flatS_take (S : List (Pl × Int)) : ∀ k, (flatS S).take (k * 8) = flatS (S.take k) := by
  induction S with
  | nil => intro k; simp [flatS]
  | cons x S ih =>
    intro k
    cases k with
    | zero => simp [flatS]
    | succ k =>
      rw [flatS_cons, List.take_succ_cons, flatS_cons, ← ih k]
      rw [show (k + 1) * 8 = (scells x).length + k * 8 from by simp; omega, List.take_append, List.take_of_length_le (by omega), Nat.add_sub_cancel_left]
theorem flatS_drop (S : List (Pl × Int)) : ∀ k, (flatS S).drop (k * 8) = flatS (S.drop k) := by
  induction S with
  | nil => intro k; simp [flatS]
  | cons x S ih =>
    intro k
    cases k with
    | zero => simp [flatS]
    | succ k =>
      rw [flatS_cons, List.drop_succ_cons, ← ih k]
      rw [show (k + 1) * 8 = (scells x).length + k * 8 from by simp; omega, List.drop_append, List.drop_eq_nil_of_le (by omega), Nat.add_sub_cancel_left, List.nil_append]

set_option maxHeartbeats 8000000 in
theorem runset_out (q : Pl) (B : Nat) (pL : Option Addr) (cL : Nat) (pS : Option Addr) (cS : Nat) (τ : Tb) (w : World) (h : RT w B pL cL pS cS τ) (hl : τ.S.length ≤ 900) (hno : ¬ (1 ≤ q.v ∧ q.v ≤ 4094)) :
    Calls Try.prog 15 #[rtab pL τ.L.length cL pS τ.S.length cS, .int .u16 q.v, q.mac] w fun e w' => e = .returned (.tuple #[rtab pL τ.L.length cL pS τ.S.length cS, .int .i64 2]) ∧ Keeps Nil w w' := by
  obtain ⟨hA, hB, hC⟩ := three_allocs w (.cells #[.slice pL τ.L.length cL, .slice pS τ.S.length cS] 32 (0, 0)) (.cells #[Value.int IntKind.u8 q.a, Value.int IntKind.u8 q.b, Value.int IntKind.u8 q.c, Value.int IntKind.u8 q.d, Value.int IntKind.u8 q.e, Value.int IntKind.u8 q.f] 25 (0, 0)) (.cells #[.slice Option.none 0 0, .slice Option.none 0 0] 32 (0, 0))
  have kz : Keeps Nil w (((w.alloc (.cells #[.slice pL τ.L.length cL, .slice pS τ.S.length cS] 32 (0, 0))).alloc (.cells #[Value.int IntKind.u8 q.a, Value.int IntKind.u8 q.b, Value.int IntKind.u8 q.c, Value.int IntKind.u8 q.d, Value.int IntKind.u8 q.e, Value.int IntKind.u8 q.f] 25 (0, 0))).alloc (.cells #[.slice Option.none 0 0, .slice Option.none 0 0] 32 (0, 0))) := (((Keeps.refl _ _).alloc _).alloc _).alloc _
  have HA := hid hA
  have HB := hid hB
  have HCB := hid hC
  have KZ := hid kz
  have H := hid (h.keepN kz)
  clear hA hB hC kz h
  by_cases g3 : 1 ≤ q.v
  · have g3' : decide (q.v < 1) = false := by simp; omega
    have g4' : decide (4094 < q.v) = true := by
      have : ¬ q.v ≤ 4094 := fun b => hno ⟨g3, b⟩
      simp; omega
    clear hno g3
    go_enter Try.func15, Try.ntmps15
    go_upto_region 1 with (fail)
    generalize (((w.alloc (.cells #[.slice pL τ.L.length cL, .slice pS τ.S.length cS] 32 (0, 0))).alloc (.cells #[Value.int IntKind.u8 q.a, Value.int IntKind.u8 q.b, Value.int IntKind.u8 q.c, Value.int IntKind.u8 q.d, Value.int IntKind.u8 q.e, Value.int IntKind.u8 q.f] 25 (0, 0))).alloc (.cells #[.slice Option.none 0 0, .slice Option.none 0 0] 32 (0, 0))) = W at *
    generalize hb8 : w.heap.size + 1 + 1 = b8 at *
    generalize hb6 : w.heap.size + 1 = b6 at *
    have HB8 := hid hb8
    have HB6 := hid hb6
    clear hb8 hb6
    obtain ⟨a0, a1⟩ := two_cells HA.out
    obtain ⟨m0, m1, m2, m3, m4, m5⟩ := six_of HB.out
    obtain ⟨z0, z1⟩ := two_cells HCB.out
    obtain ⟨f0, f1⟩ := two_free HCB.out
    go_wp2_with fail
    have HC9 := HCB
    have KZ9 := KZ
    clear a0 a1 m0 m1 m2 m3 m4 m5 z0 z1 f0 f1
    obtain ⟨w9, hw9, hF, k9⟩ := set2 HC9.out (.slice pL τ.L.length cL) (.slice pS τ.S.length cS)
    rw [hw9]
    obtain ⟨y0, y1⟩ := two_cells hF
    refine bodyPost_ret (v := .tuple #[rtab pL τ.L.length cL pS τ.S.length cS, .int .i64 2]) (by simp [results, Try.results15, go_sem, y0, y1]) rfl ?_
    exact ⟨rfl, (KZ9.out).thenAt k9 (by have := HB8.out; have := HB6.out; omega)⟩

  · have g3' : decide (q.v < 1) = true := by simp; omega
    clear hno g3
    go_enter Try.func15, Try.ntmps15
    go_upto_region 1 with (fail)
    generalize (((w.alloc (.cells #[.slice pL τ.L.length cL, .slice pS τ.S.length cS] 32 (0, 0))).alloc (.cells #[Value.int IntKind.u8 q.a, Value.int IntKind.u8 q.b, Value.int IntKind.u8 q.c, Value.int IntKind.u8 q.d, Value.int IntKind.u8 q.e, Value.int IntKind.u8 q.f] 25 (0, 0))).alloc (.cells #[.slice Option.none 0 0, .slice Option.none 0 0] 32 (0, 0))) = W at *
    generalize hb8 : w.heap.size + 1 + 1 = b8 at *
    generalize hb6 : w.heap.size + 1 = b6 at *
    have HB8 := hid hb8
    have HB6 := hid hb6
    clear hb8 hb6
    obtain ⟨a0, a1⟩ := two_cells HA.out
    obtain ⟨m0, m1, m2, m3, m4, m5⟩ := six_of HB.out
    obtain ⟨z0, z1⟩ := two_cells HCB.out
    obtain ⟨f0, f1⟩ := two_free HCB.out
    go_wp2_with fail
    have HC9 := HCB
    have KZ9 := KZ
    clear a0 a1 m0 m1 m2 m3 m4 m5 z0 z1 f0 f1
    obtain ⟨w9, hw9, hF, k9⟩ := set2 HC9.out (.slice pL τ.L.length cL) (.slice pS τ.S.length cS)
    rw [hw9]
    obtain ⟨y0, y1⟩ := two_cells hF
    refine bodyPost_ret (v := .tuple #[rtab pL τ.L.length cL pS τ.S.length cS, .int .i64 2]) (by simp [results, Try.results15, go_sem, y0, y1]) rfl ?_
    exact ⟨rfl, (KZ9.out).thenAt k9 (by have := HB8.out; have := HB6.out; omega)⟩


set_option maxHeartbeats 8000000 in
theorem runset_none (q : Pl) (B : Nat) (pL : Option Addr) (cL : Nat) (pS : Option Addr) (cS : Nat) (τ : Tb) (w : World) (h : RT w B pL cL pS cS τ) (hl : τ.S.length ≤ 900) (hv : 1 ≤ q.v ∧ q.v ≤ 4094) (hu : sget τ.S q = Option.none) :
    Calls Try.prog 15 #[rtab pL τ.L.length cL pS τ.S.length cS, .int .u16 q.v, q.mac] w fun e w' => e = .returned (.tuple #[rtab pL τ.L.length cL pS τ.S.length cS, .int .i64 7]) ∧ Keeps Nil w w' := by
  have hi := sidx_none hu
  have g3' : decide (q.v < 1) = false := by simp; omega
  have g4' : decide (4094 < q.v) = false := by simp; omega
  obtain ⟨hA, hB, hC⟩ := three_allocs w (.cells #[.slice pL τ.L.length cL, .slice pS τ.S.length cS] 32 (0, 0)) (.cells #[Value.int IntKind.u8 q.a, Value.int IntKind.u8 q.b, Value.int IntKind.u8 q.c, Value.int IntKind.u8 q.d, Value.int IntKind.u8 q.e, Value.int IntKind.u8 q.f] 25 (0, 0)) (.cells #[.slice Option.none 0 0, .slice Option.none 0 0] 32 (0, 0))
  have kz : Keeps Nil w (((w.alloc (.cells #[.slice pL τ.L.length cL, .slice pS τ.S.length cS] 32 (0, 0))).alloc (.cells #[Value.int IntKind.u8 q.a, Value.int IntKind.u8 q.b, Value.int IntKind.u8 q.c, Value.int IntKind.u8 q.d, Value.int IntKind.u8 q.e, Value.int IntKind.u8 q.f] 25 (0, 0))).alloc (.cells #[.slice Option.none 0 0, .slice Option.none 0 0] 32 (0, 0))) := (((Keeps.refl _ _).alloc _).alloc _).alloc _
  have HA := hid hA
  have HB := hid hB
  have HCB := hid hC
  have KZ := hid kz
  have H := hid (h.keepN kz)
  clear hA hB hC kz h
  have HI := hid hi
  clear hi hu
  go_enter Try.func15, Try.ntmps15
  go_upto_region 1 with (fail)
  generalize (((w.alloc (.cells #[.slice pL τ.L.length cL, .slice pS τ.S.length cS] 32 (0, 0))).alloc (.cells #[Value.int IntKind.u8 q.a, Value.int IntKind.u8 q.b, Value.int IntKind.u8 q.c, Value.int IntKind.u8 q.d, Value.int IntKind.u8 q.e, Value.int IntKind.u8 q.f] 25 (0, 0))).alloc (.cells #[.slice Option.none 0 0, .slice Option.none 0 0] 32 (0, 0))) = W at *
  generalize hb8 : w.heap.size + 1 + 1 = b8 at *
  generalize hb6 : w.heap.size + 1 = b6 at *
  have HB8 := hid hb8
  have HB6 := hid hb6
  clear hb8 hb6
  obtain ⟨a0, a1⟩ := two_cells HA.out
  obtain ⟨m0, m1, m2, m3, m4, m5⟩ := six_of HB.out
  obtain ⟨z0, z1⟩ := two_cells HCB.out
  obtain ⟨f0, f1⟩ := two_free HCB.out
  go_wp2_with fail
  refine (static_any q B pL cL pS cS τ _ H.out (by omega)).mono ?_; rintro ee w2 ⟨rfl, k2⟩
  rw [HI.out]
  clear a0 a1 m0 m1 m2 m3 m4 m5 z0 z1 f0 f1
  obtain ⟨a0, a1⟩ := two_cells ((k2.block _ (lt_of_block HA.out) (fun e => e)).trans HA.out)
  obtain ⟨m0, m1, m2, m3, m4, m5⟩ := six_of ((k2.block _ (lt_of_block HB.out) (fun e => e)).trans HB.out)
  have HC9 := hid ((k2.block _ (lt_of_block HCB.out) (fun e => e)).trans HCB.out)
  have KZ9 := hid (KZ.out.trans k2)
  obtain ⟨z0, z1⟩ := two_cells HC9.out
  obtain ⟨f0, f1⟩ := two_free HC9.out
  have hne : b8 ≠ w.heap.size := by have := HB8.out; have := HB6.out; omega
  go_wp2_with fail
  clear a0 a1 m0 m1 m2 m3 m4 m5 z0 z1 f0 f1
  obtain ⟨w9, hw9, hF, k9⟩ := set2 HC9.out (.slice pL τ.L.length cL) (.slice pS τ.S.length cS)
  rw [hw9]
  obtain ⟨y0, y1⟩ := two_cells hF
  refine bodyPost_ret (v := .tuple #[rtab pL τ.L.length cL pS τ.S.length cS, .int .i64 7]) (by simp [results, Try.results15, go_sem, y0, y1]) rfl ?_
  exact ⟨rfl, (KZ9.out).thenAt k9 (by have := HB8.out; have := HB6.out; omega)⟩

set_option maxHeartbeats 16000000 in
theorem runset_some (q : Pl) (B : Nat) (pL : Option Addr) (cL : Nat) (pS : Option Addr) (cS : Nat) (τ : Tb) (w : World) (h : RT w B pL cL pS cS τ) (hl : τ.S.length ≤ 900) (hv : 1 ≤ q.v ∧ q.v ≤ 4094) (u : Int) (ho : Once τ.S) (hu : sget τ.S q = some u) :
    Calls Try.prog 15 #[rtab pL τ.L.length cL pS τ.S.length cS, .int .u16 q.v, q.mac] w fun e w' => (∃ p2 n2 c2, e = .returned (.tuple #[rtab pL τ.L.length cL p2 n2 c2, .int .i64 0]) ∧ AccS w' w.heap.size p2 n2 c2 (sdel τ.S q)) ∧ Keeps Nil w w' := by
  obtain ⟨k, hi, hsk⟩ := sidx_some hu
  have hcut := sdel_cut ho hsk
  have hks : k < τ.S.length := (List.getElem?_eq_some_iff.1 hsk).1
  obtain ⟨g, off, hp, _⟩ := h.2.2.2 (by omega)
  subst hp
  have hnc : τ.S.length ≤ cS := h.2.2.1
  have g3' : decide (q.v < 1) = false := by simp; omega
  have g4' : decide (4094 < q.v) = false := by simp; omega
  obtain ⟨hA, hB, hC⟩ := three_allocs w (.cells #[.slice pL τ.L.length cL, .slice (some ⟨g, off, Option.none⟩) τ.S.length cS] 32 (0, 0)) (.cells #[Value.int IntKind.u8 q.a, Value.int IntKind.u8 q.b, Value.int IntKind.u8 q.c, Value.int IntKind.u8 q.d, Value.int IntKind.u8 q.e, Value.int IntKind.u8 q.f] 25 (0, 0)) (.cells #[.slice Option.none 0 0, .slice Option.none 0 0] 32 (0, 0))
  have kz : Keeps Nil w (((w.alloc (.cells #[.slice pL τ.L.length cL, .slice (some ⟨g, off, Option.none⟩) τ.S.length cS] 32 (0, 0))).alloc (.cells #[Value.int IntKind.u8 q.a, Value.int IntKind.u8 q.b, Value.int IntKind.u8 q.c, Value.int IntKind.u8 q.d, Value.int IntKind.u8 q.e, Value.int IntKind.u8 q.f] 25 (0, 0))).alloc (.cells #[.slice Option.none 0 0, .slice Option.none 0 0] 32 (0, 0))) := (((Keeps.refl _ _).alloc _).alloc _).alloc _
  have HA := hid hA
  have HB := hid hB
  have HCB := hid hC
  have KZ := hid kz
  have H := hid (h.keepN kz)
  clear hA hB hC kz h
  have HI := hid hi
  have HCUT := hid hcut
  clear hi hu hcut hsk
  go_enter Try.func15, Try.ntmps15
  go_upto_region 1 with (fail)
  generalize (((w.alloc (.cells #[.slice pL τ.L.length cL, .slice (some ⟨g, off, Option.none⟩) τ.S.length cS] 32 (0, 0))).alloc (.cells #[Value.int IntKind.u8 q.a, Value.int IntKind.u8 q.b, Value.int IntKind.u8 q.c, Value.int IntKind.u8 q.d, Value.int IntKind.u8 q.e, Value.int IntKind.u8 q.f] 25 (0, 0))).alloc (.cells #[.slice Option.none 0 0, .slice Option.none 0 0] 32 (0, 0))) = W at *
  generalize hb8 : w.heap.size + 1 + 1 = b8 at *
  generalize hb6 : w.heap.size + 1 = b6 at *
  have HB8 := hid hb8
  have HB6 := hid hb6
  clear hb8 hb6
  obtain ⟨a0, a1⟩ := two_cells HA.out
  obtain ⟨m0, m1, m2, m3, m4, m5⟩ := six_of HB.out
  obtain ⟨z0, z1⟩ := two_cells HCB.out
  obtain ⟨f0, f1⟩ := two_free HCB.out
  go_wp2_with fail
  refine (static_any q B pL cL _ cS τ _ H.out (by omega)).mono ?_; rintro ee w2 ⟨rfl, k2⟩
  rw [HI.out]
  clear a0 a1 m0 m1 m2 m3 m4 m5 z0 z1 f0 f1
  obtain ⟨a0, a1⟩ := two_cells ((k2.block _ (lt_of_block HA.out) (fun e => e)).trans HA.out)
  obtain ⟨m0, m1, m2, m3, m4, m5⟩ := six_of ((k2.block _ (lt_of_block HB.out) (fun e => e)).trans HB.out)
  have HC9 := hid ((k2.block _ (lt_of_block HCB.out) (fun e => e)).trans HCB.out)
  have KZ9 := hid (KZ.out.trans k2)
  have HA9 := hid ((k2.block _ (lt_of_block HA.out) (fun e => e)).trans HA.out)
  have hWV := (H.out.keepN k2).2
  have hT := hWV.take (k := k) (by omega)
  rw [flatS_take] at hT
  have HT := hid hT
  have hWD := hWV.drop (k := k + 1) (by omega)
  rw [flatS_drop] at hWD
  have hS : ∀ X, Keeps Nil w2 X → X.cell? ⟨w.heap.size, 0, Option.none⟩ = some (.slice pL τ.L.length cL) ∧ X.cell? ⟨w.heap.size, 1, Option.none⟩ = some (.slice (some ⟨g, off, Option.none⟩) τ.S.length cS) := fun X kx => two_cells ((kx.block _ (lt_of_block HA9.out) (fun e => e)).trans HA9.out)
  have HS := hid hS
  have kk : Keeps Nil w2 w2 := Keeps.refl _ _
  have hb86 : b8 ≠ w.heap.size ∧ b6 ≠ w.heap.size := by have := HB8.out; have := HB6.out; omega
  obtain ⟨i0, hi0, hz0, hz1, hz2⟩ := info_parts tinfo
  have HIN := hid (And.intro hi0 (And.intro hz0 (And.intro hz1 hz2)))
  have hwk : IntKind.i64.wrap ((k : Int) + 1) = (k : Int) + 1 := by rw [IntKind.wrap_i64]; omega
  clear hi0 hz0 hz1 hz2 hT hS k2
  obtain ⟨n, hn⟩ : ∃ n, τ.S.length = n := ⟨_, rfl⟩
  rw [hn] at hks hnc hWD HS hl ⊢
  have HN := hid hn
  have i0k : (0 : Int) ≤ (k : Int) := by omega
  have i1k : (k : Int) ≤ (cS : Int) := by omega
  have i2k : (k : Int) + 1 ≤ (n : Int) := by omega
  have i3k : (n : Int) ≤ (cS : Int) := by omega
  have i4k : (0 : Int) ≤ (k : Int) + 1 := by omega
  have i5k : (k : Int) ≤ (k : Int) + 1 := by omega
  by_cases hcap : cS = k + 1
  · subst hcap
    obtain rfl : n = k + 1 := by omega
    have hd0 : τ.S.drop (k + 1) = [] := List.drop_eq_nil_of_le (by omega)
    clear hWV hWD hn
    have hD0 : WV w2 B 8 (some ⟨g, off, Option.none⟩) 0 0 (flatS (τ.S.drop (k + 1))) := by rw [hd0]; exact WV.nil _ _ _ _ _
    clear hd0
    have hD : WV w2 B 8 (some ⟨g, off, Option.none⟩) 0 0 (flatS (τ.S.drop (k + 1))) := hD0
    have HD := hid hD
    clear hD
    go_wp2_with fail
    go_region_held3 (fun X => X.cell? ⟨w.heap.size, 0, Option.none⟩ = some (.slice pL τ.L.length cL) ∧ X.cell? ⟨w.heap.size, 1, Option.none⟩ = some (.slice (some ⟨g, off, Option.none⟩) (k + 1) (k + 1))) (first | exact hs2 | exact hs1 | exact HS.out _ kk | exact HS.out _ kk.drew | go_keep)
        ((first
          | (refine step_append_wv (o := ⟨some 29, _, _, _, _, _⟩) _ (by rfl) _ _ 30 (by rfl) w2.heap.size 75 i0 (.agg #[.int .u16 0, .int .u8 0, .int .u8 0, .int .u8 0, .int .u8 0, .int .u8 0, .int .u8 0, .int .u8 0]) 8 10 Try.underlying30 HIN.out.1 HIN.out.2.1 HIN.out.2.2.1 HIN.out.2.2.2 rfl (by decide) (.slice Option.none 0 0) 0 [] (by rfl) (World.ownsRow_nil _ _ _ _) B (some ⟨g, off, Option.none⟩) k (k + 1) (flatS (τ.S.take k)) (by rfl) (HT.out.keepN ((Keeps.refl Nil w2).drew)) (flatS_one _) (by unfold maxLen; omega) (by omega) (Keeps.size (S := Nil) ((Keeps.refl Nil w2).drew)) ?_; intro v1 w1 own1 hg1 hat1; have kw1 := hid (((Keeps.refl Nil w2).drew).trans (grown_nil hg1)); have hs1 := HS.out _ kw1.out)
          | (refine step_append_wv (o := ⟨some 35, _, _, _, _, _⟩) _ (by rfl) _ _ 30 (by rfl) w2.heap.size 75 i0 (.agg #[.int .u16 0, .int .u8 0, .int .u8 0, .int .u8 0, .int .u8 0, .int .u8 0, .int .u8 0, .int .u8 0]) 8 10 Try.underlying30 HIN.out.1 HIN.out.2.1 HIN.out.2.2.1 HIN.out.2.2.2 rfl (by decide) v1 _ _ (by rfl) own1 B (some ⟨g, off, Option.none⟩) 0 0 (flatS (τ.S.drop (k + 1))) (by rfl) (HD.out.keepN kw1.out) (flatS_one _) (by unfold maxLen; omega) (by omega) kw1.out.size ?_; intro v2 w2' own2 hg2 hat2; have kw2 := hid (grown_own own1 hg2 (Nat.le_refl _) kw1.out); have hs2 := HS.out _ kw2.out; obtain ⟨y0, y1⟩ := two_cells ((kw2.out.block _ (lt_of_block HC9.out) (fun e => e)).trans HC9.out); obtain ⟨y2, y3⟩ := two_free ((kw2.out.block _ (lt_of_block HC9.out) (fun e => e)).trans HC9.out); obtain ⟨p2, c2, hv2⟩ := own_shape own2; subst hv2)))
    all_goals go_wp2_with fail
    all_goals
      have ownF : AccS w2' w2.heap.size p2 k c2 (sdel τ.S q) := by
        unfold AccS
        rw [HCUT.out, flatS_append]
        simpa using own2
      have hAcc : True := trivial
      obtain ⟨w9, hw9, hF, k9⟩ := set2 ((kw2.out.block _ (lt_of_block HC9.out) (fun e => e)).trans HC9.out) (.slice pL τ.L.length cL) (.slice p2 k c2)
      rw [hw9]
      obtain ⟨y0', y1'⟩ := two_cells hF
      have hS9 : AccS w9 w2.heap.size p2 k c2 _ := ownsRow_keep ownF k9 (fun g hg e => by rw [At] at e; have h1 := lt_of_block HC9.out; omega)
      have hw2w := KZ9.out.size
      refine bodyPost_ret (v := .tuple #[rtab pL τ.L.length cL p2 k c2, .int .i64 0]) (by simp [results, Try.results15, go_sem, y0', y1']) rfl ?_
      exact ⟨⟨p2, k, c2, rfl, own_mono hS9 hw2w⟩, (KZ9.out.trans kw2.out).thenAt k9 (by have := HB8.out; have := HB6.out; omega)⟩
  · clear hWV hn
    have hD : WV w2 B 8 (some ⟨g, off + (k + 1) * 8, Option.none⟩) (n - (k + 1)) (cS - (k + 1)) (flatS (τ.S.drop (k + 1))) := hWD
    have HD := hid hD
    clear hD
    go_wp2_with fail
    go_region_held3 (fun X => X.cell? ⟨w.heap.size, 0, Option.none⟩ = some (.slice pL τ.L.length cL) ∧ X.cell? ⟨w.heap.size, 1, Option.none⟩ = some (.slice (some ⟨g, off, Option.none⟩) n cS)) (first | exact hs2 | exact hs1 | exact HS.out _ kk | exact HS.out _ kk.drew | go_keep)
        ((first
          | (refine step_append_wv (o := ⟨some 29, _, _, _, _, _⟩) _ (by rfl) _ _ 30 (by rfl) w2.heap.size 75 i0 (.agg #[.int .u16 0, .int .u8 0, .int .u8 0, .int .u8 0, .int .u8 0, .int .u8 0, .int .u8 0, .int .u8 0]) 8 10 Try.underlying30 HIN.out.1 HIN.out.2.1 HIN.out.2.2.1 HIN.out.2.2.2 rfl (by decide) (.slice Option.none 0 0) 0 [] (by rfl) (World.ownsRow_nil _ _ _ _) B (some ⟨g, off, Option.none⟩) k cS (flatS (τ.S.take k)) (by rfl) (HT.out.keepN ((Keeps.refl Nil w2).drew)) (flatS_one _) (by unfold maxLen; omega) (by omega) (Keeps.size (S := Nil) ((Keeps.refl Nil w2).drew)) ?_; intro v1 w1 own1 hg1 hat1; have kw1 := hid (((Keeps.refl Nil w2).drew).trans (grown_nil hg1)); have hs1 := HS.out _ kw1.out)
          | (refine step_append_wv (o := ⟨some 35, _, _, _, _, _⟩) _ (by rfl) _ _ 30 (by rfl) w2.heap.size 75 i0 (.agg #[.int .u16 0, .int .u8 0, .int .u8 0, .int .u8 0, .int .u8 0, .int .u8 0, .int .u8 0, .int .u8 0]) 8 10 Try.underlying30 HIN.out.1 HIN.out.2.1 HIN.out.2.2.1 HIN.out.2.2.2 rfl (by decide) v1 _ _ (by rfl) own1 B (some ⟨g, off + (k + 1) * 8, Option.none⟩) (n - (k + 1)) (cS - (k + 1)) (flatS (τ.S.drop (k + 1))) (by rfl) (HD.out.keepN kw1.out) (flatS_one _) (by unfold maxLen; omega) (by omega) kw1.out.size ?_; intro v2 w2' own2 hg2 hat2; have kw2 := hid (grown_own own1 hg2 (Nat.le_refl _) kw1.out); have hs2 := HS.out _ kw2.out; obtain ⟨y0, y1⟩ := two_cells ((kw2.out.block _ (lt_of_block HC9.out) (fun e => e)).trans HC9.out); obtain ⟨y2, y3⟩ := two_free ((kw2.out.block _ (lt_of_block HC9.out) (fun e => e)).trans HC9.out); obtain ⟨p2, c2, hv2⟩ := own_shape own2; subst hv2)))
    all_goals go_wp2_with fail
    all_goals
      have ownF : AccS w2' w2.heap.size p2 (k + (n - (k + 1))) c2 (sdel τ.S q) := by
        unfold AccS
        rw [HCUT.out, flatS_append]
        simpa using own2
      have hAcc : True := trivial
      obtain ⟨w9, hw9, hF, k9⟩ := set2 ((kw2.out.block _ (lt_of_block HC9.out) (fun e => e)).trans HC9.out) (.slice pL τ.L.length cL) (.slice p2 (k + (n - (k + 1))) c2)
      rw [hw9]
      obtain ⟨y0', y1'⟩ := two_cells hF
      have hS9 : AccS w9 w2.heap.size p2 (k + (n - (k + 1))) c2 _ := ownsRow_keep ownF k9 (fun g hg e => by rw [At] at e; have h1 := lt_of_block HC9.out; omega)
      have hw2w := KZ9.out.size
      refine bodyPost_ret (v := .tuple #[rtab pL τ.L.length cL p2 (k + (n - (k + 1))) c2, .int .i64 0]) (by simp [results, Try.results15, go_sem, y0', y1']) rfl ?_
      exact ⟨⟨p2, (k + (n - (k + 1))), c2, rfl, own_mono hS9 hw2w⟩, (KZ9.out.trans kw2.out).thenAt k9 (by have := HB8.out; have := HB6.out; omega)⟩
end Go.Proofs.Ytdmjpgefoppfmaa
