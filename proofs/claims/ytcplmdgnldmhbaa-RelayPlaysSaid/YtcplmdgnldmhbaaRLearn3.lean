/-
  Layer 8: the document's database: Learn, where the row is full. Conditions: its rows lie so; the numbers are in range.
-/
import Derived.Test.YtcplmdgnldmhbaaRLearn2
namespace Go.Proofs.Ytcplmdgnldmhbaa
open Go.RowKit
set_option linter.unusedVariables false
attribute [local go_sem ↓] Go.wp_at_zero Go.wp_at_succ

set_option maxHeartbeats 16000000 in
theorem rlearn_full (q : Pl) (hq : q.Ok) (port : Int) (B : Nat) (pL : Option Addr) (cL : Nat) (pS : Option Addr) (cS : Nat) (τ : Tb) (w : World) (h : RT w B pL cL pS cS τ) (hl : τ.S.length ≤ 1000) (hL : τ.L.length ≤ 900) (hmay : mayLearn q port) (hu : sget τ.S q = Option.none) (h32 : (τ.L.filter (fun x => !(decide (q = x.p)))).length = 32) :
    Calls Try.prog 51 #[rtab pL τ.L.length cL pS τ.S.length cS, .int .u16 q.v, q.mac, .int .u8 port] w fun e w' => (∃ p n c, e = .returned (rtab p n c pS τ.S.length cS) ∧ Acc w' w.heap.size p n c ((τ.L.filter (fun x => !(decide (q = x.p)))).drop 1 ++ [⟨q, port, 0⟩])) ∧ Keeps Nil w w' := by
  have hi := sidx_none hu
  obtain ⟨g1, g2, g3, g4⟩ := hmay
  have g1' : (q.a.tmod 2 == 1) = false := by rw [tmod_odd _ hq.2.1.1]; simp [g1]
  have g2' : decide (7 < port) = false := by simp; omega
  have g3' : decide (q.v < 1) = false := by simp; omega
  have g4' : decide (4094 < q.v) = false := by simp; omega
  clear g1 g2 g3 g4
  obtain ⟨hA, hB, hC⟩ := three_allocs w (.cells #[.slice pL τ.L.length cL, .slice pS τ.S.length cS] 61 (0, 0)) (.cells #[Value.int IntKind.u8 q.a, Value.int IntKind.u8 q.b, Value.int IntKind.u8 q.c, Value.int IntKind.u8 q.d, Value.int IntKind.u8 q.e, Value.int IntKind.u8 q.f] 31 (0, 0)) (.cells #[.slice Option.none 0 0, .slice Option.none 0 0] 61 (0, 0))
  have kz : Keeps Nil w (((w.alloc (.cells #[.slice pL τ.L.length cL, .slice pS τ.S.length cS] 61 (0, 0))).alloc (.cells #[Value.int IntKind.u8 q.a, Value.int IntKind.u8 q.b, Value.int IntKind.u8 q.c, Value.int IntKind.u8 q.d, Value.int IntKind.u8 q.e, Value.int IntKind.u8 q.f] 31 (0, 0))).alloc (.cells #[.slice Option.none 0 0, .slice Option.none 0 0] 61 (0, 0))) := (((Keeps.refl _ _).alloc _).alloc _).alloc _
  have HA := hid hA
  have HB := hid hB
  have HCB := hid hC
  have KZ := hid kz
  have H := hid (h.keepN kz)
  clear hA hB hC kz h
  have HI := hid hi
  have H32 := hid h32
  clear hi hu h32
  go_enter Try.func51, Try.ntmps51
  go_upto_region 1 with (fail)
  generalize (((w.alloc (.cells #[.slice pL τ.L.length cL, .slice pS τ.S.length cS] 61 (0, 0))).alloc (.cells #[Value.int IntKind.u8 q.a, Value.int IntKind.u8 q.b, Value.int IntKind.u8 q.c, Value.int IntKind.u8 q.d, Value.int IntKind.u8 q.e, Value.int IntKind.u8 q.f] 31 (0, 0))).alloc (.cells #[.slice Option.none 0 0, .slice Option.none 0 0] 61 (0, 0))) = W at *
  generalize hb8 : w.heap.size + 1 + 1 = b8 at *
  generalize hb6 : w.heap.size + 1 = b6 at *
  have HB8 := hid hb8
  have HB6 := hid hb6
  clear hb8 hb6
  obtain ⟨a0, a1⟩ := two_cells HA.out
  obtain ⟨m0, m1, m2, m3, m4, m5⟩ := six_of HB.out
  obtain ⟨z0, z1⟩ := two_cells HCB.out
  obtain ⟨f0, f1⟩ := two_free HCB.out
  go_wp2_with fail
  refine (static_any q B pL cL pS cS τ _ H.out hl).mono ?_; rintro ee w2 ⟨rfl, k2⟩
  rw [HI.out]
  clear a0 a1 m0 m1 m2 m3 m4 m5 z0 z1 f0 f1
  obtain ⟨a0, a1⟩ := two_cells ((k2.block _ (lt_of_block HA.out) (fun e => e)).trans HA.out)
  obtain ⟨m0, m1, m2, m3, m4, m5⟩ := six_of ((k2.block _ (lt_of_block HB.out) (fun e => e)).trans HB.out)
  have HC9 := hid ((k2.block _ (lt_of_block HCB.out) (fun e => e)).trans HCB.out)
  have KZ9 := hid (KZ.out.trans k2)
  have HA9 := hid ((k2.block _ (lt_of_block HA.out) (fun e => e)).trans HA.out)
  have HB9 := hid ((k2.block _ (lt_of_block HB.out) (fun e => e)).trans HB.out)
  have H9 := hid (H.out.keepN k2)
  clear k2
  go_wp2_with fail
  refine (without_any q B pL cL pS cS τ _ H9.out hL).mono ?_; rintro ee w3 ⟨⟨p3, n3, c3, rfl, acc3⟩, k3⟩
  obtain rfl : n3 = 32 := by have h1 := acc3.len; have h2 := H32.out; omega
  obtain ⟨g, hp3, hc3⟩ : ∃ g, p3 = some ⟨g, 0, Option.none⟩ ∧ 32 ≤ c3 := by
    rcases acc3.2 with ⟨_, h0⟩ | ⟨g, cap, cur, e, _, _, hle, _⟩
    · omega
    · injection e with e1 e2 e3; subst e3; exact ⟨g, e1, hle⟩
  subst hp3
  have hA3 := (k3.block _ (lt_of_block HA9.out) (fun e => e)).trans HA9.out
  have hB3 := (k3.block _ (lt_of_block HB9.out) (fun e => e)).trans HB9.out
  have hC3 := (k3.block _ (lt_of_block HC9.out) (fun e => e)).trans HC9.out
  clear a0 a1 m0 m1 m2 m3 m4 m5
  obtain ⟨a0, a1⟩ := two_cells hA3
  obtain ⟨f0, f1⟩ := two_free hA3
  have HA3 := hid hA3
  have HB3 := hid hB3
  have HC3 := hid hC3
  have ACC := hid acc3
  have K3 := hid (KZ9.out.trans k3)
  clear hA3 hB3 hC3 acc3 k3
  go_upto_region 4 with (fail)
  obtain ⟨V, hV, hV4, kv⟩ := set2 HA3.out (.slice (some ⟨g, 0, Option.none⟩) 32 c3) (.slice pS τ.S.length cS)
  rw [hV]
  have hb86 : b8 ≠ w.heap.size ∧ b6 ≠ w.heap.size := by have := HB8.out; have := HB6.out; omega
  have hb68 : b8 ≠ b6 := by have := HB8.out; omega
  have hb68' : b6 ≠ b8 := hb68.symm
  have HV4 := hid hV4
  have HV6 := hid ((kv.block _ (lt_of_block HB3.out) (fun e => hb86.2 e)).trans HB3.out)
  have HV8 := hid ((kv.block _ (lt_of_block HC3.out) (fun e => hb86.1 e)).trans HC3.out)
  have hlt4 := lt_of_block HA9.out
  have hWV0 := (WV.of_own ACC.out).keep kv (fun g hg _ e => by rw [At] at e; omega)
  have hWV : WV V w2.heap.size 9 (some ⟨g, 9, Option.none⟩) 31 (c3 - 1) (flat ((τ.L.filter (fun x => !(decide (q = x.p)))).drop 1)) := by
    have h1 := hWV0.drop (k := 1) (by omega)
    have e1 : flat ((τ.L.filter (fun x => !(decide (q = x.p)))).drop 1) = (flat (τ.L.filter (fun x => !(decide (q = x.p))))).drop (1 * 9) := by
      cases τ.L.filter (fun x => !(decide (q = x.p))) with
      | nil => simp [flat]
      | cons y r => simp [flat]
    rw [e1]
    exact h1
  have HWV := hid hWV
  have KV := hid (K3.out.thenAt kv (Nat.le_refl _))
  generalize hBV : w2.heap.size = BV at *
  clear a0 a1 f0 f1 hV hV4 kv hWV hWV0
  obtain ⟨a0, a1⟩ := two_cells HV4.out
  obtain ⟨f0, f1⟩ := two_free HV4.out
  have hc31 : ¬ c3 = 1 := by omega
  go_upto_region 6 with (fail)
  have kv2 : Keeps (At w.heap.size) V (V.setCell ⟨w.heap.size, 0, Option.none⟩ (.slice (some ⟨g, 9, Option.none⟩) 31 (c3 - 1))) := (Keeps.refl _ _).set _ _ (at_self _) _
  have h4 := setCell_block HV4.out 0 (.slice (some ⟨g, 9, Option.none⟩) 31 (c3 - 1))
  have h6 := (kv2.block _ (lt_of_block HV6.out) (fun e => hb86.2 e)).trans HV6.out
  have h8 := (kv2.block _ (lt_of_block HV8.out) (fun e => hb86.1 e)).trans HV8.out
  have hW := HWV.out.keep kv2 (fun g hg _ e => by rw [At] at e; omega)
  have hK := KV.out.thenAt kv2 (Nat.le_refl _)
  clear HV4 HV6 HV8 HWV KV kv2 a0 a1 f0 f1
  generalize V.setCell ⟨w.heap.size, 0, Option.none⟩ (.slice (some ⟨g, 9, Option.none⟩) 31 (c3 - 1)) = V2 at *
  have HV4 : Hid (V2.heap[w.heap.size]? = some (.cells #[.slice (some ⟨g, 9, Option.none⟩) 31 (c3 - 1), .slice pS τ.S.length cS] 61 (0, 0))) := h4
  have HV6 := hid h6
  have HV8 := hid h8
  have HWV := hid hW
  have KV := hid hK
  clear h4 h6 h8 hW hK
  obtain ⟨i0, hi0, hz0, hz1, hz2⟩ := info_parts rinfo
  have HIN := hid (And.intro hi0 (And.intro hz0 (And.intro hz1 hz2)))
  have hS : ∀ X, Keeps Nil V2 X → (X.cell? ⟨w.heap.size, 0, Option.none⟩ = some (.slice (some ⟨g, 9, Option.none⟩) 31 (c3 - 1)) ∧ X.cell? ⟨w.heap.size, 1, Option.none⟩ = some (.slice pS τ.S.length cS)) ∧ X.cell? ⟨b6, 0, Option.none⟩ = some (.int .u8 q.a) ∧ X.cell? ⟨b6, 1, Option.none⟩ = some (.int .u8 q.b) ∧ X.cell? ⟨b6, 2, Option.none⟩ = some (.int .u8 q.c) ∧ X.cell? ⟨b6, 3, Option.none⟩ = some (.int .u8 q.d) ∧ X.cell? ⟨b6, 4, Option.none⟩ = some (.int .u8 q.e) ∧ X.cell? ⟨b6, 5, Option.none⟩ = some (.int .u8 q.f) := fun X kx =>
    ⟨two_cells ((kx.block _ (lt_of_block HV4.out) (fun e => e)).trans HV4.out), six_of ((kx.block _ (lt_of_block HV6.out) (fun e => e)).trans HV6.out)⟩
  have HS := hid hS
  have kk : Keeps Nil V2 V2 := Keeps.refl _ _
  obtain ⟨⟨b0, b1⟩, e0, e1, e2, e3, e4, e5⟩ := hS V2 kk
  clear hS hi0 hz0 hz1 hz2
  go_region_held3 (fun X => (X.cell? ⟨w.heap.size, 0, Option.none⟩ = some (.slice (some ⟨g, 9, Option.none⟩) 31 (c3 - 1)) ∧ X.cell? ⟨w.heap.size, 1, Option.none⟩ = some (.slice pS τ.S.length cS)) ∧ X.cell? ⟨b6, 0, Option.none⟩ = some (.int .u8 q.a) ∧ X.cell? ⟨b6, 1, Option.none⟩ = some (.int .u8 q.b) ∧ X.cell? ⟨b6, 2, Option.none⟩ = some (.int .u8 q.c) ∧ X.cell? ⟨b6, 3, Option.none⟩ = some (.int .u8 q.d) ∧ X.cell? ⟨b6, 4, Option.none⟩ = some (.int .u8 q.e) ∧ X.cell? ⟨b6, 5, Option.none⟩ = some (.int .u8 q.f)) (first | exact hs2 | exact hs1 | exact HS.out _ kk | exact HS.out _ kk.drew | exact HS.out _ (kk.alloc _) | exact HS.out _ (kk.drew.alloc _) | exact HS.out _ (kk.alloc _).drew | exact HS.out _ (kw1.out.alloc _) | go_keep)
    ((first
      | (refine step_append_wv (o := ⟨some 47, _, _, _, _, _⟩) _ (by rfl) _ _ 58 (by rfl) V2.heap.size 109 i0 (.agg #[.int .u16 0, .int .u8 0, .int .u8 0, .int .u8 0, .int .u8 0, .int .u8 0, .int .u8 0, .int .u8 0, .int .i64 0]) 9 24 Try.underlying58 HIN.out.1 HIN.out.2.1 HIN.out.2.2.1 HIN.out.2.2.2 rfl (by decide) (.slice Option.none 0 0) 0 [] (by rfl) (World.ownsRow_nil _ _ _ _) BV (some ⟨g, 9, Option.none⟩) 31 (c3 - 1) (flat ((τ.L.filter (fun x => !(decide (q = x.p)))).drop 1)) (by rfl) (HWV.out.keepN ((Keeps.refl Nil V2).drew)) (flat_one _) (by unfold maxLen; omega) (by omega) (Keeps.size (S := Nil) ((Keeps.refl Nil V2).drew)) ?_; intro v1 w1 own1 hg1 hat1; have kw1 := hid (((Keeps.refl Nil V2).drew).trans (grown_nil hg1)); have hs1 := HS.out _ kw1.out)
      | (refine step_append_wv (o := ⟨some 47, _, _, _, _, _⟩) _ (by rfl) _ _ 58 (by rfl) V2.heap.size 109 i0 (.agg #[.int .u16 0, .int .u8 0, .int .u8 0, .int .u8 0, .int .u8 0, .int .u8 0, .int .u8 0, .int .u8 0, .int .i64 0]) 9 24 Try.underlying58 HIN.out.1 HIN.out.2.1 HIN.out.2.2.1 HIN.out.2.2.2 rfl (by decide) (.slice Option.none 0 0) 0 [] (by rfl) (World.ownsRow_nil _ _ _ _) BV (some ⟨g, 9, Option.none⟩) 31 (c3 - 1) (flat ((τ.L.filter (fun x => !(decide (q = x.p)))).drop 1)) (by rfl) (HWV.out.keepN (((Keeps.refl Nil V2).alloc (.cells #[.int .u16 q.v, .int .u8 q.a, .int .u8 q.b, .int .u8 q.c, .int .u8 q.d, .int .u8 q.e, .int .u8 q.f, .int .u8 port, .int .i64 0] 109 (0, 0))).drew)) (flat_one _) (by unfold maxLen; omega) (by omega) (Keeps.size (S := Nil) (((Keeps.refl Nil V2).alloc (.cells #[.int .u16 q.v, .int .u8 q.a, .int .u8 q.b, .int .u8 q.c, .int .u8 q.d, .int .u8 q.e, .int .u8 q.f, .int .u8 port, .int .i64 0] 109 (0, 0))).drew)) ?_; intro v1 w1 own1 hg1 hat1; have kw1 := hid ((((Keeps.refl Nil V2).alloc (.cells #[.int .u16 q.v, .int .u8 q.a, .int .u8 q.b, .int .u8 q.c, .int .u8 q.d, .int .u8 q.e, .int .u8 q.f, .int .u8 port, .int .i64 0] 109 (0, 0))).drew).trans (grown_nil hg1)); have hs1 := HS.out _ kw1.out)
      | (have _g : V2.drew.grownBy w1 _ := hg1; refine step_append_wv (o := ⟨some 53, _, _, _, _, _⟩) _ (by rfl) _ _ 58 (by rfl) V2.heap.size 109 i0 (.agg #[.int .u16 0, .int .u8 0, .int .u8 0, .int .u8 0, .int .u8 0, .int .u8 0, .int .u8 0, .int .u8 0, .int .i64 0]) 9 24 Try.underlying58 HIN.out.1 HIN.out.2.1 HIN.out.2.2.1 HIN.out.2.2.2 rfl (by decide) v1 _ _ (by rfl) (ownsRow_keep own1 ((Keeps.refl Nil w1).alloc _) (fun _ _ e => e)) 0 (some ⟨w1.heap.size, 0, Option.none⟩) 1 1 (En.cells ⟨q, port, 0⟩) (by rfl) (WV.new w1 #[.int .u16 q.v, .int .u8 q.a, .int .u8 q.b, .int .u8 q.c, .int .u8 q.d, .int .u8 q.e, .int .u8 q.f, .int .u8 port, .int .i64 0] 109 9 rfl) (by simp [Value.oneCell']) (by unfold maxLen; omega) (by omega) (Nat.le_trans kw1.out.size (by simp)) ?_; intro v2 w2' own2 hg2 hat2; have kw2 := hid (grown_own own1 hg2 (Nat.le_refl _) (kw1.out.alloc _)); have hs2 := HS.out _ kw2.out; have hb8 := (kw2.out.block _ (lt_of_block HV8.out) (fun e => e)).trans HV8.out; obtain ⟨y0, y1⟩ := two_cells hb8; obtain ⟨y2, y3⟩ := two_free hb8; obtain ⟨p2, c2, hv2⟩ := own_shape own2; subst hv2; have HY := hid hb8; clear hb8)
      | (have _g : (V2.alloc _).drew.grownBy w1 _ := hg1; have hnew := (WV.new V2 #[.int .u16 q.v, .int .u8 q.a, .int .u8 q.b, .int .u8 q.c, .int .u8 q.d, .int .u8 q.e, .int .u8 q.f, .int .u8 port, .int .i64 0] 109 9 rfl).keepN ((Keeps.refl Nil (V2.alloc (.cells #[.int .u16 q.v, .int .u8 q.a, .int .u8 q.b, .int .u8 q.c, .int .u8 q.d, .int .u8 q.e, .int .u8 q.f, .int .u8 port, .int .i64 0] 109 (0, 0)))).drew.trans (grown_nil hg1)); refine step_append_wv (o := ⟨some 53, _, _, _, _, _⟩) _ (by rfl) _ _ 58 (by rfl) V2.heap.size 109 i0 (.agg #[.int .u16 0, .int .u8 0, .int .u8 0, .int .u8 0, .int .u8 0, .int .u8 0, .int .u8 0, .int .u8 0, .int .i64 0]) 9 24 Try.underlying58 HIN.out.1 HIN.out.2.1 HIN.out.2.2.1 HIN.out.2.2.2 rfl (by decide) v1 _ _ (by rfl) own1 0 (some ⟨V2.heap.size, 0, Option.none⟩) 1 1 (En.cells ⟨q, port, 0⟩) (by rfl) hnew (by simp [Value.oneCell']) (by unfold maxLen; omega) (by omega) kw1.out.size ?_; intro v2 w2' own2 hg2 hat2; have kw2 := hid (grown_own own1 hg2 (Nat.le_refl _) kw1.out); have hs2 := HS.out _ kw2.out; have hb8 := (kw2.out.block _ (lt_of_block HV8.out) (fun e => e)).trans HV8.out; obtain ⟨y0, y1⟩ := two_cells hb8; obtain ⟨y2, y3⟩ := two_free hb8; obtain ⟨p2, c2, hv2⟩ := own_shape own2; subst hv2; have HY := hid hb8; clear hb8)))
  all_goals go_wp2_with fail
  all_goals
    have hacc : Acc w2' V2.heap.size p2 32 c2 (((τ.L.filter (fun x => !(decide (q = x.p)))).drop 1) ++ [⟨q, port, 0⟩]) := by
      have e1 : flat (((τ.L.filter (fun x => !(decide (q = x.p)))).drop 1) ++ [⟨q, port, 0⟩]) = [] ++ flat ((τ.L.filter (fun x => !(decide (q = x.p)))).drop 1) ++ En.cells ⟨q, port, 0⟩ := by rw [flat_append]; simp [flat]
      unfold Acc
      rw [e1]
      simpa using own2
    obtain ⟨w9, hw9, hF, hAcc, hK⟩ := acc_close (u := .slice p2 32 c2) (v := .slice pS τ.S.length cS) KV.out kw2.out hacc HY.out (by have := HB8.out; have := HB6.out; omega) (lt_of_block HV8.out)
    rw [hw9]
    obtain ⟨y0, y1⟩ := two_cells hF
    refine bodyPost_ret (v := rtab p2 32 c2 pS τ.S.length cS) (by simp [results, Try.results51, go_sem, y0, y1]) rfl ?_
    exact ⟨⟨p2, 32, c2, rfl, by simpa using hAcc⟩, hK⟩
end Go.Proofs.Ytcplmdgnldmhbaa
