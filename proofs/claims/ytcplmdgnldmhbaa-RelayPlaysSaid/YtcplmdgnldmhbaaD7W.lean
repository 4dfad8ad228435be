/-
  Layer 7: the document's table of VLANs: without. Conditions: its rows lie so.
-/
import Derived.Test.YtcplmdgnldmhbaaD7
namespace Go.Proofs.Ytcplmdgnldmhbaa
open Go.RowKit
set_option linter.unusedVariables false
set_option linter.unusedSimpArgs false

theorem ten_free {w : World} {b : Nat} {T : TypeId} {x0 x1 x2 x3 x4 x5 x6 x7 x8 x9 : Value} (h : w.heap[b]? = some (.cells #[x0, x1, x2, x3, x4, x5, x6, x7, x8, x9] T (0, 0))) :
    w.frozen? ⟨b, 0, Option.none⟩ = false ∧ w.frozen? ⟨b, 1, Option.none⟩ = false ∧ w.frozen? ⟨b, 2, Option.none⟩ = false ∧ w.frozen? ⟨b, 3, Option.none⟩ = false ∧ w.frozen? ⟨b, 4, Option.none⟩ = false ∧ w.frozen? ⟨b, 5, Option.none⟩ = false ∧ w.frozen? ⟨b, 6, Option.none⟩ = false ∧ w.frozen? ⟨b, 7, Option.none⟩ = false ∧ w.frozen? ⟨b, 8, Option.none⟩ = false ∧ w.frozen? ⟨b, 9, Option.none⟩ = false := by
  simp [World.frozen?, h]
theorem set10 {w : World} {b : Nat} {T : TypeId} {x0 x1 x2 x3 x4 x5 x6 x7 x8 x9 : Value} (h : w.heap[b]? = some (.cells #[x0, x1, x2, x3, x4, x5, x6, x7, x8, x9] T (0, 0))) (u0 u1 u2 u3 u4 u5 u6 u7 u8 u9 : Value) :
    ∃ w2, ((((((((((w.setCell ⟨b, 0, Option.none⟩ u0).setCell ⟨b, 1, Option.none⟩ u1).setCell ⟨b, 2, Option.none⟩ u2).setCell ⟨b, 3, Option.none⟩ u3).setCell ⟨b, 4, Option.none⟩ u4).setCell ⟨b, 5, Option.none⟩ u5).setCell ⟨b, 6, Option.none⟩ u6).setCell ⟨b, 7, Option.none⟩ u7).setCell ⟨b, 8, Option.none⟩ u8).setCell ⟨b, 9, Option.none⟩ u9) = w2 ∧ w2.heap[b]? = some (.cells #[u0, u1, u2, u3, u4, u5, u6, u7, u8, u9] T (0, 0)) ∧ Keeps (At b) w w2 := by
  have h0 : (w.setCell ⟨b, 0, Option.none⟩ u0).heap[b]? = some (.cells #[u0, x1, x2, x3, x4, x5, x6, x7, x8, x9] T (0, 0)) := setCell_block h 0 u0
  have h1 : ((w.setCell ⟨b, 0, Option.none⟩ u0).setCell ⟨b, 1, Option.none⟩ u1).heap[b]? = some (.cells #[u0, u1, x2, x3, x4, x5, x6, x7, x8, x9] T (0, 0)) := setCell_block h0 1 u1
  have h2 : (((w.setCell ⟨b, 0, Option.none⟩ u0).setCell ⟨b, 1, Option.none⟩ u1).setCell ⟨b, 2, Option.none⟩ u2).heap[b]? = some (.cells #[u0, u1, u2, x3, x4, x5, x6, x7, x8, x9] T (0, 0)) := setCell_block h1 2 u2
  have h3 : ((((w.setCell ⟨b, 0, Option.none⟩ u0).setCell ⟨b, 1, Option.none⟩ u1).setCell ⟨b, 2, Option.none⟩ u2).setCell ⟨b, 3, Option.none⟩ u3).heap[b]? = some (.cells #[u0, u1, u2, u3, x4, x5, x6, x7, x8, x9] T (0, 0)) := setCell_block h2 3 u3
  have h4 : (((((w.setCell ⟨b, 0, Option.none⟩ u0).setCell ⟨b, 1, Option.none⟩ u1).setCell ⟨b, 2, Option.none⟩ u2).setCell ⟨b, 3, Option.none⟩ u3).setCell ⟨b, 4, Option.none⟩ u4).heap[b]? = some (.cells #[u0, u1, u2, u3, u4, x5, x6, x7, x8, x9] T (0, 0)) := setCell_block h3 4 u4
  have h5 : ((((((w.setCell ⟨b, 0, Option.none⟩ u0).setCell ⟨b, 1, Option.none⟩ u1).setCell ⟨b, 2, Option.none⟩ u2).setCell ⟨b, 3, Option.none⟩ u3).setCell ⟨b, 4, Option.none⟩ u4).setCell ⟨b, 5, Option.none⟩ u5).heap[b]? = some (.cells #[u0, u1, u2, u3, u4, u5, x6, x7, x8, x9] T (0, 0)) := setCell_block h4 5 u5
  have h6 : (((((((w.setCell ⟨b, 0, Option.none⟩ u0).setCell ⟨b, 1, Option.none⟩ u1).setCell ⟨b, 2, Option.none⟩ u2).setCell ⟨b, 3, Option.none⟩ u3).setCell ⟨b, 4, Option.none⟩ u4).setCell ⟨b, 5, Option.none⟩ u5).setCell ⟨b, 6, Option.none⟩ u6).heap[b]? = some (.cells #[u0, u1, u2, u3, u4, u5, u6, x7, x8, x9] T (0, 0)) := setCell_block h5 6 u6
  have h7 : ((((((((w.setCell ⟨b, 0, Option.none⟩ u0).setCell ⟨b, 1, Option.none⟩ u1).setCell ⟨b, 2, Option.none⟩ u2).setCell ⟨b, 3, Option.none⟩ u3).setCell ⟨b, 4, Option.none⟩ u4).setCell ⟨b, 5, Option.none⟩ u5).setCell ⟨b, 6, Option.none⟩ u6).setCell ⟨b, 7, Option.none⟩ u7).heap[b]? = some (.cells #[u0, u1, u2, u3, u4, u5, u6, u7, x8, x9] T (0, 0)) := setCell_block h6 7 u7
  have h8 : (((((((((w.setCell ⟨b, 0, Option.none⟩ u0).setCell ⟨b, 1, Option.none⟩ u1).setCell ⟨b, 2, Option.none⟩ u2).setCell ⟨b, 3, Option.none⟩ u3).setCell ⟨b, 4, Option.none⟩ u4).setCell ⟨b, 5, Option.none⟩ u5).setCell ⟨b, 6, Option.none⟩ u6).setCell ⟨b, 7, Option.none⟩ u7).setCell ⟨b, 8, Option.none⟩ u8).heap[b]? = some (.cells #[u0, u1, u2, u3, u4, u5, u6, u7, u8, x9] T (0, 0)) := setCell_block h7 8 u8
  have h9 : ((((((((((w.setCell ⟨b, 0, Option.none⟩ u0).setCell ⟨b, 1, Option.none⟩ u1).setCell ⟨b, 2, Option.none⟩ u2).setCell ⟨b, 3, Option.none⟩ u3).setCell ⟨b, 4, Option.none⟩ u4).setCell ⟨b, 5, Option.none⟩ u5).setCell ⟨b, 6, Option.none⟩ u6).setCell ⟨b, 7, Option.none⟩ u7).setCell ⟨b, 8, Option.none⟩ u8).setCell ⟨b, 9, Option.none⟩ u9).heap[b]? = some (.cells #[u0, u1, u2, u3, u4, u5, u6, u7, u8, u9] T (0, 0)) := setCell_block h8 9 u9
  exact ⟨_, rfl, h9, (((((((((((Keeps.refl _ _).set _ _ (at_self _) _).set _ _ (at_self _) _).set _ _ (at_self _) _).set _ _ (at_self _) _).set _ _ (at_self _) _).set _ _ (at_self _) _).set _ _ (at_self _) _).set _ _ (at_self _) _).set _ _ (at_self _) _).set _ _ (at_self _) _)⟩
theorem take_keepV {L : List (Pl × Int)} {j : Nat} {x : Pl × Int} (hx : L[j]? = some x) (f : Pl × Int → Bool) : (L.take (j + 1)).filter f = (L.take j).filter f ++ if f x then [x] else [] := by
  have hl := (List.getElem?_eq_some_iff.1 hx).1
  rw [List.take_succ_eq_append_getElem hl, List.filter_append]
  have : L[j] = x := by rw [List.getElem?_eq_getElem hl] at hx; exact Option.some.inj hx
  rw [this]
  cases hp : f x <;> simp [hp]
theorem acc7_step {ops : Array Oper} {rest : List Oper} {o : Oper} {a : Act} {Q : Exit → Act → World → Prop} {V : World} {N : Nat} {p : Option Addr} {n c : Nat} {M : List (Pl × Int)} (x : Pl × Int) {e0 e1 e2 : Int} (hx : e0 = x.1.v ∧ e1 = x.2 / 256 ∧ e2 = x.2 % 256) (h : Acc7 V N p n c M) (hn : n ≤ 1000) (hN : N ≤ V.heap.size) (hgd : o.guard = Option.none) (s y : Operand)
    (ho : o.op = .call { callee := .builtin .append, args := #[s, y], argTypes := #[54, 54] }) (hs : a.eval s = .slice p n c) (hy : a.eval y = .slice (some ⟨V.heap.size, 0, Option.none⟩) 1 1)
    (hk : ∀ p' c' w1, Acc7 w1 N p' (n + 1) c' (M ++ [x]) → (∀ W0 : World, W0.heap.size ≤ N → Keeps Nil W0 V → Keeps Nil W0 w1) → wpList Try.prog ops Q rest (a.put o.dst (.slice p' (n + 1) c')) w1) :
    wpList Try.prog ops Q (o :: rest) a (V.alloc (.cells #[.int .u16 e0, .int .u8 e1, .int .u8 e2] 104 (0, 0))) := by
  obtain ⟨rfl, rfl, rfl⟩ := hx
  obtain ⟨i0, hi, hz0, hz1, hz2⟩ := info_parts vinfo
  refine wpList_append_wv _ hgd s y 54 ho N 104 i0 (.agg #[.int .u16 0, .int .u8 0, .int .u8 0]) 3 4 Try.underlying54 hi hz0 hz1 hz2 rfl (by decide) (.slice p n c) n (flatV M) hs (ownsRow_keep h ((Keeps.refl Nil V).alloc _) (fun _ _ e => e)) 0 _ 1 1 (vcells x) hy (WV.new V #[.int .u16 x.1.v, .int .u8 (x.2 / 256), .int .u8 (x.2 % 256)] 104 3 rfl) (flatV_one [x] |> fun h => by simpa [flatV] using h) (by unfold maxLen; omega) (by omega) (by simp; omega) ?_
  intro v1 w1 own1 hg1 hat1
  have e1 : flatV M ++ vcells x = flatV (M ++ [x]) := by rw [flatV_append]; simp [flatV]
  rw [e1] at own1
  have own1 : w1.ownsRow N 104 3 v1 (n + 1) (flatV (M ++ [x])) := own1
  obtain ⟨p', c', hv⟩ := own_shape own1
  subst hv
  exact hk p' c' w1 own1 (fun W0 h0 k0 => (k0.alloc _).grown hg1 (fun g hg hlt => by have := own_ge h hg; omega))

set_option maxHeartbeats 8000000 in
theorem rwithout_any (v : Int) (n : Int) (B : Nat) (p : Option Addr) (c : Nat) (L : List (Pl × Int)) (w : World) (h : WV w B 3 p L.length c (flatV L)) (hk : KeyV L) (hl : L.length ≤ 100) :
    Calls Try.prog 46 #[vtab n p L.length c, .int .u16 v] w fun e w' => (∃ P M C, e = .returned (vtab n P M C) ∧ Acc7 w' w.heap.size P M C (sdel L (vp v))) ∧ Keeps Nil w w' := by
  obtain ⟨hA, hC⟩ := two_allocs w (.cells #[Value.int IntKind.i64 n, Value.slice p L.length c, Value.int IntKind.u16 0, Value.int IntKind.u16 0, Value.int IntKind.u16 0, Value.int IntKind.u16 0, Value.int IntKind.u16 0, Value.int IntKind.u16 0, Value.int IntKind.u16 0, Value.int IntKind.u16 0] 57 (0, 0)) (.cells #[Value.int IntKind.i64 0, Value.slice Option.none 0 0, Value.int IntKind.u16 0, Value.int IntKind.u16 0, Value.int IntKind.u16 0, Value.int IntKind.u16 0, Value.int IntKind.u16 0, Value.int IntKind.u16 0, Value.int IntKind.u16 0, Value.int IntKind.u16 0] 57 (0, 0))
  have kz : Keeps Nil w ((w.alloc (.cells #[Value.int IntKind.i64 n, Value.slice p L.length c, Value.int IntKind.u16 0, Value.int IntKind.u16 0, Value.int IntKind.u16 0, Value.int IntKind.u16 0, Value.int IntKind.u16 0, Value.int IntKind.u16 0, Value.int IntKind.u16 0, Value.int IntKind.u16 0] 57 (0, 0))).alloc (.cells #[Value.int IntKind.i64 0, Value.slice Option.none 0 0, Value.int IntKind.u16 0, Value.int IntKind.u16 0, Value.int IntKind.u16 0, Value.int IntKind.u16 0, Value.int IntKind.u16 0, Value.int IntKind.u16 0, Value.int IntKind.u16 0, Value.int IntKind.u16 0] 57 (0, 0))) := ((Keeps.refl _ _).alloc _).alloc _
  have HA := hid hA
  have HCB := hid hC
  have KZ := hid kz
  have H := hid (h.keepN kz)
  have HK := hid hk
  clear hA hC kz h hk
  go_enter Try.func46, Try.ntmps46
  go_upto_region 1 with (fail)
  generalize ((w.alloc (.cells #[Value.int IntKind.i64 n, Value.slice p L.length c, Value.int IntKind.u16 0, Value.int IntKind.u16 0, Value.int IntKind.u16 0, Value.int IntKind.u16 0, Value.int IntKind.u16 0, Value.int IntKind.u16 0, Value.int IntKind.u16 0, Value.int IntKind.u16 0] 57 (0, 0))).alloc (.cells #[Value.int IntKind.i64 0, Value.slice Option.none 0 0, Value.int IntKind.u16 0, Value.int IntKind.u16 0, Value.int IntKind.u16 0, Value.int IntKind.u16 0, Value.int IntKind.u16 0, Value.int IntKind.u16 0, Value.int IntKind.u16 0, Value.int IntKind.u16 0] 57 (0, 0))) = W at *
  generalize hb1 : w.heap.size + 1 = b1 at *
  have HB1 := hid hb1
  clear hb1
  obtain ⟨a0, a1, a2, a3, a4, a5, a6, a7, a8, a9⟩ := ten_of HA.out
  obtain ⟨m, hn⟩ : ∃ m, L.length = m := ⟨_, rfl⟩
  rw [hn] at hl HA a1
  have HN := hid hn
  clear hn
  go_wp2_with fail
  go_loopw [5, 6] (fun s5 s6 wr => ∃ (k n' : Nat) (p' : Option Addr) (c' : Nat), k ≤ m ∧ n' ≤ k ∧ s6 = .int .i64 k ∧ s5 = .slice p' n' c' ∧ Keeps Nil W wr ∧ Hid (Acc7 wr W.heap.size p' n' c' ((L.take k).filter (fun x => decide (x.1 ≠ vp v))))) (fun _ s6 _ => m - (intOf s6).toNat)
  case atStart => exact ⟨0, 0, Option.none, 0, Nat.zero_le _, Nat.le_refl _, rfl, rfl, Keeps.refl _ _, hid (World.ownsRow_nil _ _ _ _)⟩
  case round =>
    obtain ⟨k, n', p', c', hk, hnk, rfl, rfl, kk, hacc⟩ := hrel
    obtain ⟨a0, a1, a2, a3, a4, a5, a6, a7, a8, a9⟩ := ten_of (kk.lies HA.out)
    by_cases hlt : k < m
    · obtain ⟨x, hx⟩ : ∃ x, L[k]? = some x := ⟨_, List.getElem?_eq_getElem (by have := HN.out; omega)⟩
      obtain ⟨g, off, hp, _, hg, c0, c1, c2⟩ := (H.out.keepN kk).vlan hx
      have HX := hid hx
      subst hp
      have hnc : m ≤ c := by have := H.out.2.1; have := HN.out; omega
      have HNE := hid (HK.out.ne hx v)
      clear hx
      cases hq : (x.1.v != v) with
      | false =>
        have HQ := hid (HNE.out.2 (by simpa using hq))
        go_wp2_with fail
        go_roundw
        case rel =>
          refine ⟨k + 1, n', p', c', by omega, by omega, by go_num, rfl, kk, hid ?_⟩
          rw [take_keepV HX.out, HQ.out]
          simp only [ne_eq, not_true_eq_false, decide_false, Bool.false_eq_true, if_false, List.append_nil]
          exact hacc.out
        case measure => simp only [intOf]; omega
      | true =>
        have HQ := hid (show ¬ x.1 = vp v from fun e => by have := HNE.out.1 e; simp [this] at hq)
        have OWN := hid hacc.out
        have HNV := hid (show W.heap.size ≤ wr.heap.size from kk.size)
        have KK := hid kk
        clear kk
        go_wp2_with (at_builtin; refine acc7_step (o := ⟨some 29, _, _, _, _, _⟩) x ⟨rfl, rfl, rfl⟩ OWN.out (by omega) HNV.out rfl _ _ rfl rfl rfl ?_; intro p2 c2 w2 own2 k2)
        go_roundw
        case rel =>
          refine ⟨k + 1, n' + 1, p2, c2, by omega, by omega, by go_num, rfl, k2 W (Nat.le_refl _) KK.out, hid ?_⟩
          rw [take_keepV HX.out]
          simp only [ne_eq, HQ.out, not_false_eq_true, decide_true, if_true]
          exact own2
        case measure => simp only [intOf]; omega
    · obtain rfl : k = m := by omega
      have hC := kk.lies HCB.out
      obtain ⟨z0, z1, z2, z3, z4, z5, z6, z7, z8, z9⟩ := ten_of hC
      obtain ⟨f0, f1, f2, f3, f4, f5, f6, f7, f8, f9⟩ := ten_free hC
      obtain ⟨q0, q1, q2, q3, q4, q5, q6, q7, q8, q9⟩ := ten_free (kk.lies HA.out)
      have HAk := hid (kk.lies HA.out)
      have HC := hid hC
      clear hC
      rw [List.take_of_length_le (Nat.le_of_eq HN.out)] at hacc
      have HACC := hid hacc.out
      have KK := hid kk
      clear kk hacc
      have hne : w.heap.size ≠ b1 := by have := HB1.out; omega
      have HS := hid (show w.heap.size < W.heap.size ∧ b1 < W.heap.size from ⟨lt_of_block HA.out, lt_of_block HCB.out⟩)
      go_upto_region 8 with (fail)
      generalize hw3 : wr.setCell ⟨w.heap.size, 1, Option.none⟩ (Value.slice p' n' c') = w3 at *
      have k3 : Keeps (At w.heap.size) wr w3 := by rw [← hw3]; exact (Keeps.refl _ _).set _ _ (at_self _) _
      have hA3 := setCell_block HAk.out 1 (Value.slice p' n' c')
      rw [hw3] at hA3
      have hA3 : w3.heap[w.heap.size]? = some (.cells #[Value.int IntKind.i64 n, Value.slice p' n' c', Value.int IntKind.u16 0, Value.int IntKind.u16 0, Value.int IntKind.u16 0, Value.int IntKind.u16 0, Value.int IntKind.u16 0, Value.int IntKind.u16 0, Value.int IntKind.u16 0, Value.int IntKind.u16 0] 57 (0, 0)) := hA3
      have hC3 := k3.lies HC.out (fun e => hne e.symm)
      clear a0 a1 a2 a3 a4 a5 a6 a7 a8 a9 z0 z1 z2 z3 z4 z5 z6 z7 z8 z9 f0 f1 f2 f3 f4 f5 f6 f7 f8 f9 q0 q1 q2 q3 q4 q5 q6 q7 q8 q9
      obtain ⟨a0, a1, a2, a3, a4, a5, a6, a7, a8, a9⟩ := ten_of hA3
      obtain ⟨z0, z1, z2, z3, z4, z5, z6, z7, z8, z9⟩ := ten_of hC3
      obtain ⟨f0, f1, f2, f3, f4, f5, f6, f7, f8, f9⟩ := ten_free hC3
      have HC3 := hid hC3
      have K3 := hid k3
      clear hA3 hC3 k3 hw3
      go_wp2_with fail
      obtain ⟨w9, hw9, hF, k9⟩ := set10 HC3.out (Value.int IntKind.i64 n) (Value.slice p' n' c') (Value.int IntKind.u16 0) (Value.int IntKind.u16 0) (Value.int IntKind.u16 0) (Value.int IntKind.u16 0) (Value.int IntKind.u16 0) (Value.int IntKind.u16 0) (Value.int IntKind.u16 0) (Value.int IntKind.u16 0)
      rw [hw9]
      clear a0 a1 a2 a3 a4 a5 a6 a7 a8 a9 z0 z1 z2 z3 z4 z5 z6 z7 z8 z9 f0 f1 f2 f3 f4 f5 f6 f7 f8 f9
      obtain ⟨y0, y1, y2, y3, y4, y5, y6, y7, y8, y9⟩ := ten_of hF
      refine bodyPost_ret (v := vtab n p' n' c') (by simp [results, Try.results46, go_sem, y0, y1, y2, y3, y4, y5, y6, y7, y8, y9]) rfl ?_
      have KA : Keeps Nil w wr := KZ.out.trans KK.out
      have hs := HS.out
      refine ⟨⟨p', n', c', rfl, ?_⟩, (KA.thenAt K3.out (Nat.le_refl _)).thenAt k9 (by have := HB1.out; omega)⟩
      have o3 := ownsRow_keep HACC.out K3.out (fun g hg e => by rw [At] at e; omega)
      have o9 := ownsRow_keep o3 k9 (fun g hg e => by rw [At] at e; omega)
      exact own_mono o9 KZ.out.size
end Go.Proofs.Ytcplmdgnldmhbaa
