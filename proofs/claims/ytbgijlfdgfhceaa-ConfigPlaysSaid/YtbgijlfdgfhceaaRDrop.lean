/-
  Layer 16: the document's table: DropMep, DropMip. Conditions: it lies so; the numbers are in range.
-/
import Derived.Test.YtbgijlfdgfhceaaRTab
namespace Go.Proofs.Ytbgijlfdgfhceaa
open Go.RowKit
set_option linter.unusedVariables false
set_option linter.unusedSimpArgs false
set_option maxRecDepth 8000

theorem rinfoE : (Try.prog.info? 39).map (fun i => (i.zero, i.size, i.bytes)) = some (some (.agg #[.int .i64 0, .int .u16 0, .int .u8 0, .bool false]), 4, 16) := by kernel_rfl
theorem rinfoM : (Try.prog.info? 41).map (fun i => (i.zero, i.size, i.bytes)) = some (some (.agg #[.int .u8 0, .int .u16 0, .int .u8 0]), 3, 6) := by kernel_rfl
def nE (a i : Int) (x : Me) : Bool := !dropB a i x
theorem own_mono {w : World} {B B' : Nat} {e : TypeId} {sz n : Nat} {v : Value} {xs : List Value} (h : w.ownsRow B e sz v n xs) (hB : B' ≤ B) : w.ownsRow B' e sz v n xs := own_less h hB
theorem take_keepA {α : Type} {L : List α} {j : Nat} {x : α} (hx : L[j]? = some x) (f : α → Bool) : (L.take (j + 1)).filter f = (L.take j).filter f ++ if f x then [x] else [] := by
  have hl := (List.getElem?_eq_some_iff.1 hx).1
  rw [List.take_succ_eq_append_getElem hl, List.filter_append]
  have : L[j] = x := by rw [List.getElem?_eq_getElem hl] at hx; exact Option.some.inj hx
  rw [this]
  cases hp : f x <;> simp [hp]

/-- One more is appended. -/
theorem accE_step {ops : Array Oper} {rest : List Oper} {o : Oper} {a : Act} {Q : Exit → Act → World → Prop} {V : World} {N : Nat} {p : Option Addr} {n c : Nat} {M : List Me} (x : Me) (h : V.ownsRow N 39 4 (.slice p n c) n (flatE M)) (hn : n ≤ 1000) (hN : N ≤ V.heap.size) (hgd : o.guard = Option.none) (s y : Operand)
    (ho : o.op = .call { callee := .builtin .append, args := #[s, y], argTypes := #[31, 31] }) (hs : a.eval s = .slice p n c) (hy : a.eval y = .slice (some ⟨V.heap.size, 0, Option.none⟩) 1 1)
    (hk : ∀ p' c' w1, w1.ownsRow N 39 4 (.slice p' (n + 1) c') (n + 1) (flatE (M ++ [x])) → (∀ W0 : World, W0.heap.size ≤ N → Keeps Nil W0 V → Keeps Nil W0 w1) → wpList Try.prog ops Q rest (a.put o.dst (.slice p' (n + 1) c')) w1) :
    wpList Try.prog ops Q (o :: rest) a (V.alloc (.cells #[.int .i64 x.ai, .int .u16 x.id, .int .u8 x.port, .bool x.up] 39 (0, 0))) := by
  obtain ⟨i0, hi, hz0, hz1, hz2⟩ := info_parts rinfoE
  refine wpList_append_wv _ hgd s y 31 ho N 39 i0 (.agg #[.int .i64 0, .int .u16 0, .int .u8 0, .bool false]) 4 16 Try.underlying31 hi hz0 hz1 hz2 rfl (by decide) (.slice p n c) n (flatE M) hs (ownsRow_keep h ((Keeps.refl Nil V).alloc _) (fun _ _ e => e)) 0 _ 1 1 [.int .i64 x.ai, .int .u16 x.id, .int .u8 x.port, .bool x.up] hy (WV.new V #[.int .i64 x.ai, .int .u16 x.id, .int .u8 x.port, .bool x.up] 39 4 rfl) (flatE_one [x] |> fun h => by simpa [flatE] using h) (by unfold maxLen; omega) (by omega) (by simp; omega) ?_
  intro v1 w1 own1 hg1 hat1
  have e1 : flatE M ++ [.int .i64 x.ai, .int .u16 x.id, .int .u8 x.port, .bool x.up] = flatE (M ++ [x]) := by rw [flatE_append]; simp [flatE]
  rw [e1] at own1
  have own1 : w1.ownsRow N 39 4 v1 (n + 1) (flatE (M ++ [x])) := own1
  obtain ⟨p', c', hv⟩ := own_shape own1
  subst hv
  exact hk p' c' w1 own1 (fun W0 h0 k0 => (k0.alloc _).grown hg1 (fun g hg hlt => by have := own_ge h hg; omega))

/-- One more is appended. -/
theorem accM_step {ops : Array Oper} {rest : List Oper} {o : Oper} {a : Act} {Q : Exit → Act → World → Prop} {V : World} {N : Nat} {p : Option Addr} {n c : Nat} {M : List Mi} (x : Mi) (h : V.ownsRow N 41 3 (.slice p n c) n (flatM M)) (hn : n ≤ 1000) (hN : N ≤ V.heap.size) (hgd : o.guard = Option.none) (s y : Operand)
    (ho : o.op = .call { callee := .builtin .append, args := #[s, y], argTypes := #[32, 32] }) (hs : a.eval s = .slice p n c) (hy : a.eval y = .slice (some ⟨V.heap.size, 0, Option.none⟩) 1 1)
    (hk : ∀ p' c' w1, w1.ownsRow N 41 3 (.slice p' (n + 1) c') (n + 1) (flatM (M ++ [x])) → (∀ W0 : World, W0.heap.size ≤ N → Keeps Nil W0 V → Keeps Nil W0 w1) → wpList Try.prog ops Q rest (a.put o.dst (.slice p' (n + 1) c')) w1) :
    wpList Try.prog ops Q (o :: rest) a (V.alloc (.cells #[.int .u8 x.port, .int .u16 x.vid, .int .u8 x.lv] 41 (0, 0))) := by
  obtain ⟨i0, hi, hz0, hz1, hz2⟩ := info_parts rinfoM
  refine wpList_append_wv _ hgd s y 32 ho N 41 i0 (.agg #[.int .u8 0, .int .u16 0, .int .u8 0]) 3 6 Try.underlying32 hi hz0 hz1 hz2 rfl (by decide) (.slice p n c) n (flatM M) hs (ownsRow_keep h ((Keeps.refl Nil V).alloc _) (fun _ _ e => e)) 0 _ 1 1 [.int .u8 x.port, .int .u16 x.vid, .int .u8 x.lv] hy (WV.new V #[.int .u8 x.port, .int .u16 x.vid, .int .u8 x.lv] 41 3 rfl) (flatM_one [x] |> fun h => by simpa [flatM] using h) (by unfold maxLen; omega) (by omega) (by simp; omega) ?_
  intro v1 w1 own1 hg1 hat1
  have e1 : flatM M ++ [.int .u8 x.port, .int .u16 x.vid, .int .u8 x.lv] = flatM (M ++ [x]) := by rw [flatM_append]; simp [flatM]
  rw [e1] at own1
  have own1 : w1.ownsRow N 41 3 v1 (n + 1) (flatM (M ++ [x])) := own1
  obtain ⟨p', c', hv⟩ := own_shape own1
  subst hv
  exact hk p' c' w1 own1 (fun W0 h0 k0 => (k0.alloc _).grown hg1 (fun g hg hlt => by have := own_ge h hg; omega))

set_option maxHeartbeats 8000000 in
theorem r_dropmep (a i : Int) (k : Nat) {w0 w : World} {τ : CT} {x : Value} (h : RV w0 w k τ x) (hg : τ.Good) (hk : k ≤ 100) :
    Calls Try.prog 25 #[x, .int .i64 a, .int .u16 i] w fun e w' => (∃ v', e = .returned (.tuple #[v', .int .i64 (τ.dropMep a i).2]) ∧ RV w0 w' (k + 1) (τ.dropMep a i).1 v') ∧ Keeps Nil w w' := by
  obtain ⟨pA, cA, pE, cE, pM, cM, L, R, rfl, h⟩ := h
  obtain ⟨hA, hC⟩ := two_alloc w (.cells #[.int .i64 τ.n, .slice pA L.length cA, .slice pE τ.E.length cE, .slice pM R.length cM] 34 (0, 0)) (.cells #[.int .i64 0, .slice Option.none 0 0, .slice Option.none 0 0, .slice Option.none 0 0] 34 (0, 0))
  have kz : Keeps Nil w ((w.alloc (.cells #[.int .i64 τ.n, .slice pA L.length cA, .slice pE τ.E.length cE, .slice pM R.length cM] 34 (0, 0))).alloc (.cells #[.int .i64 0, .slice Option.none 0 0, .slice Option.none 0 0, .slice Option.none 0 0] 34 (0, 0))) := ((Keeps.refl _ _).alloc _).alloc _
  have KZ := hid kz
  have H0 := hid h
  have H := hid (h.keepN kz)
  have HG := hid hg
  have hlen : τ.E.length ≤ 100 := by first | exact Nat.le_trans h.mat.len hk | exact hg.E
  have hnc := h.rowE.2.1
  have HC0 := hid hC
  clear kz h hg hC
  go_enter Try.func25, Try.ntmps25
  go_upto_region 1 with (fail)
  generalize ((w.alloc (.cells #[.int .i64 τ.n, .slice pA L.length cA, .slice pE τ.E.length cE, .slice pM R.length cM] 34 (0, 0))).alloc (.cells #[.int .i64 0, .slice Option.none 0 0, .slice Option.none 0 0, .slice Option.none 0 0] 34 (0, 0))) = W at *
  generalize hb1 : w.heap.size + 1 = b1 at *
  have HB1 := hid hb1
  clear hb1
  obtain ⟨n, hn⟩ : ∃ n, τ.E.length = n := ⟨_, rfl⟩
  rw [hn] at hA hlen hnc
  have HA := hid hA
  have HN := hid hn
  clear hA hn
  go_wp2_with fail
  go_loopw [8, 9] (fun s8 s9 wr => ∃ (j n' : Nat) (p' : Option Addr) (c' : Nat), j ≤ n ∧ n' ≤ j ∧ s9 = .int .i64 j ∧ s8 = .slice p' n' c' ∧ Hid (Keeps Nil W wr ∧ wr.ownsRow W.heap.size 39 4 (.slice p' n' c') n' (flatE ((τ.E.take j).filter (nE a i))))) (fun _ s9 _ => n - (intOf s9).toNat)
  case atStart => exact ⟨0, 0, Option.none, 0, Nat.zero_le _, Nat.le_refl _, rfl, rfl, hid ⟨Keeps.refl _ _, World.ownsRow_nil _ _ _ _⟩⟩
  case round =>
    obtain ⟨j, n', p', c', hj, hnj, rfl, rfl, HR⟩ := hrel
    have kk := HR.out.1
    have hA := kk.lies HA.out
    obtain ⟨a0, a1, a2, a3⟩ := four_block hA
    have lA := lt_of_block hA
    clear hA
    by_cases hlt : j < n
    · obtain ⟨y, hy⟩ : ∃ y, τ.E[j]? = some y := ⟨_, List.getElem?_eq_getElem (by have := HN.out; omega)⟩
      obtain ⟨g, off, hp, _, hgl, _, c0, c1, c2, c3⟩ := (H.out.rowE.keepN kk).atE hy
      subst hp
      have HY := hid hy
      have HNV := hid (show W.heap.size ≤ wr.heap.size from kk.size)
      have KK := hid kk
      have OWN := hid HR.out.2
      clear hy kk HR
      cases q1 : (y.ai != a) with
      | false =>
        cases q2 : (y.id != i) with
        | false =>
          have HF := hid (show nE a i y = false by simp at q1 q2; simp [nE, dropB, q1, q2])
          go_wp2_with fail
          go_roundw
          case rel =>
            refine ⟨j + 1, n', p', c', by omega, by omega, by go_num, rfl, hid ⟨KK.out, ?_⟩⟩
            rw [take_keepA HY.out, HF.out]
            simpa using OWN.out
          case measure => simp only [intOf]; omega
        | true =>
          have HF := hid (show nE a i y = true by simp at q1 q2; simp [nE, dropB]; intros; simp_all)
          go_wp2_with (at_builtin; refine accE_step (o := ⟨some 42, _, _, _, _, _⟩) y OWN.out (by omega) HNV.out rfl _ _ rfl rfl rfl ?_; intro p2 c2 w2 own2 k2)
          go_roundw
          case rel =>
            refine ⟨j + 1, n' + 1, p2, c2, by omega, by omega, by go_num, rfl, hid ⟨k2 W (Nat.le_refl _) KK.out, ?_⟩⟩
            rw [take_keepA HY.out, HF.out]
            exact own2
          case measure => simp only [intOf]; omega
      | true =>
        have HF := hid (show nE a i y = true by simp at q1; simp [nE, dropB]; intros; simp_all)
        go_wp2_with (at_builtin; refine accE_step (o := ⟨some 42, _, _, _, _, _⟩) y OWN.out (by omega) HNV.out rfl _ _ rfl rfl rfl ?_; intro p2 c2 w2 own2 k2)
        go_roundw
        case rel =>
          refine ⟨j + 1, n' + 1, p2, c2, by omega, by omega, by go_num, rfl, hid ⟨k2 W (Nat.le_refl _) KK.out, ?_⟩⟩
          rw [take_keepA HY.out, HF.out]
          exact own2
        case measure => simp only [intOf]; omega
    · obtain rfl : j = n := by omega
      have hC := kk.lies HC0.out
      have HA2 := hid (kk.lies HA.out)
      have HC := hid hC
      have HL := hid (show ((τ.E).filter (nE a i)).length = n' by
        have h1 := HR.out.2.1
        rw [List.take_of_length_le (Nat.le_of_eq HN.out), flatE_len] at h1
        omega)
      have OWN := hid (show wr.ownsRow W.heap.size 39 4 (.slice p' n' c') n' (flatE ((τ.E).filter (nE a i))) by
        have h1 := HR.out.2
        rwa [List.take_of_length_le (Nat.le_of_eq HN.out)] at h1)
      have KK := hid kk
      have hb01 := HB1.out
      have hne : w.heap.size ≠ b1 := by omega
      have hlW : w.heap.size < W.heap.size ∧ b1 < W.heap.size := ⟨lt_of_block HA.out, lt_of_block HC0.out⟩
      have HW := hid hlW
      obtain ⟨z0, z1, z2, z3⟩ := four_block hC
      obtain ⟨f0, f1, f2, f3⟩ := four_free hC
      have lC := lt_of_block hC
      clear hC hlW HR kk
      by_cases hq : n' = j
      · have HD := hid (show τ.dropMep a i = (τ, 7) by unfold CT.dropMep; rw [show (fun x => !dropB a i x) = nE a i from rfl, if_pos (by have := HL.out; have := HN.out; omega)])
        have qe : ((n' : Int) == (j : Int)) = true := by simp [hq]
        have qe' : (n' == j) = true := by simp [hq]
        go_wp2_with fail
        obtain ⟨w2, hw2, hF, k2⟩ := set4 HC.out (.int .i64 τ.n) (.slice pA L.length cA) (.slice pE j cE) (.slice pM R.length cM)
        rw [hw2]
        obtain ⟨y0, y1, y2, y3⟩ := four_block hF
        clear z0 z1 z2 z3 f0 f1 f2 f3 a0 a1 a2 a3
        have KF := hid ((KZ.out.trans KK.out).thenAt k2 (by omega))
        clear hw2
        refine bodyPost_ret (v := .tuple #[.agg #[.int .i64 τ.n, .slice pA L.length cA, .slice pE j cE, .slice pM R.length cM], .int .i64 7]) (by simp [results, Try.results25, go_sem, y0, y1, y2, y3]) rfl ?_
        rw [HD.out]
        have e := HN.out
        subst e
        exact ⟨⟨_, rfl, ((H0.out.keepN KF.out).more).rv⟩, KF.out⟩
      · have HD := hid (show τ.dropMep a i = ({ τ with E := τ.E.filter (nE a i) }, 0) by unfold CT.dropMep; rw [show (fun x => !dropB a i x) = nE a i from rfl, if_neg (by have := HL.out; have := HN.out; omega)])
        have qe : ((n' : Int) == (j : Int)) = false := by simp; omega
        have qe' : (n' == j) = false := by simp; omega
        obtain ⟨g0, g1, g2, g3⟩ := four_free HA2.out
        go_upto_region 10 with (fail)
        clear g0 g1 g2 g3
        generalize hw3 : wr.setCell ⟨w.heap.size, 2, Option.none⟩ (.slice p' n' c') = w3 at *
        have k3 : Keeps (At w.heap.size) wr w3 := by rw [← hw3]; exact (Keeps.refl _ _).set _ _ (at_self _) _
        have hA3 := setCell_block HA2.out 2 (.slice p' n' c')
        rw [hw3] at hA3
        have hA3 : w3.heap[w.heap.size]? = some (.cells #[.int .i64 τ.n, .slice pA L.length cA, .slice p' n' c', .slice pM R.length cM] 34 (0, 0)) := hA3
        have hC3 := k3.lies HC.out (fun e => hne e.symm)
        clear z0 z1 z2 z3 f0 f1 f2 f3 a0 a1 a2 a3
        obtain ⟨a0, a1, a2, a3⟩ := four_block hA3
        obtain ⟨z0, z1, z2, z3⟩ := four_block hC3
        obtain ⟨f0, f1, f2, f3⟩ := four_free hC3
        have lA3 := lt_of_block hA3
        have lC3 := lt_of_block hC3
        have HC3 := hid hC3
        have K3 := hid k3
        clear hA3 hC3 k3 hw3
        go_wp2_with fail
        obtain ⟨w9, hw9, hF, k9⟩ := set4 HC3.out (.int .i64 τ.n) (.slice pA L.length cA) (.slice p' n' c') (.slice pM R.length cM)
        rw [hw9]
        obtain ⟨y0, y1, y2, y3⟩ := four_block hF
        clear z0 z1 z2 z3 f0 f1 f2 f3 a0 a1 a2 a3 hw9
        have KF := hid (((KZ.out.trans KK.out).thenAt K3.out (Nat.le_refl _)).thenAt k9 (by omega))
        have hW := HW.out
        have OF := hid (ownsRow_keep (ownsRow_keep OWN.out K3.out (fun g hg e => by rw [At] at e; omega)) k9 (fun g hg e => by rw [At] at e; omega))
        refine bodyPost_ret (v := .tuple #[.agg #[.int .i64 τ.n, .slice pA L.length cA, .slice p' n' c', .slice pM R.length cM], .int .i64 0]) (by simp [results, Try.results25, go_sem, y0, y1, y2, y3]) rfl ?_
        rw [HD.out]
        have HF := H0.out.keepN KF.out
        have hv := own_mono OF.out (Nat.zero_le _)
        have e := HL.out
        subst e
        exact ⟨⟨_, rfl, ⟨pA, cA, _, _, pM, cM, L, R, rfl, HF.base, HF.ownA, HF.bare, HF.nums, hv, HF.ownM, HF.mat.more⟩⟩, KF.out⟩

set_option maxHeartbeats 8000000 in
theorem r_dropmip (p v : Int) (k : Nat) {w0 w : World} {τ : CT} {x : Value} (h : RV w0 w k τ x) (hg : τ.Good) (hk : k ≤ 100) :
    Calls Try.prog 27 #[x, .int .u8 p, .int .u16 v] w fun e w' => (∃ v', e = .returned (.tuple #[v', .int .i64 (τ.dropMip p v).2]) ∧ RV w0 w' (k + 1) (τ.dropMip p v).1 v') ∧ Keeps Nil w w' := by
  obtain ⟨pA, cA, pE, cE, pM, cM, L, R, rfl, h⟩ := h
  obtain ⟨hA, hC⟩ := two_alloc w (.cells #[.int .i64 τ.n, .slice pA L.length cA, .slice pE τ.E.length cE, .slice pM R.length cM] 34 (0, 0)) (.cells #[.int .i64 0, .slice Option.none 0 0, .slice Option.none 0 0, .slice Option.none 0 0] 34 (0, 0))
  have kz : Keeps Nil w ((w.alloc (.cells #[.int .i64 τ.n, .slice pA L.length cA, .slice pE τ.E.length cE, .slice pM R.length cM] 34 (0, 0))).alloc (.cells #[.int .i64 0, .slice Option.none 0 0, .slice Option.none 0 0, .slice Option.none 0 0] 34 (0, 0))) := ((Keeps.refl _ _).alloc _).alloc _
  have KZ := hid kz
  have H0 := hid h
  have H := hid (h.keepN kz)
  have HG := hid hg
  have hlen : R.length ≤ 100 := by first | exact Nat.le_trans h.mat.len hk | exact hg.E
  have hnc := h.rowM.2.1
  have HC0 := hid hC
  clear kz h hg hC
  go_enter Try.func27, Try.ntmps27
  go_upto_region 1 with (fail)
  generalize ((w.alloc (.cells #[.int .i64 τ.n, .slice pA L.length cA, .slice pE τ.E.length cE, .slice pM R.length cM] 34 (0, 0))).alloc (.cells #[.int .i64 0, .slice Option.none 0 0, .slice Option.none 0 0, .slice Option.none 0 0] 34 (0, 0))) = W at *
  generalize hb1 : w.heap.size + 1 = b1 at *
  have HB1 := hid hb1
  clear hb1
  obtain ⟨n, hn⟩ : ∃ n, R.length = n := ⟨_, rfl⟩
  rw [hn] at hA hlen hnc
  have HA := hid hA
  have HN := hid hn
  clear hA hn
  go_wp2_with fail
  go_loopw [8, 9] (fun s8 s9 wr => ∃ (j n' : Nat) (p' : Option Addr) (c' : Nat), j ≤ n ∧ n' ≤ j ∧ s9 = .int .i64 j ∧ s8 = .slice p' n' c' ∧ Hid (Keeps Nil W wr ∧ wr.ownsRow W.heap.size 41 3 (.slice p' n' c') n' (flatM ((R.take j).filter (nM p v))))) (fun _ s9 _ => n - (intOf s9).toNat)
  case atStart => exact ⟨0, 0, Option.none, 0, Nat.zero_le _, Nat.le_refl _, rfl, rfl, hid ⟨Keeps.refl _ _, World.ownsRow_nil _ _ _ _⟩⟩
  case round =>
    obtain ⟨j, n', p', c', hj, hnj, rfl, rfl, HR⟩ := hrel
    have kk := HR.out.1
    have hA := kk.lies HA.out
    obtain ⟨a0, a1, a2, a3⟩ := four_block hA
    have lA := lt_of_block hA
    clear hA
    by_cases hlt : j < n
    · obtain ⟨y, hy⟩ : ∃ y, R[j]? = some y := ⟨_, List.getElem?_eq_getElem (by have := HN.out; omega)⟩
      obtain ⟨g, off, hp, _, hgl, _, c0, c1, c2⟩ := (H.out.rowM.keepN kk).atM hy
      subst hp
      have HY := hid hy
      have HNV := hid (show W.heap.size ≤ wr.heap.size from kk.size)
      have KK := hid kk
      have OWN := hid HR.out.2
      clear hy kk HR
      cases q1 : (y.port != p) with
      | false =>
        cases q2 : (y.vid != v) with
        | false =>
          have HF := hid (show nM p v y = false by simp at q1 q2; simp [nM, isM, q1, q2])
          go_wp2_with fail
          go_roundw
          case rel =>
            refine ⟨j + 1, n', p', c', by omega, by omega, by go_num, rfl, hid ⟨KK.out, ?_⟩⟩
            rw [take_keepA HY.out, HF.out]
            simpa using OWN.out
          case measure => simp only [intOf]; omega
        | true =>
          have HF := hid (show nM p v y = true by simp at q1 q2; simp [nM, isM]; intros; simp_all)
          go_wp2_with (at_builtin; refine accM_step (o := ⟨some 42, _, _, _, _, _⟩) y OWN.out (by omega) HNV.out rfl _ _ rfl rfl rfl ?_; intro p2 c2 w2 own2 k2)
          go_roundw
          case rel =>
            refine ⟨j + 1, n' + 1, p2, c2, by omega, by omega, by go_num, rfl, hid ⟨k2 W (Nat.le_refl _) KK.out, ?_⟩⟩
            rw [take_keepA HY.out, HF.out]
            exact own2
          case measure => simp only [intOf]; omega
      | true =>
        have HF := hid (show nM p v y = true by simp at q1; simp [nM, isM]; intros; simp_all)
        go_wp2_with (at_builtin; refine accM_step (o := ⟨some 42, _, _, _, _, _⟩) y OWN.out (by omega) HNV.out rfl _ _ rfl rfl rfl ?_; intro p2 c2 w2 own2 k2)
        go_roundw
        case rel =>
          refine ⟨j + 1, n' + 1, p2, c2, by omega, by omega, by go_num, rfl, hid ⟨k2 W (Nat.le_refl _) KK.out, ?_⟩⟩
          rw [take_keepA HY.out, HF.out]
          exact own2
        case measure => simp only [intOf]; omega
    · obtain rfl : j = n := by omega
      have hC := kk.lies HC0.out
      have HA2 := hid (kk.lies HA.out)
      have HC := hid hC
      have HL := hid (show ((R).filter (nM p v)).length = n' by
        have h1 := HR.out.2.1
        rw [List.take_of_length_le (Nat.le_of_eq HN.out), flatM_len] at h1
        omega)
      have OWN := hid (show wr.ownsRow W.heap.size 41 3 (.slice p' n' c') n' (flatM ((R).filter (nM p v))) by
        have h1 := HR.out.2
        rwa [List.take_of_length_le (Nat.le_of_eq HN.out)] at h1)
      have KK := hid kk
      have hb01 := HB1.out
      have hne : w.heap.size ≠ b1 := by omega
      have hlW : w.heap.size < W.heap.size ∧ b1 < W.heap.size := ⟨lt_of_block HA.out, lt_of_block HC0.out⟩
      have HW := hid hlW
      obtain ⟨z0, z1, z2, z3⟩ := four_block hC
      obtain ⟨f0, f1, f2, f3⟩ := four_free hC
      have lC := lt_of_block hC
      clear hC hlW HR kk
      by_cases hq : n' = j
      · have HD := hid (show τ.dropMip p v = (τ, 7) by have h1 := filt_same (nM p v) R; rw [HL.out, HN.out] at h1; have h2 := h1.mp hq; unfold CT.dropMip; rw [H0.out.mat.some_iff, show R.any (isM p v) = false by simpa [nM] using h2]; rfl)
        have qe : ((n' : Int) == (j : Int)) = true := by simp [hq]
        have qe' : (n' == j) = true := by simp [hq]
        go_wp2_with fail
        obtain ⟨w2, hw2, hF, k2⟩ := set4 HC.out (.int .i64 τ.n) (.slice pA L.length cA) (.slice pE τ.E.length cE) (.slice pM j cM)
        rw [hw2]
        obtain ⟨y0, y1, y2, y3⟩ := four_block hF
        clear z0 z1 z2 z3 f0 f1 f2 f3 a0 a1 a2 a3
        have KF := hid ((KZ.out.trans KK.out).thenAt k2 (by omega))
        clear hw2
        refine bodyPost_ret (v := .tuple #[.agg #[.int .i64 τ.n, .slice pA L.length cA, .slice pE τ.E.length cE, .slice pM j cM], .int .i64 7]) (by simp [results, Try.results27, go_sem, y0, y1, y2, y3]) rfl ?_
        rw [HD.out]
        have e := HN.out
        subst e
        exact ⟨⟨_, rfl, ((H0.out.keepN KF.out).more).rv⟩, KF.out⟩
      · have HD := hid (show τ.dropMip p v = ({ τ with M := sdel τ.M ⟨p, v⟩ }, 0) by have h1 := filt_same (nM p v) R; rw [HL.out, HN.out] at h1; have h2 : ¬ (R.any (fun x => !nM p v x) = false) := fun e => hq (h1.mpr e); unfold CT.dropMip; rw [H0.out.mat.some_iff, show R.any (isM p v) = true by simpa [nM] using h2]; rfl)
        have qe : ((n' : Int) == (j : Int)) = false := by simp; omega
        have qe' : (n' == j) = false := by simp; omega
        obtain ⟨g0, g1, g2, g3⟩ := four_free HA2.out
        go_upto_region 10 with (fail)
        clear g0 g1 g2 g3
        generalize hw3 : wr.setCell ⟨w.heap.size, 3, Option.none⟩ (.slice p' n' c') = w3 at *
        have k3 : Keeps (At w.heap.size) wr w3 := by rw [← hw3]; exact (Keeps.refl _ _).set _ _ (at_self _) _
        have hA3 := setCell_block HA2.out 3 (.slice p' n' c')
        rw [hw3] at hA3
        have hA3 : w3.heap[w.heap.size]? = some (.cells #[.int .i64 τ.n, .slice pA L.length cA, .slice pE τ.E.length cE, .slice p' n' c'] 34 (0, 0)) := hA3
        have hC3 := k3.lies HC.out (fun e => hne e.symm)
        clear z0 z1 z2 z3 f0 f1 f2 f3 a0 a1 a2 a3
        obtain ⟨a0, a1, a2, a3⟩ := four_block hA3
        obtain ⟨z0, z1, z2, z3⟩ := four_block hC3
        obtain ⟨f0, f1, f2, f3⟩ := four_free hC3
        have lA3 := lt_of_block hA3
        have lC3 := lt_of_block hC3
        have HC3 := hid hC3
        have K3 := hid k3
        clear hA3 hC3 k3 hw3
        go_wp2_with fail
        obtain ⟨w9, hw9, hF, k9⟩ := set4 HC3.out (.int .i64 τ.n) (.slice pA L.length cA) (.slice pE τ.E.length cE) (.slice p' n' c')
        rw [hw9]
        obtain ⟨y0, y1, y2, y3⟩ := four_block hF
        clear z0 z1 z2 z3 f0 f1 f2 f3 a0 a1 a2 a3 hw9
        have KF := hid (((KZ.out.trans KK.out).thenAt K3.out (Nat.le_refl _)).thenAt k9 (by omega))
        have hW := HW.out
        have OF := hid (ownsRow_keep (ownsRow_keep OWN.out K3.out (fun g hg e => by rw [At] at e; omega)) k9 (fun g hg e => by rw [At] at e; omega))
        refine bodyPost_ret (v := .tuple #[.agg #[.int .i64 τ.n, .slice pA L.length cA, .slice pE τ.E.length cE, .slice p' n' c'], .int .i64 0]) (by simp [results, Try.results27, go_sem, y0, y1, y2, y3]) rfl ?_
        rw [HD.out]
        have HF := H0.out.keepN KF.out
        have hv := own_mono OF.out (Nat.zero_le _)
        have e := HL.out
        subst e
        exact ⟨⟨_, rfl, ⟨pA, cA, pE, cE, _, _, L, R.filter (nM p v), rfl, HF.base, HF.ownA, HF.bare, HF.nums, HF.ownE, hv, (HF.mat.del p v).more⟩⟩, KF.out⟩
end Go.Proofs.Ytbgijlfdgfhceaa
