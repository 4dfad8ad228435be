/-
  Layer 8: the document's database: without. Conditions: its rows lie so.
-/
import Derived.Test.YtcplmdgnldmhbaaRStatic
namespace Go.Proofs.Ytcplmdgnldmhbaa
open Go.RowKit
set_option linter.unusedVariables false

theorem rinfo : (Try.prog.info? 109).map (fun i => (i.zero, i.size, i.bytes)) = some (some (.agg #[.int .u16 0, .int .u8 0, .int .u8 0, .int .u8 0, .int .u8 0, .int .u8 0, .int .u8 0, .int .u8 0, .int .i64 0]), 9, 24) := by kernel_rfl
theorem three_allocs (w : World) (A B C : Obj) : (((w.alloc A).alloc B).alloc C).heap[w.heap.size]? = some A ∧ (((w.alloc A).alloc B).alloc C).heap[w.heap.size + 1]? = some B ∧ (((w.alloc A).alloc B).alloc C).heap[w.heap.size + 1 + 1]? = some C := by
  obtain ⟨h1, h2⟩ := two_allocs w A B
  obtain ⟨_, h3⟩ := two_allocs (w.alloc A) B C
  rw [show (w.alloc A).heap.size = w.heap.size + 1 from by simp] at h3
  have k : Keeps Nil ((w.alloc A).alloc B) (((w.alloc A).alloc B).alloc C) := (Keeps.refl _ _).alloc _
  exact ⟨(k.block _ (lt_of_block h1) (fun e => e)).trans h1, (k.block _ (lt_of_block h2) (fun e => e)).trans h2, h3⟩
theorem take_keep {L : List En} {j : Nat} {x : En} (hx : L[j]? = some x) (f : En → Bool) : (L.take (j + 1)).filter f = (L.take j).filter f ++ if f x then [x] else [] := by
  have hl := (List.getElem?_eq_some_iff.1 hx).1
  rw [List.take_succ_eq_append_getElem hl, List.filter_append]
  have : L[j] = x := by rw [List.getElem?_eq_getElem hl] at hx; exact Option.some.inj hx
  rw [this]
  cases hp : f x <;> simp [hp]
theorem filt_le (L : List En) (j : Nat) (f : En → Bool) : ((L.take j).filter f).length ≤ j := Nat.le_trans (List.length_filter_le _ _) (List.length_take_le _ _)
/-- What is drawn together: a row of the call's own. -/
def Acc (w : World) (B : Nat) (p : Option Addr) (n c : Nat) (M : List En) : Prop := w.ownsRow B 109 9 (.slice p n c) n (flat M)
theorem Acc.keep {w w' : World} {B n c : Nat} {p : Option Addr} {M : List En} (h : Acc w B p n c M) (k : Keeps Nil w w') : Acc w' B p n c M := ownsRow_keep h k (fun _ _ e => e)
theorem Acc.mono {w : World} {B B' n c : Nat} {p : Option Addr} {M : List En} (h : Acc w B p n c M) (hB : B' ≤ B) : Acc w B' p n c M := by
  refine ⟨h.1, ?_⟩
  rcases h.2 with h' | ⟨g, cap, cur, e, hb, r⟩
  · exact .inl h'
  · exact .inr ⟨g, cap, cur, e, Nat.le_trans hB hb, r⟩
/-- The two cells of the result are written. -/
theorem acc_close {w W wr : World} {b : Nat} {T : TypeId} {x y u v : Value} {p : Option Addr} {n c : Nat} {M : List En} (kz : Keeps Nil w W) (kk : Keeps Nil W wr) (h : Acc wr W.heap.size p n c M) (hb : wr.heap[b]? = some (.cells #[x, y] T (0, 0))) (h1 : w.heap.size ≤ b) (h2 : b < W.heap.size) :
    ∃ w2, (wr.setCell ⟨b, 0, Option.none⟩ u).setCell ⟨b, 1, Option.none⟩ v = w2 ∧ w2.heap[b]? = some (.cells #[u, v] T (0, 0)) ∧ Acc w2 w.heap.size p n c M ∧ Keeps Nil w w2 := by
  have kt : Keeps (At b) wr ((wr.setCell ⟨b, 0, Option.none⟩ u).setCell ⟨b, 1, Option.none⟩ v) := ((Keeps.refl _ _).set _ _ (at_self _) _).set _ _ (at_self _) _
  exact ⟨_, rfl, setCell_block (setCell_block hb 0 u) 1 v, Acc.mono (ownsRow_keep h kt (fun g hg e => by rw [At] at e; omega)) kz.size, (kz.trans kk).thenAt kt h1⟩
theorem Acc.len {w : World} {B n c : Nat} {p : Option Addr} {M : List En} (h : Acc w B p n c M) : M.length = n := by
  have := h.1
  rw [flat_len] at this
  omega
/-- One more entry is appended. -/
theorem acc_step {ops : Array Oper} {rest : List Oper} {o : Oper} {a : Act} {Q : Exit → Act → World → Prop} {V : World} {N : Nat} {p : Option Addr} {n c : Nat} {M : List En} (x : En) (h : Acc V N p n c M) (hn : n ≤ 1000) (hN : N ≤ V.heap.size) (hgd : o.guard = Option.none) (s y : Operand)
    (ho : o.op = .call { callee := .builtin .append, args := #[s, y], argTypes := #[58, 58] }) (hs : a.eval s = .slice p n c) (hy : a.eval y = .slice (some ⟨V.heap.size, 0, Option.none⟩) 1 1)
    (hk : ∀ p' c' w1, Acc w1 N p' (n + 1) c' (M ++ [x]) → (∀ W0 : World, W0.heap.size ≤ N → Keeps Nil W0 V → Keeps Nil W0 w1) → wpList Try.prog ops Q rest (a.put o.dst (.slice p' (n + 1) c')) w1) :
    wpList Try.prog ops Q (o :: rest) a (V.alloc (.cells #[.int .u16 x.p.v, .int .u8 x.p.a, .int .u8 x.p.b, .int .u8 x.p.c, .int .u8 x.p.d, .int .u8 x.p.e, .int .u8 x.p.f, .int .u8 x.port, .int .i64 x.age] 109 (0, 0))) := by
  obtain ⟨i0, hi, hz0, hz1, hz2⟩ := info_parts rinfo
  refine wpList_append_wv _ hgd s y 58 ho N 109 i0 (.agg #[.int .u16 0, .int .u8 0, .int .u8 0, .int .u8 0, .int .u8 0, .int .u8 0, .int .u8 0, .int .u8 0, .int .i64 0]) 9 24 Try.underlying58 hi hz0 hz1 hz2 rfl (by decide) (.slice p n c) n (flat M) hs (ownsRow_keep h ((Keeps.refl Nil V).alloc _) (fun _ _ e => e)) 0 _ 1 1 x.cells hy (WV.new V #[.int .u16 x.p.v, .int .u8 x.p.a, .int .u8 x.p.b, .int .u8 x.p.c, .int .u8 x.p.d, .int .u8 x.p.e, .int .u8 x.p.f, .int .u8 x.port, .int .i64 x.age] 109 9 rfl) (flat_one [x] |> fun h => by simpa [flat] using h) (by unfold maxLen; omega) (by omega) (by simp; omega) ?_
  intro v1 w1 own1 hg1 hat1
  have e1 : flat M ++ x.cells = flat (M ++ [x]) := by rw [flat_append]; simp [flat]
  rw [e1] at own1
  have own1 : w1.ownsRow N 109 9 v1 (n + 1) (flat (M ++ [x])) := own1
  obtain ⟨p', c', hv⟩ := own_shape own1
  subst hv
  exact hk p' c' w1 own1 (fun W0 h0 k0 => (k0.alloc _).grown hg1 (fun g hg hlt => by have := own_ge h hg; omega))

set_option maxHeartbeats 8000000 in
theorem without_any (q : Pl) (B : Nat) (pL : Option Addr) (cL : Nat) (pS : Option Addr) (cS : Nat) (τ : Tb) (w : World) (h : RT w B pL cL pS cS τ) (hl : τ.L.length ≤ 900) :
    Calls Try.prog 48 #[rtab pL τ.L.length cL pS τ.S.length cS, .int .u16 q.v, q.mac] w fun e w' => (∃ p n c, e = .returned (rtab p n c pS τ.S.length cS) ∧ Acc w' w.heap.size p n c (τ.L.filter (fun x => !(decide (q = x.p))))) ∧ Keeps Nil w w' := by
  obtain ⟨hA, hB, hC⟩ := three_allocs w (.cells #[.slice pL τ.L.length cL, .slice pS τ.S.length cS] 61 (0, 0)) (.cells #[Value.int IntKind.u8 q.a, Value.int IntKind.u8 q.b, Value.int IntKind.u8 q.c, Value.int IntKind.u8 q.d, Value.int IntKind.u8 q.e, Value.int IntKind.u8 q.f] 31 (0, 0)) (.cells #[.slice Option.none 0 0, .slice Option.none 0 0] 61 (0, 0))
  have kz : Keeps Nil w (((w.alloc (.cells #[.slice pL τ.L.length cL, .slice pS τ.S.length cS] 61 (0, 0))).alloc (.cells #[Value.int IntKind.u8 q.a, Value.int IntKind.u8 q.b, Value.int IntKind.u8 q.c, Value.int IntKind.u8 q.d, Value.int IntKind.u8 q.e, Value.int IntKind.u8 q.f] 31 (0, 0))).alloc (.cells #[.slice Option.none 0 0, .slice Option.none 0 0] 61 (0, 0))) := (((Keeps.refl _ _).alloc _).alloc _).alloc _
  have HA := hid hA
  have HB := hid hB
  have HCB := hid hC
  have KZ := hid kz
  have H := hid (h.1.keepN kz)
  clear hA hB hC kz h
  go_enter Try.func48, Try.ntmps48
  go_upto_region 1 with (fail)
  generalize (((w.alloc (.cells #[.slice pL τ.L.length cL, .slice pS τ.S.length cS] 61 (0, 0))).alloc (.cells #[Value.int IntKind.u8 q.a, Value.int IntKind.u8 q.b, Value.int IntKind.u8 q.c, Value.int IntKind.u8 q.d, Value.int IntKind.u8 q.e, Value.int IntKind.u8 q.f] 31 (0, 0))).alloc (.cells #[.slice Option.none 0 0, .slice Option.none 0 0] 61 (0, 0))) = W at *
  generalize hb6 : w.heap.size + 1 + 1 = b6 at *
  generalize hb5 : w.heap.size + 1 = b5 at *
  have HB5 := hid hb5
  have HB6 := hid hb6
  clear hb5 hb6
  obtain ⟨n, hn⟩ : ∃ n, τ.L.length = n := ⟨_, rfl⟩
  rw [hn] at hl HA
  have HN := hid hn
  clear hn
  go_wp2_with fail
  go_loopw [7, 8] (fun s7 s8 wr => ∃ (k n' : Nat) (p' : Option Addr) (c' : Nat), k ≤ n ∧ n' ≤ k ∧ s8 = .int .i64 k ∧ s7 = .slice p' n' c' ∧ Keeps Nil W wr ∧ Hid (Acc wr W.heap.size p' n' c' ((τ.L.take k).filter (fun x => !(decide (q = x.p)))))) (fun _ s8 _ => n - (intOf s8).toNat)
  case atStart => exact ⟨0, 0, Option.none, 0, Nat.zero_le _, Nat.le_refl _, rfl, rfl, Keeps.refl _ _, hid (World.ownsRow_nil _ _ _ _)⟩
  case round =>
    obtain ⟨k, n', p', c', hk, hnk, rfl, rfl, kk, hacc⟩ := hrel
    have hA := (kk.block _ (lt_of_block HA.out) (fun e => e)).trans HA.out
    have hB := (kk.block _ (lt_of_block HB.out) (fun e => e)).trans HB.out
    obtain ⟨a0, a1⟩ := two_cells hA
    obtain ⟨m0, m1, m2, m3, m4, m5⟩ := six_of hB
    clear hA hB
    by_cases hlt : k < n
    · obtain ⟨x, hx⟩ : ∃ x, τ.L[k]? = some x := ⟨_, List.getElem?_eq_getElem (by have := HN.out; omega)⟩
      obtain ⟨g, off, hp, _, hg, c0, c1, c2, c3, c4, c5, c6, c7, c8⟩ := (H.out.keepN kk).entry hx
      have HX := hid hx
      subst hp
      have hnc : n ≤ cL := by have := H.out.2.1; have := HN.out; omega
      clear hx
      rcases pl_three x.p q with hq | hv | ⟨hq, hv, hm⟩
      · have hE : ∀ W, (binOp .neq 31 (.agg #[.int .u8 x.p.a, .int .u8 x.p.b, .int .u8 x.p.c, .int .u8 x.p.d, .int .u8 x.p.e, .int .u8 x.p.f]) (.agg #[.int .u8 q.a, .int .u8 q.b, .int .u8 q.c, .int .u8 q.d, .int .u8 q.e, .int .u8 q.f])).run Try.prog W = .ok (.bool false) W := fun W => neq25 x.p.a x.p.b x.p.c x.p.d x.p.e x.p.f q.a q.b q.c q.d q.e q.f true (by rw [hq]; simp) W
        have hv : (x.p.v != q.v) = false := by rw [hq]; simp
        have HQ := hid hq
        clear hq
        go_wp2_with fail
        go_quiet (fail)
        go_wp2_with fail
        go_roundw
        case rel =>
          refine ⟨k + 1, n', p', c', by omega, by omega, by go_num, rfl, kk.trans (Keeps.drewN _ _), hid ?_⟩
          rw [take_keep HX.out, HQ.out]
          simp only [decide_true, Bool.not_true, Bool.false_eq_true, if_false, List.append_nil]
          exact hacc.out.keep (Keeps.drewN _ _)
        case measure => simp only [intOf]; omega
      · have hv' : (x.p.v != q.v) = true := by simpa using hv
        have HQ := hid (show ¬ (q = x.p) from fun e => by subst e; simp at hv)
        clear hv

        go_wp2_with fail
        go_quiet (fail)
        have kV : Keeps Nil wr (wr.drewN nq) := Keeps.drewN _ _
        have OWN := hid (hacc.out.keep kV)
        have hNV : W.heap.size ≤ (wr.drewN nq).heap.size := kk.size
        have HNV := hid hNV
        have KV := hid (kk.trans kV)
        clear kV hNV c0 c1 c2 c3 c4 c5 c6 c7 c8 a0 a1 m0 m1 m2 m3 m4 m5
        generalize wr.drewN nq = V at *
        obtain ⟨a0, a1⟩ := two_cells ((KV.out.block _ (lt_of_block HA.out) (fun e => e)).trans HA.out)
        obtain ⟨g', off', hp, _, hg', c0, c1, c2, c3, c4, c5, c6, c7, c8⟩ := (H.out.keepN KV.out).entry HX.out
        injection hp with hp; injection hp with hp1 hp2; subst hp1 hp2
        go_wp2_with (at_builtin; refine acc_step (o := ⟨some 41, _, _, _, _, _⟩) x OWN.out (by omega) HNV.out rfl _ _ rfl rfl rfl ?_; intro p2 c2 w2 own2 k2)
        go_roundw
        case rel =>
          refine ⟨k + 1, n' + 1, p2, c2, by omega, by omega, by go_num, rfl, k2 W (Nat.le_refl _) KV.out, hid ?_⟩
          rw [take_keep HX.out]
          simp only [HQ.out, decide_false, Bool.not_false, if_true]
          exact own2
        case measure => simp only [intOf]; omega
      · have HQ := hid (show ¬ (q = x.p) from fun e => hq e.symm)
        have hE : ∀ W, (binOp .neq 31 (.agg #[.int .u8 x.p.a, .int .u8 x.p.b, .int .u8 x.p.c, .int .u8 x.p.d, .int .u8 x.p.e, .int .u8 x.p.f]) (.agg #[.int .u8 q.a, .int .u8 q.b, .int .u8 q.c, .int .u8 q.d, .int .u8 q.e, .int .u8 q.f])).run Try.prog W = .ok (.bool true) W := fun W => neq25 x.p.a x.p.b x.p.c x.p.d x.p.e x.p.f q.a q.b q.c q.d q.e q.f false (decide_eq_false hm) W
        have hv' : (x.p.v != q.v) = false := by simp [hv]
        clear hq hv hm

        go_wp2_with fail
        go_quiet (fail)
        have kV : Keeps Nil wr (wr.drewN nq) := Keeps.drewN _ _
        have OWN := hid (hacc.out.keep kV)
        have hNV : W.heap.size ≤ (wr.drewN nq).heap.size := kk.size
        have HNV := hid hNV
        have KV := hid (kk.trans kV)
        clear kV hNV c0 c1 c2 c3 c4 c5 c6 c7 c8 a0 a1 m0 m1 m2 m3 m4 m5
        generalize wr.drewN nq = V at *
        obtain ⟨a0, a1⟩ := two_cells ((KV.out.block _ (lt_of_block HA.out) (fun e => e)).trans HA.out)
        obtain ⟨g', off', hp, _, hg', c0, c1, c2, c3, c4, c5, c6, c7, c8⟩ := (H.out.keepN KV.out).entry HX.out
        injection hp with hp; injection hp with hp1 hp2; subst hp1 hp2
        go_wp2_with (at_builtin; refine acc_step (o := ⟨some 41, _, _, _, _, _⟩) x OWN.out (by omega) HNV.out rfl _ _ rfl rfl rfl ?_; intro p2 c2 w2 own2 k2)
        go_roundw
        case rel =>
          refine ⟨k + 1, n' + 1, p2, c2, by omega, by omega, by go_num, rfl, k2 W (Nat.le_refl _) KV.out, hid ?_⟩
          rw [take_keep HX.out]
          simp only [HQ.out, decide_false, Bool.not_false, if_true]
          exact own2
        case measure => simp only [intOf]; omega
    · obtain rfl : k = n := by omega
      have hC := (kk.block _ (lt_of_block HCB.out) (fun e => e)).trans HCB.out
      obtain ⟨z0, z1⟩ := two_cells hC
      obtain ⟨f0, f1⟩ := two_free hC
      have HC := hid hC
      clear hC
      rw [List.take_of_length_le (Nat.le_of_eq HN.out)] at hacc
      go_wp2_with fail
      obtain ⟨w2, hw2, hF, hAcc, hK⟩ := acc_close (u := .slice p' n' c') (v := .slice pS τ.S.length cS) KZ.out kk hacc.out HC.out (by have := HB6.out; have := HB5.out; omega) (lt_of_block HCB.out)
      rw [hw2]
      obtain ⟨y0, y1⟩ := two_cells hF
      clear z0 z1 f0 f1
      refine bodyPost_ret (v := rtab p' n' c' pS τ.S.length cS) (by simp [results, Try.results48, go_sem, y0, y1]) rfl ?_
      exact ⟨⟨p', n', c', rfl, hAcc⟩, hK⟩
end Go.Proofs.Ytcplmdgnldmhbaa
