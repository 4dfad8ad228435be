/-
  Graphs: blocks of known cells; a bridge's part in its row; the path that a side offers (graph.path). Conditions: the rows lie so; the numbers are in range.
-/
import Derived.Test.YthnkeppkhdceoaaSides
import Derived.Test.YthnkeppkhdceoaaLeast
import Derived.Test.YthnkeppkhdceoaaWV
import Derived.Test.YthnkeppkhdceoaaPC
import Derived.Laws.ResultCell
import Derived.Deep.DeepCutAuto
namespace Go.Proofs.Ythnkeppkhdceoaa
open Go.RowKit
set_option linter.unusedVariables false
set_option linter.unusedSimpArgs false

theorem store_4 {W : World} {b : Nat} {T : TypeId} {o0 o1 o2 o3 : Value} (h : W.heap[b]? = some (.cells #[o0, o1, o2, o3] T (0, 0))) (v0 v1 v2 v3 : Value) :
    ((((W.setCell ⟨b, 0, Option.none⟩ v0).setCell ⟨b, 1, Option.none⟩ v1).setCell ⟨b, 2, Option.none⟩ v2).setCell ⟨b, 3, Option.none⟩ v3).heap[b]? = some (.cells #[v0, v1, v2, v3] T (0, 0)) := by
  have h0 := setCell_block h 0 v0
  have h1 := setCell_block h0 1 v1
  have h2 := setCell_block h1 2 v2
  have h3 := setCell_block h2 3 v3
  exact h3
theorem four_block {w : World} {b : Nat} {v0 v1 v2 v3 : Value} {T : TypeId} {fz : Nat × Nat} (h : w.heap[b]? = some (.cells #[v0, v1, v2, v3] T fz)) :
    w.cell? ⟨b, 0, Option.none⟩ = some v0 ∧ w.cell? ⟨b, 1, Option.none⟩ = some v1 ∧ w.cell? ⟨b, 2, Option.none⟩ = some v2 ∧ w.cell? ⟨b, 3, Option.none⟩ = some v3 := by
  simp [World.cell?, h]
theorem four_free {w : World} {b : Nat} {c : Array Value} {T : TypeId} (h : w.heap[b]? = some (.cells c T (0, 0))) :
    w.frozen? ⟨b, 0, Option.none⟩ = false ∧ w.frozen? ⟨b, 1, Option.none⟩ = false ∧ w.frozen? ⟨b, 2, Option.none⟩ = false ∧ w.frozen? ⟨b, 3, Option.none⟩ = false := by
  simp [World.frozen?, h]
theorem set4_keeps {a w : World} (b : Nat) (h : Keeps Nil a w) (hb : a.heap.size ≤ b) (v0 v1 v2 v3 : Value) :
    Keeps Nil a ((((w.setCell ⟨b, 0, Option.none⟩ v0).setCell ⟨b, 1, Option.none⟩ v1).setCell ⟨b, 2, Option.none⟩ v2).setCell ⟨b, 3, Option.none⟩ v3) :=
  (((h.setCell (p := ⟨b, 0, Option.none⟩) (fun h => absurd h (by simp; omega)) _).setCell (p := ⟨b, 1, Option.none⟩) (fun h => absurd h (by simp; omega)) _).setCell (p := ⟨b, 2, Option.none⟩) (fun h => absurd h (by simp; omega)) _).setCell (p := ⟨b, 3, Option.none⟩) (fun h => absurd h (by simp; omega)) _
theorem ret_cell1 {fn : Func} {p : Tmp} {T n : Nat} {d : Array Field} (h : fn.results = #[.cell p T]) (hT : Try.prog.underlying T = some (.struct d)) (hi : (Try.prog.info? T).map (·.size) = some n)
    (tmps : Array Value) (w : World) (g : Nat) (cs : Array Value) (hp : tmps.getD p undef = .pointer (some ⟨g, 0, Option.none⟩)) (hg : w.heap[g]? = some (.cells cs T (0, 0))) (hs : cs.size = n) :
    (results fn tmps).run Try.prog w = .ok (.agg cs) w := by
  have := run_loadVar_row (P := Try.prog) w g T T cs (0, 0) _ hg hT rfl (by rw [hi, hs])
  have hp' : tmps[p]?.getD undef = .pointer (some ⟨g, 0, Option.none⟩) := by simpa using hp
  simp [results, h, hp', asAddr, this, Result.andThen]
theorem ret_cell2 {fn : Func} {p u : Tmp} {T n : Nat} {d : Array Field} (h : fn.results = #[.cell p T, .tmp u]) (hT : Try.prog.underlying T = some (.struct d)) (hi : (Try.prog.info? T).map (·.size) = some n)
    (tmps : Array Value) (w : World) (g : Nat) (cs : Array Value) (hp : tmps.getD p undef = .pointer (some ⟨g, 0, Option.none⟩)) (hg : w.heap[g]? = some (.cells cs T (0, 0))) (hs : cs.size = n) :
    (results fn tmps).run Try.prog w = .ok (.tuple #[.agg cs, tmps.getD u undef]) w := by
  rw [results_cell_tmp h, hp]
  have := run_loadVar_row (P := Try.prog) w g T T cs (0, 0) _ hg hT rfl (by rw [hi, hs])
  simp [asAddr, this, Result.andThen]
theorem cellOf {w : World} {b i : Nat} {cs : Array Value} {T : TypeId} {fz : Nat × Nat} {v : Value} (h : w.heap[b]? = some (.cells cs T fz)) (hv : cs[i]? = some v) : w.cell? ⟨b, i, Option.none⟩ = some v := by
  simp [World.cell?, h, hv]
theorem set_other {w : World} {b b' i : Nat} {o : Obj} (h : w.heap[b]? = some o) (hb : b ≠ b') (v : Value) : (w.setCell ⟨b', i, Option.none⟩ v).heap[b]? = some o :=
  (Below.heap_setCell _ _ _ _ hb).trans h
theorem alloc_other {w : World} {b : Nat} {o : Obj} (h : w.heap[b]? = some o) (o' : Obj) : (w.alloc o').heap[b]? = some o := (Below.heap_alloc _ _ _ (lt_of_block h)).trans h

/-- A bridge's part. -/
structure Nd where
  r : Int
  c : Int
  q : Int
deriving DecidableEq
abbrev ncells (x : Nd) : List Value := [.int .u64 x.r, .int .u32 x.c, .int .i64 x.q]
def flatN (N : List Nd) : List Value := N.flatMap ncells
theorem flatN_append (L R : List Nd) : flatN (L ++ R) = flatN L ++ flatN R := by simp [flatN]
theorem flatN_len (L : List Nd) : (flatN L).length = L.length * 3 := by
  induction L with
  | nil => rfl
  | cons x L ih => rw [show flatN (x :: L) = ncells x ++ flatN L from rfl, List.length_append, ih, List.length_cons]; simp; omega
theorem flatN_get {L : List Nd} : ∀ {i : Nat} {x : Nd}, L[i]? = some x → ∀ j, j < 3 → (flatN L)[i * 3 + j]? = (ncells x)[j]? := by
  induction L with
  | nil => intro i x h; simp at h
  | cons y L ih =>
    intro i x h j hj
    rw [show flatN (y :: L) = ncells y ++ flatN L from rfl]
    match i with
    | 0 =>
      simp at h; subst h
      rw [List.getElem?_append_left (by simp; omega)]
      simp
    | i + 1 =>
      rw [List.getElem?_append_right (by simp; omega), show (i + 1) * 3 + j - (ncells y).length = i * 3 + j from by simp; omega]
      exact ih (by simpa using h) j hj
def idc (l : List Int) : List Value := l.map (fun x => .int .u64 x)
/-- Part number i of a row reads so. -/
theorem WV.node {w : World} {B : Nat} {p : Option Addr} {n c : Nat} {N : List Nd} (h : WV w B 3 p n c (flatN N)) {i : Nat} {x : Nd} (hx : N[i]? = some x) :
    i < n ∧ n ≤ c ∧ ∃ g off, p = some ⟨g, off, Option.none⟩ ∧ B ≤ g ∧ g < w.heap.size ∧ w.cell? ⟨g, off + i * 3, Option.none⟩ = some (.int .u64 x.r) ∧ w.cell? ⟨g, off + i * 3 + 1, Option.none⟩ = some (.int .u32 x.c) ∧ w.cell? ⟨g, off + i * 3 + 2, Option.none⟩ = some (.int .i64 x.q) := by
  have hl := h.1
  rw [flatN_len] at hl
  have hi : i < N.length := (List.getElem?_eq_some_iff.1 hx).1
  have hn : N.length = n := by omega
  obtain ⟨g, off, e, hb, hg, hc⟩ := h.2.2 (by omega)
  refine ⟨by omega, h.2.1, g, off, e, hb, hg, ?_, ?_, ?_⟩
  · exact hc (i * 3) _ ((flatN_get hx 0 (by omega)).trans rfl)
  · rw [Nat.add_assoc]; exact hc (i * 3 + 1) _ ((flatN_get hx 1 (by omega)).trans rfl)
  · rw [Nat.add_assoc]; exact hc (i * 3 + 2) _ ((flatN_get hx 2 (by omega)).trans rfl)
theorem WV.id {w : World} {B : Nat} {p : Option Addr} {n c : Nat} {l : List Int} (h : WV w B 1 p n c (idc l)) {i : Nat} {x : Int} (hx : l[i]? = some x) :
    i < n ∧ n ≤ c ∧ ∃ g off, p = some ⟨g, off, Option.none⟩ ∧ B ≤ g ∧ g < w.heap.size ∧ w.cell? ⟨g, off + i, Option.none⟩ = some (.int .u64 x) := by
  have hl := h.1
  have hi : i < l.length := (List.getElem?_eq_some_iff.1 hx).1
  have hn : l.length = n := by simp [idc] at hl; omega
  obtain ⟨g, off, e, hb, hg, hc⟩ := h.2.2 (by omega)
  exact ⟨by omega, h.2.1, g, off, e, hb, hg, hc i _ (by simp [idc, hx])⟩

set_option maxRecDepth 100000 in
set_option maxHeartbeats 4000000 in
theorem path_any {w : World} {BI BN : Nat} {pi pn : Option Addr} {ni ci nn cn i : Nat} {ids : List Int} {N : List Nd} (lv : Value) (s : Sd) {x : Nd} {d : Int}
    (hI : WV w BI 1 pi ni ci (idc ids)) (hN : WV w BN 3 pn nn cn (flatN N)) (hb : s.f.b = (i : Int)) (hx : N[i]? = some x) (hd : ids[i]? = some d) (hn : nn ≤ 1000) (hni : ni ≤ 1000)
    (hc0 : 0 ≤ x.c) (hc1 : x.c ≤ 458745) (hk0 : 0 < s.n.c) (hk1 : s.n.c < 65536) :
    Calls Try.prog 28 #[.agg #[.slice pi ni ci, lv], .slice pn nn cn, sdv s] w fun e w' => e = .returned (.tuple #[pth (x.r, x.c + s.n.c, d, s.f.p, s.n.p), .bool true]) ∧ Keeps Nil w w' := by
  obtain ⟨hin, hnc, gn, on, rfl, _, hgn, x0, x1, x2⟩ := hN.node hx
  obtain ⟨hii, hic, gi, oi, rfl, _, hgi, y0⟩ := hI.id hd
  have HNR := hid (show ∀ X, Keeps Nil w X → X.cell? ⟨gi, oi + i, Option.none⟩ = some (.int .u64 d) from fun X k => (k.cell (p := ⟨gi, oi + i, Option.none⟩) hgi (fun e => e)).trans y0)
  have hfar : farB x.c s.n.c = true := by simp [farB]; omega
  have FA := far_any x.r x.c d s.f.p s.n.c hc0 (by omega) (by omega) (by omega)
  have hfv : farV x.r x.c d s.f.p s.n.c = vec x.r (x.c + s.n.c) d s.f.p := by simp [farV, hfar]
  rw [hfv, hfar] at FA
  have FAH := hid FA
  clear FA hfv hfar
  obtain ⟨k, ⟨nb, np, nc⟩, ⟨fb, fp, fc⟩⟩ := s
  obtain ⟨xr, xc, xq⟩ := x
  dsimp only at *
  subst hb
  have HY0 := hid y0
  clear y0 hI hN hx hd
  have hg1 : gn < w.heap.size + 1 := by omega
  have hg2 : gn < w.heap.size + 1 + 1 := by omega
  have hg3 : gn < w.heap.size + 1 + 1 + 1 := by omega
  go_enter Try.func28, Try.ntmps28
  go_upto_region 2 with (fail)
  obtain ⟨V, hV⟩ : ∃ V, ((((w.alloc (.cells #[.slice (some ⟨gi, oi, Option.none⟩) ni ci, lv] 51 (0, 0))).alloc (.cells #[.int .i64 k, .int .i64 nb, .int .u8 np, .int .u32 nc, .int .i64 (i : Int), .int .u8 fp, .int .u32 fc] 86 (0, 0))).alloc (.cells #[.int .u64 0, .int .u32 0, .int .u64 0, .int .u8 0, .int .u8 0] 91 (0, 0))).alloc (.cells #[.int .u64 xr, .int .u32 xc, .int .i64 xq] 39 (0, 0))) = V := ⟨_, rfl⟩
  have hA : V.heap[w.heap.size]? = some (.cells #[.slice (some ⟨gi, oi, Option.none⟩) ni ci, lv] 51 (0, 0)) := by rw [← hV]; exact alloc_other (alloc_other (alloc_other (alloc_block _ _) _) _) _
  have hB : V.heap[w.heap.size + 1]? = some (.cells #[.int .i64 k, .int .i64 nb, .int .u8 np, .int .u32 nc, .int .i64 (i : Int), .int .u8 fp, .int .u32 fc] 86 (0, 0)) := by
    rw [← hV]; refine alloc_other (alloc_other ?_ _) _
    have := alloc_block (w.alloc (.cells #[.slice (some ⟨gi, oi, Option.none⟩) ni ci, lv] 51 (0, 0))) (.cells #[.int .i64 k, .int .i64 nb, .int .u8 np, .int .u32 nc, .int .i64 (i : Int), .int .u8 fp, .int .u32 fc] 86 (0, 0))
    simpa using this
  have hC : V.heap[w.heap.size + 1 + 1]? = some (.cells #[.int .u64 0, .int .u32 0, .int .u64 0, .int .u8 0, .int .u8 0] 91 (0, 0)) := by
    rw [← hV]; refine alloc_other ?_ _
    have := alloc_block ((w.alloc (.cells #[.slice (some ⟨gi, oi, Option.none⟩) ni ci, lv] 51 (0, 0))).alloc (.cells #[.int .i64 k, .int .i64 nb, .int .u8 np, .int .u32 nc, .int .i64 (i : Int), .int .u8 fp, .int .u32 fc] 86 (0, 0))) (.cells #[.int .u64 0, .int .u32 0, .int .u64 0, .int .u8 0, .int .u8 0] 91 (0, 0))
    simpa using this
  have hD : V.heap[w.heap.size + 1 + 1 + 1]? = some (.cells #[.int .u64 xr, .int .u32 xc, .int .i64 xq] 39 (0, 0)) := by
    rw [← hV]
    have := alloc_block (((w.alloc (.cells #[.slice (some ⟨gi, oi, Option.none⟩) ni ci, lv] 51 (0, 0))).alloc (.cells #[.int .i64 k, .int .i64 nb, .int .u8 np, .int .u32 nc, .int .i64 (i : Int), .int .u8 fp, .int .u32 fc] 86 (0, 0))).alloc (.cells #[.int .u64 0, .int .u32 0, .int .u64 0, .int .u8 0, .int .u8 0] 91 (0, 0))) (.cells #[.int .u64 xr, .int .u32 xc, .int .i64 xq] 39 (0, 0))
    simpa using this
  have kV : Keeps Nil w V := by rw [← hV]; exact ((((Keeps.refl Nil w).alloc _).alloc _).alloc _).alloc _
  rw [hV]
  clear hV
  obtain ⟨bA, hbA⟩ : ∃ b, w.heap.size = b := ⟨_, rfl⟩
  rw [hbA] at hA hB hC hD ⊢
  obtain ⟨bB, hbB⟩ : ∃ b, bA + 1 = b := ⟨_, rfl⟩
  rw [hbB] at hB hC hD ⊢
  obtain ⟨bC, hbC⟩ : ∃ b, bB + 1 = b := ⟨_, rfl⟩
  rw [hbC] at hC hD ⊢
  obtain ⟨bD, hbD⟩ : ∃ b, bC + 1 = b := ⟨_, rfl⟩
  rw [hbD] at hD ⊢
  have HS : ∀ W, Keeps Nil V W → (W.cell? ⟨bD, 0, Option.none⟩ = some (.int .u64 xr) ∧ W.cell? ⟨bD, 1, Option.none⟩ = some (.int .u32 xc) ∧ W.cell? ⟨bA, 0, Option.none⟩ = some (.slice (some ⟨gi, oi, Option.none⟩) ni ci) ∧ W.cell? ⟨bB, 4, Option.none⟩ = some (.int .i64 (i : Int)) ∧ W.cell? ⟨bB, 5, Option.none⟩ = some (.int .u8 fp) ∧ W.cell? ⟨bB, 3, Option.none⟩ = some (.int .u32 nc) ∧ W.cell? ⟨gi, oi + i, Option.none⟩ = some (.int .u64 d)) := fun W k => by
    have ha := (k.block _ (lt_of_block hA) (fun e => e)).trans hA
    have hb := (k.block _ (lt_of_block hB) (fun e => e)).trans hB
    have hd := (k.block _ (lt_of_block hD) (fun e => e)).trans hD
    exact ⟨cellOf hd rfl, cellOf hd rfl, cellOf ha rfl, cellOf hb rfl, cellOf hb rfl, cellOf hb rfl, HNR.out _ (kV.trans k)⟩
  have HS' := hid HS
  have HBB := hid (show V.heap[bB]? = _ from hB)
  have HCC := hid (show V.heap[bC]? = _ from hC)
  have KV := hid kV
  have HBC := hid (show w.heap.size ≤ bC by omega)
  have HLT := hid (show bB < V.heap.size ∧ bC < V.heap.size from ⟨lt_of_block hB, lt_of_block hC⟩)
  clear HS hA hB hC hD kV hbA hbB hbC hbD hg1 hg2 hg3 x0 x1 x2 hgn
  go_cut [9, 10] (fun s9 s10 wx => ∃ b9 : Nat, s9 = .pointer (some ⟨b9, 0, Option.none⟩) ∧ s10 = .bool true ∧ V.heap.size ≤ b9 ∧ wx.heap[b9]? = some (.cells #[.int .u64 xr, .int .u32 (xc + nc), .int .u64 d, .int .u8 fp] 89 (0, 0)) ∧ Keeps Nil V wx)
  case first =>
    have kk := Keeps.refl Nil V
    obtain ⟨s0, s1, s2, s3, s4, s5, s6⟩ := HS'.out V kk
    go_region_held3 (fun W => W.cell? ⟨bD, 0, Option.none⟩ = some (.int .u64 xr) ∧ W.cell? ⟨bD, 1, Option.none⟩ = some (.int .u32 xc) ∧ W.cell? ⟨bA, 0, Option.none⟩ = some (.slice (some ⟨gi, oi, Option.none⟩) ni ci) ∧ W.cell? ⟨bB, 4, Option.none⟩ = some (.int .i64 (i : Int)) ∧ W.cell? ⟨bB, 5, Option.none⟩ = some (.int .u8 fp) ∧ W.cell? ⟨bB, 3, Option.none⟩ = some (.int .u32 nc) ∧ W.cell? ⟨gi, oi + i, Option.none⟩ = some (.int .u64 d)) (first | with_reducible exact HS'.out _ kk | with_reducible exact HS'.out _ kk.drew | with_reducible exact HS'.out _ (kk.alloc _) | with_reducible exact HS'.out _ (kk.drew.alloc _) | with_reducible exact HS'.out _ (kk.alloc _).drew | with_reducible exact HS'.out _ (set4_keeps _ kk (Nat.le_refl _) _ _ _ _))
      ((first
        | (go_at_call 31; refine (FAH.out V.drew).mono ?_; rintro e w2 ⟨rfl, k2⟩; replace kk := kk.drew.trans k2; skip)
        | (go_at_call 31; refine (FAH.out (V.alloc (.cells #[.int .u64 0, .int .u32 0, .int .u64 0, .int .u8 0] 89 (0, 0))).drew).mono ?_; rintro e w2 ⟨rfl, k2⟩; replace kk := (kk.alloc _).drew.trans k2; have hl2 := (k2.block V.heap.size (by simp) (fun e => e)).trans (alloc_block V (.cells #[.int .u64 0, .int .u32 0, .int .u64 0, .int .u8 0] 89 (0, 0))); obtain ⟨v0, v1, v2, v3⟩ := four_block hl2; obtain ⟨vf0, vf1, vf2, vf3⟩ := four_free hl2; replace hl2 := hid hl2)))
    all_goals (go_wp2_with fail; go_meet)
    all_goals first
      | (have hs4 := store_4 hl2.out; exact ⟨V.heap.size, rfl, rfl, Nat.le_refl _, hs4 _ _ _ _, set4_keeps _ kk (Nat.le_refl _) _ _ _ _⟩)
      | exact ⟨w2.heap.size, rfl, rfl, kk.size, alloc_block _ _, kk.alloc _⟩
  case rest =>
    obtain ⟨b9, rfl, rfl, hb9, h9, k9⟩ := hcut
    have hB2 := (k9.block _ HLT.out.1 (fun e => e)).trans HBB.out
    have hC2 := (k9.block _ HLT.out.2 (fun e => e)).trans HCC.out
    have m2 := cellOf (i := 2) (v := .int .u8 np) hB2 rfl
    obtain ⟨rf0, rf1, rf2, rf3, rf4⟩ := free5 hC2
    have r0 := cellOf (i := 0) (v := .int .u64 0) hC2 rfl
    have r1 := cellOf (i := 1) (v := .int .u32 0) hC2 rfl
    have r2 := cellOf (i := 2) (v := .int .u64 0) hC2 rfl
    have r3 := cellOf (i := 3) (v := .int .u8 0) hC2 rfl
    have r4 := cellOf (i := 4) (v := .int .u8 0) hC2 rfl
    obtain ⟨v0, v1, v2, v3⟩ := four_block h9
    have K5 := hid (set5_keeps bC (KV.out.trans k9) HBC.out xr (xc + nc) d fp np)
    have H5 := hid (set5_block (y := (0, 0, 0, 0, 0)) hC2 xr (xc + nc) d fp np)
    clear hB2 hC2 h9 k9 hb9
    go_wp2_with fail
    refine bodyPost_ret (ret_cell2 rfl Try.underlying91 (n := 5) (by kernel_rfl) _ _ bC _ rfl H5.out rfl) rfl ?_
    exact ⟨rfl, K5.out⟩

end Go.Proofs.Ythnkeppkhdceoaa
