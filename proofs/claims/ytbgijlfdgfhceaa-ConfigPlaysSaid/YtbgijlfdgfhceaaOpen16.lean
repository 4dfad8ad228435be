/-
  Layer 16: an act by value, and acts in their cells, opened. No condition.
-/
import Derived.Test.YtbgijlfdgfhceaaGreat
import Derived.Test.YtbgijlfdgfhceaaRows
import Derived.ProofKit
import Derived.OpenShut
import Derived.ShutString
import Derived.Deep.Slices
import Derived.Deep.Fields
import Derived.ChangeSame
import Derived.WideKeyPair
import Derived.ChangeSlices
namespace Go.Proofs.Ytbgijlfdgfhceaa
open Go.ChangeShapes Go.WideShapes Go.Deep Go.RowKit Go.WideMaps
set_option linter.unusedVariables false
set_option maxRecDepth 8000

theorem of_wf8 {n : Int} (h : (Lit.int .u8 n).wf = true) : 0 ≤ n ∧ n < 256 := by
  have e1 : IntKind.u8.min = 0 := by decide
  have e2 : IntKind.u8.max = 255 := by decide
  simp [Lit.wf, e1, e2] at h; omega
theorem of_wf16 {n : Int} (h : (Lit.int .u16 n).wf = true) : 0 ≤ n ∧ n < 65536 := by
  have e1 : IntKind.u16.min = 0 := by decide
  have e2 : IntKind.u16.max = 65535 := by decide
  simp [Lit.wf, e1, e2] at h; omega
theorem exists_list {α : Type} {R : Nat → α → Prop} : ∀ n, (∀ i, i < n → ∃ p, R i p) → ∃ l : List α, l.length = n ∧ ∀ i p, l[i]? = some p → R i p
  | 0, _ => ⟨[], rfl, fun i p h => by simp at h⟩
  | n + 1, h => by
    obtain ⟨l, hl, hr⟩ := exists_list n (fun i hi => h i (by omega))
    obtain ⟨p, hp⟩ := h n (by omega)
    refine ⟨l ++ [p], by simp [hl], fun i q hq => ?_⟩
    by_cases hi : i < l.length
    · rw [List.getElem?_append_left hi] at hq; exact hr i q hq
    · rw [List.getElem?_append_right (by omega)] at hq
      have : i - l.length = 0 := by
        rcases Nat.eq_zero_or_pos (i - l.length) with h | h
        · exact h
        · rw [List.getElem?_eq_none (by simp; omega)] at hq; cases hq
      rw [this] at hq
      obtain rfl : p = q := by simpa using hq
      rw [show i = n from by omega]; exact hp
theorem spotless {w : World} {a : Addr} {v : Value} (h : w.cell? (a.add 0) = some v) : a = ⟨a.block, a.off, Option.none⟩ := by
  obtain ⟨b, off, spot⟩ := a
  have : spot = Option.none := World.cell?_spot h
  subst this; rfl
theorem block_lt {w : World} {b o : Nat} {v : Value} (h : w.cell? ⟨b, o, Option.none⟩ = some v) : b < w.heap.size := by
  rcases Nat.lt_or_ge b w.heap.size with h' | h'
  · exact h'
  · simp [World.cell?, Array.getElem?_eq_none h'] at h
theorem add_plain' (b off n : Nat) : (⟨b, off, Option.none⟩ : Addr).add n = ⟨b, off + n, Option.none⟩ := Go.WideShapes.add_plain _ _ _
theorem flatU_getD (zs : List Int) (j : Nat) (u : Value) (h : (flatU zs)[j]? = some u) : j < zs.length ∧ u = .int .u16 (zs.getD j 0) := by
  have h2 := flatU_get zs j 0 (by decide)
  simp only [Nat.mul_one, Nat.add_zero] at h2
  rw [h2] at h
  cases hz : zs[j]? with
  | none => rw [hz] at h; cases h
  | some z =>
    rw [hz] at h
    simp at h
    exact ⟨(List.getElem?_eq_some_iff.1 hz).1, by rw [← h]; simp [List.getD, hz]⟩

theorem nums_trod {H : Type} {enc : TypeId × Value → H} {W : World} {held : Bool} {fuel : Nat} {l : List Value} {y : DataW H × List MemPlace} (hf : DataW.trod enc Try.prog W 0 (fun _ => true) held fuel 35 l = some y) :
    ∃ (p : Option Addr) (c : Nat) (ms : List Int), l = [.slice p ms.length c] ∧ WV W 0 1 p ms.length c (flatU ms) := by
  rcases open_ints Try.underlying35 Try.underlying23 (by kernel_rfl) hf with ⟨hcs, _⟩ | ⟨x, len, cap, zs, hcs, _, hl, hm, hz, _, hcell, hwz⟩
  · exact ⟨Option.none, 0, [], hcs, WV.nil _ _ _ _ _⟩
  · simp only [if_true] at hz
    have htl : (zs.take len).length = len := by rw [List.length_take]; omega
    refine ⟨some x, cap, zs.take len, by rw [htl]; exact hcs, ?_⟩
    rw [htl]
    refine ⟨by rw [flatU_len, htl], hl, fun hn => ?_⟩
    have h0 := hcell 0 (by omega)
    have hx := spotless h0
    obtain ⟨b, off, spot⟩ := x
    simp only at hx
    injection hx with _ _ hx
    subst hx
    rw [add_plain'] at h0
    refine ⟨b, off, rfl, Nat.zero_le _, block_lt h0, fun j u hu => ?_⟩
    obtain ⟨hj, rfl⟩ := flatU_getD _ _ _ hu
    rw [htl] at hj
    have := hcell j (by omega)
    rw [add_plain'] at this
    rw [this]
    simp [List.getD, List.getElem?_take, hj]
theorem assoc_trod {H : Type} {enc : TypeId × Value → H} {W : World} {held : Bool} {fuel : Nat} {l : List Value} {y : DataW H × List MemPlace} (hf : DataW.trod enc Try.prog W 0 (fun _ => true) held fuel 37 l = some y) :
    ∃ x : As, l = cellsA x ∧ MsV W 0 x ∧ (0 ≤ x.lv ∧ x.lv < 256) ∧ (0 ≤ x.vid ∧ x.vid < 65536) := by
  have C5 : Try.prog.cellsOf 5 = 1 := by kernel_rfl
  have C9 : Try.prog.cellsOf 9 = 1 := by kernel_rfl
  have C23 : Try.prog.cellsOf 23 = 1 := by kernel_rfl
  have C35 : Try.prog.cellsOf 35 = 1 := by kernel_rfl
  have C37 : Try.prog.cellsOf 37 = 6 := by kernel_rfl
  obtain ⟨ys, n'', hn', hy, hlen, hyl, hfld⟩ := DataW.trod_struct Try.underlying37 hf
  rw [C37] at hlen
  have f0 : DataW.trod enc Try.prog W 0 (fun _ => true) held n'' 5 (List.take (Try.prog.cellsOf 5) (List.drop 0 l)) = ys[0]? := hfld 0 _ rfl
  have f1 : DataW.trod enc Try.prog W 0 (fun _ => true) held n'' 9 (List.take (Try.prog.cellsOf 9) (List.drop 1 l)) = ys[1]? := hfld 1 _ rfl
  have f2 : DataW.trod enc Try.prog W 0 (fun _ => true) held n'' 9 (List.take (Try.prog.cellsOf 9) (List.drop 2 l)) = ys[2]? := hfld 2 _ rfl
  have f3 : DataW.trod enc Try.prog W 0 (fun _ => true) held n'' 23 (List.take (Try.prog.cellsOf 23) (List.drop 3 l)) = ys[3]? := hfld 3 _ rfl
  have f4 : DataW.trod enc Try.prog W 0 (fun _ => true) held n'' 5 (List.take (Try.prog.cellsOf 5) (List.drop 4 l)) = ys[4]? := hfld 4 _ rfl
  have f5 : DataW.trod enc Try.prog W 0 (fun _ => true) held n'' 35 (List.take (Try.prog.cellsOf 35) (List.drop 5 l)) = ys[5]? := hfld 5 _ rfl
  have hys : ys.length = 6 := by simpa using hyl
  have gy : ∀ j, j < 6 → ∃ y, ys[j]? = some y := fun j hj => ⟨_, List.getElem?_eq_getElem (by omega)⟩
  rw [C5] at f0
  obtain ⟨y0, e0⟩ := gy 0 (by omega)
  rw [e0] at f0
  rw [C9] at f1
  obtain ⟨y1, e1⟩ := gy 1 (by omega)
  rw [e1] at f1
  rw [C9] at f2
  obtain ⟨y2, e2⟩ := gy 2 (by omega)
  rw [e2] at f2
  rw [C23] at f3
  obtain ⟨y3, e3⟩ := gy 3 (by omega)
  rw [e3] at f3
  rw [C5] at f4
  obtain ⟨y4, e4⟩ := gy 4 (by omega)
  rw [e4] at f4
  rw [C35] at f5
  obtain ⟨y5, e5⟩ := gy 5 (by omega)
  rw [e5] at f5
  match l, hlen with
  | [c0, c1, c2, c3, c4, c5], _ =>
    obtain ⟨z0, g0, _, w0⟩ := DataW.trod_int Try.underlying5 f0
    obtain ⟨z1, g1, _, w1⟩ := DataW.trod_string Try.underlying9 f1
    obtain ⟨z2, g2, _, w2⟩ := DataW.trod_string Try.underlying9 f2
    obtain ⟨z3, g3, _, w3⟩ := DataW.trod_int Try.underlying23 f3
    obtain ⟨z4, g4, _, w4⟩ := DataW.trod_int Try.underlying5 f4
    obtain ⟨p, c, ms, g5, hms⟩ := nums_trod f5
    simp at g0 g1 g2 g3 g4 g5
    subst g0 g1 g2 g3 g4 g5
    exact ⟨⟨z0, z1, z2, z3, z4, ms, p, c⟩, rfl, hms, of_wf8 w0, of_wf16 w3⟩
theorem mep_trod {H : Type} {enc : TypeId × Value → H} {W : World} {held : Bool} {fuel : Nat} {l : List Value} {y : DataW H × List MemPlace} (hf : DataW.trod enc Try.prog W 0 (fun _ => true) held fuel 39 l = some y) : ∃ x : Me, l = cellsE x ∧ x.Ok := by
  have C3 : Try.prog.cellsOf 3 = 1 := by kernel_rfl
  have C4 : Try.prog.cellsOf 4 = 1 := by kernel_rfl
  have C5 : Try.prog.cellsOf 5 = 1 := by kernel_rfl
  have C23 : Try.prog.cellsOf 23 = 1 := by kernel_rfl
  have C39 : Try.prog.cellsOf 39 = 4 := by kernel_rfl
  obtain ⟨ys, n'', hn', hy, hlen, hyl, hfld⟩ := DataW.trod_struct Try.underlying39 hf
  rw [C39] at hlen
  have f0 : DataW.trod enc Try.prog W 0 (fun _ => true) held n'' 3 (List.take (Try.prog.cellsOf 3) (List.drop 0 l)) = ys[0]? := hfld 0 _ rfl
  have f1 : DataW.trod enc Try.prog W 0 (fun _ => true) held n'' 23 (List.take (Try.prog.cellsOf 23) (List.drop 1 l)) = ys[1]? := hfld 1 _ rfl
  have f2 : DataW.trod enc Try.prog W 0 (fun _ => true) held n'' 5 (List.take (Try.prog.cellsOf 5) (List.drop 2 l)) = ys[2]? := hfld 2 _ rfl
  have f3 : DataW.trod enc Try.prog W 0 (fun _ => true) held n'' 4 (List.take (Try.prog.cellsOf 4) (List.drop 3 l)) = ys[3]? := hfld 3 _ rfl
  have hys : ys.length = 4 := by simpa using hyl
  have gy : ∀ j, j < 4 → ∃ y, ys[j]? = some y := fun j hj => ⟨_, List.getElem?_eq_getElem (by omega)⟩
  rw [C3] at f0
  obtain ⟨y0, e0⟩ := gy 0 (by omega)
  rw [e0] at f0
  rw [C23] at f1
  obtain ⟨y1, e1⟩ := gy 1 (by omega)
  rw [e1] at f1
  rw [C5] at f2
  obtain ⟨y2, e2⟩ := gy 2 (by omega)
  rw [e2] at f2
  rw [C4] at f3
  obtain ⟨y3, e3⟩ := gy 3 (by omega)
  rw [e3] at f3
  match l, hlen with
  | [c0, c1, c2, c3], _ =>
    obtain ⟨z0, g0, _, w0⟩ := DataW.trod_int Try.underlying3 f0
    obtain ⟨z1, g1, _, w1⟩ := DataW.trod_int Try.underlying23 f1
    obtain ⟨z2, g2, _, w2⟩ := DataW.trod_int Try.underlying5 f2
    obtain ⟨z3, g3, _⟩ := DataW.trod_bool Try.underlying4 f3
    simp at g0 g1 g2 g3
    subst g0 g1 g2 g3
    exact ⟨⟨z0, z1, z2, z3⟩, rfl, of_wf8 w2, of_wf16 w1⟩
theorem mip_trod {H : Type} {enc : TypeId × Value → H} {W : World} {held : Bool} {fuel : Nat} {l : List Value} {y : DataW H × List MemPlace} (hf : DataW.trod enc Try.prog W 0 (fun _ => true) held fuel 41 l = some y) : ∃ x : Mi, l = cellsM x ∧ ((0 ≤ x.port ∧ x.port < 256) ∧ (0 ≤ x.vid ∧ x.vid < 65536) ∧ (0 ≤ x.lv ∧ x.lv < 256)) := by
  have C5 : Try.prog.cellsOf 5 = 1 := by kernel_rfl
  have C23 : Try.prog.cellsOf 23 = 1 := by kernel_rfl
  have C41 : Try.prog.cellsOf 41 = 3 := by kernel_rfl
  obtain ⟨ys, n'', hn', hy, hlen, hyl, hfld⟩ := DataW.trod_struct Try.underlying41 hf
  rw [C41] at hlen
  have f0 : DataW.trod enc Try.prog W 0 (fun _ => true) held n'' 5 (List.take (Try.prog.cellsOf 5) (List.drop 0 l)) = ys[0]? := hfld 0 _ rfl
  have f1 : DataW.trod enc Try.prog W 0 (fun _ => true) held n'' 23 (List.take (Try.prog.cellsOf 23) (List.drop 1 l)) = ys[1]? := hfld 1 _ rfl
  have f2 : DataW.trod enc Try.prog W 0 (fun _ => true) held n'' 5 (List.take (Try.prog.cellsOf 5) (List.drop 2 l)) = ys[2]? := hfld 2 _ rfl
  have hys : ys.length = 3 := by simpa using hyl
  have gy : ∀ j, j < 3 → ∃ y, ys[j]? = some y := fun j hj => ⟨_, List.getElem?_eq_getElem (by omega)⟩
  rw [C5] at f0
  obtain ⟨y0, e0⟩ := gy 0 (by omega)
  rw [e0] at f0
  rw [C23] at f1
  obtain ⟨y1, e1⟩ := gy 1 (by omega)
  rw [e1] at f1
  rw [C5] at f2
  obtain ⟨y2, e2⟩ := gy 2 (by omega)
  rw [e2] at f2
  match l, hlen with
  | [c0, c1, c2], _ =>
    obtain ⟨z0, g0, _, w0⟩ := DataW.trod_int Try.underlying5 f0
    obtain ⟨z1, g1, _, w1⟩ := DataW.trod_int Try.underlying23 f1
    obtain ⟨z2, g2, _, w2⟩ := DataW.trod_int Try.underlying5 f2
    simp at g0 g1 g2
    subst g0 g1 g2
    exact ⟨⟨z0, z1, z2⟩, rfl, of_wf8 w0, of_wf16 w1, of_wf8 w2⟩
theorem ac_trod {H : Type} {enc : TypeId × Value → H} {W : World} {held : Bool} {fuel : Nat} {l : List Value} {y : DataW H × List MemPlace} (hf : DataW.trod enc Try.prog W 0 (fun _ => true) held fuel 43 l = some y) : ∃ x : Ac, l = cellsX x ∧ x.Ok ∧ MsV W 0 x.a := by
  have C5 : Try.prog.cellsOf 5 = 1 := by kernel_rfl
  have C37 : Try.prog.cellsOf 37 = 6 := by kernel_rfl
  have C39 : Try.prog.cellsOf 39 = 4 := by kernel_rfl
  have C41 : Try.prog.cellsOf 41 = 3 := by kernel_rfl
  have C43 : Try.prog.cellsOf 43 = 14 := by kernel_rfl
  obtain ⟨ys, n'', hn', hy, hlen, hyl, hfld⟩ := DataW.trod_struct Try.underlying43 hf
  rw [C43] at hlen
  have f0 : DataW.trod enc Try.prog W 0 (fun _ => true) held n'' 5 (List.take (Try.prog.cellsOf 5) (List.drop 0 l)) = ys[0]? := hfld 0 _ rfl
  have f1 : DataW.trod enc Try.prog W 0 (fun _ => true) held n'' 37 (List.take (Try.prog.cellsOf 37) (List.drop 1 l)) = ys[1]? := hfld 1 _ rfl
  have f2 : DataW.trod enc Try.prog W 0 (fun _ => true) held n'' 39 (List.take (Try.prog.cellsOf 39) (List.drop 7 l)) = ys[2]? := hfld 2 _ rfl
  have f3 : DataW.trod enc Try.prog W 0 (fun _ => true) held n'' 41 (List.take (Try.prog.cellsOf 41) (List.drop 11 l)) = ys[3]? := hfld 3 _ rfl
  have hys : ys.length = 4 := by simpa using hyl
  have gy : ∀ j, j < 4 → ∃ y, ys[j]? = some y := fun j hj => ⟨_, List.getElem?_eq_getElem (by omega)⟩
  rw [C5] at f0
  obtain ⟨y0, e0⟩ := gy 0 (by omega)
  rw [e0] at f0
  rw [C37] at f1
  obtain ⟨y1, e1⟩ := gy 1 (by omega)
  rw [e1] at f1
  rw [C39] at f2
  obtain ⟨y2, e2⟩ := gy 2 (by omega)
  rw [e2] at f2
  rw [C41] at f3
  obtain ⟨y3, e3⟩ := gy 3 (by omega)
  rw [e3] at f3
  match l, hlen with
  | [c0, c1, c2, c3, c4, c5, c6, c7, c8, c9, c10, c11, c12, c13], _ =>
    obtain ⟨z0, g0, _, w0⟩ := DataW.trod_int Try.underlying5 f0
    obtain ⟨a, g1, ha, r1, r2⟩ := assoc_trod f1
    obtain ⟨e, g2, re⟩ := mep_trod f2
    obtain ⟨m, g3, rm⟩ := mip_trod f3
    simp at g0 g1 g2 g3
    obtain ⟨rfl, rfl, rfl, rfl, rfl, rfl⟩ := g1
    obtain ⟨rfl, rfl, rfl, rfl⟩ := g2
    obtain ⟨rfl, rfl, rfl⟩ := g3
    subst g0
    exact ⟨⟨z0, a, e, m⟩, rfl, ⟨of_wf8 w0, re, rm, r1, r2⟩, ha⟩
/-- An act that came in by value. -/
theorem open_ac {H : Type} {enc : TypeId × Value → H} {W : World} {r : Reach} {b0 : Nat} {v : Value} {d : DataW H} {ps : List MemPlace}
    (hval : Value.okWide Try.prog W r b0 43 v) (hd : DataW.Trod enc Try.prog W 0 (fun _ => true) true 43 v d ps) : ∃ x : Ac, v = .agg #[.int .u8 x.d, .int .u8 x.a.lv, .string x.a.dom, .string x.a.own, .int .u16 x.a.vid, .int .u8 x.a.iv, .slice x.a.p x.a.ms.length x.a.c, .int .i64 x.e.ai, .int .u16 x.e.id, .int .u8 x.e.port, .bool x.e.up, .int .u8 x.m.port, .int .u16 x.m.vid, .int .u8 x.m.lv] ∧ x.Ok ∧ MsV W 0 x.a := by
  simp only [Value.okWide, Try.underlying43] at hval
  obtain ⟨cs, rfl, _⟩ := hval
  obtain ⟨fuel, hf⟩ := hd
  simp only [Value.cells] at hf
  obtain ⟨x, hx, h1, h2⟩ := ac_trod hf
  refine ⟨x, ?_, h1, h2⟩
  obtain ⟨l⟩ := cs
  simp at hx
  subst hx
  rfl
/-- Acts that came in: nil, or a row. -/
def IsActs (W : World) (a : Option Addr) (n c : Nat) : Prop :=
  n ≤ maxLen ∧ ∃ L : List Ac, L.length = n ∧ WV W 0 14 a n c (flatX L) ∧ ∀ x ∈ L, x.Ok ∧ MsV W 0 x.a
theorem flatX_at (L : List Ac) (j : Nat) (u : Value) (h : (flatX L)[j]? = some u) : ∃ x, L[j / 14]? = some x ∧ (cellsX x)[j % 14]? = some u := by
  have h2 := flatX_get L (j / 14) (j % 14) (Nat.mod_lt _ (by decide))
  rw [show j / 14 * 14 + j % 14 = j from by omega, h] at h2
  cases hx : L[j / 14]? with
  | none => rw [hx] at h2; cases h2
  | some x => rw [hx] at h2; exact ⟨x, rfl, h2.symm⟩
theorem open_acts {H : Type} {enc : TypeId × Value → H} {W : World} {a : Option Addr} {n c : Nat} {d : DataW H} {p : List MemPlace}
    (h : DataW.Trod enc Try.prog W 0 (fun _ => true) true 22 (.slice a n c) d p) : IsActs W a n c := by
  obtain ⟨fuel, hf⟩ := h
  have C43 : Try.prog.cellsOf 43 = 14 := by kernel_rfl
  rcases open_slice Try.underlying22 hf with h0 | ⟨x, len, cap, m, n', D, Pl', hcs, hb, hl, hm, hmm, hx, hi⟩
  · have hcs := h0.1
    simp [Value.cells] at hcs
    obtain ⟨rfl, rfl, rfl⟩ := hcs
    exact ⟨Nat.zero_le _, [], rfl, WV.nil _ _ _ _ _, by simp⟩
  · simp [Value.cells] at hcs
    obtain ⟨rfl, rfl, rfl⟩ := hcs
    simp only [if_true] at hmm
    subst hmm
    have he : ∀ i, i < n → ∃ z : Ac, (∀ q u, (cellsX z)[q]? = some u → W.cell? (x.add (i * 14 + q)) = some u) ∧ z.Ok ∧ MsV W 0 z.a := by
      intro i hin
      obtain ⟨cs', hc, ht'⟩ := hi i (by omega)
      rw [C43] at hc
      obtain ⟨_, hcl, hat⟩ := World.cells?_some hc
      obtain ⟨z, hz, h1, h2⟩ := ac_trod ht'
      refine ⟨z, fun q u hu => ?_, h1, h2⟩
      have hq : q < 14 := by have := (List.getElem?_eq_some_iff.1 hu).1; simpa using this
      have := hat q hq
      rw [← Go.Deep.add_add, this, hz]
      exact hu
    obtain ⟨L, hll, hL⟩ := exists_list n he
    refine ⟨Nat.le_trans hl hm, L, hll, ⟨by rw [flatX_len, hll], hl, fun hn => ?_⟩, fun z hz => ?_⟩
    · obtain ⟨z, hz⟩ : ∃ z, L[0]? = some z := ⟨_, List.getElem?_eq_getElem (by omega)⟩
      have h0 := (hL 0 z hz).1 0 _ rfl
      have hx' := spotless h0
      obtain ⟨b, off, spot⟩ := x
      simp at hx'
      subst hx'
      simp only [add_plain'] at hL h0
      refine ⟨b, off, rfl, Nat.zero_le _, block_lt h0, fun j u hu => ?_⟩
      obtain ⟨z, hz, hzu⟩ := flatX_at L j u hu
      have := (hL _ z hz).1 _ u hzu
      rwa [show j / 14 * 14 + j % 14 = j from by omega] at this
    · obtain ⟨i, hi, e⟩ := List.mem_iff_getElem.1 hz
      exact (hL i z (by rw [List.getElem?_eq_getElem hi, e])).2
end Go.Proofs.Ytbgijlfdgfhceaa
