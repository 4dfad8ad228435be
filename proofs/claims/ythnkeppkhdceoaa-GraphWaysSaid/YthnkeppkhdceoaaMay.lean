/-
  Graphs: whether there may be such a graph (graph.may). Conditions: the rows lie so; numbers are in their types.
-/
import Derived.Test.YthnkeppkhdceoaaMayK
namespace Go.Proofs.Ythnkeppkhdceoaa
open Go.RowKit
set_option linter.unusedVariables false
set_option linter.unusedSimpArgs false
set_option maxRecDepth 8000

theorem nodup_take_succ {ids : List Int} {k : Nat} {x : Int} (h : ids[k]? = some x) : (ids.take (k + 1)).Nodup ↔ (ids.take k).Nodup ∧ x ∉ ids.take k := by
  have hk : k < ids.length := (List.getElem?_eq_some_iff.1 h).1
  have e : ids.take (k + 1) = ids.take k ++ [x] := by
    rw [List.take_succ_eq_append_getElem hk]
    rw [List.getElem?_eq_getElem hk] at h
    injection h with h
    rw [h]
  rw [e, List.nodup_append]
  simp
  intro _
  constructor
  · intro h1 h2; exact h1 x h2 rfl
  · intro h1 y hy e; subst e; exact h1 hy
/-- Which ports are taken. -/
def tkv (E : List En) : List Value := (List.range 64).map (fun j : Nat => Value.bool (E.any (fun e => decide (e.b * 8 + e.p = (j : Int)))))
theorem tkv_snoc {E : List En} {e : En} {m : Nat} (h : e.b * 8 + e.p = (m : Int)) (hm : m < 64) : tkv (E ++ [e]) = (tkv E).set m (.bool true) := by
  apply List.ext_getElem?
  intro i
  by_cases hi : i < 64
  · by_cases e1 : i = m
    · subst e1
      rw [List.getElem?_set_self (by simp [tkv, hi])]
      simp [tkv, hi, h]
    · rw [List.getElem?_set_ne (fun h => e1 h.symm)]
      have : ¬ (m : Int) = (i : Int) := by omega
      simp [tkv, hi, h, this]
  · rw [List.getElem?_eq_none (by simp [tkv]; omega), List.getElem?_eq_none (by simp [tkv]; omega)]
theorem dist_take_succ {E : List En} {m : Nat} {e : En} (h : E[m]? = some e) : E.take (m + 1) = E.take m ++ [e] := by
  have hk : m < E.length := (List.getElem?_eq_some_iff.1 h).1
  rw [List.take_succ_eq_append_getElem hk]
  rw [List.getElem?_eq_getElem hk] at h
  injection h with h
  rw [h]
theorem Dist.take {E : List En} (h : Dist E) (m : Nat) : Dist (E.take m) := fun i j x y hij hx hy => by
  have hj : j < m := by have := (List.getElem?_eq_some_iff.1 hy).1; rw [List.length_take] at this; omega
  rw [List.getElem?_take, if_pos (by omega)] at hx
  rw [List.getElem?_take, if_pos hj] at hy
  exact h i j x y hij hx hy
theorem Dist.snoc {E : List En} {e : En} (h : Dist E) (hn : ∀ x ∈ E, ¬ (x.b = e.b ∧ x.p = e.p)) : Dist (E ++ [e]) := fun i j x y hij hx hy => by
  have hj : j < (E ++ [e]).length := (List.getElem?_eq_some_iff.1 hy).1
  simp at hj
  rw [List.getElem?_append_left (by omega)] at hx
  by_cases e1 : j < E.length
  · rw [List.getElem?_append_left e1] at hy
    exact h i j x y hij hx hy
  · rw [List.getElem?_append_right (by omega), show j - E.length = 0 by omega] at hy
    simp at hy
    subst hy
    exact hn x (List.mem_of_getElem? hx)
theorem Dist.not_snoc {E : List En} {e x : En} (hx : x ∈ E) (hb : x.b = e.b ∧ x.p = e.p) : ¬ Dist (E ++ [e]) := fun h => by
  obtain ⟨i, hi⟩ := List.mem_iff_getElem?.1 hx
  have hil : i < E.length := (List.getElem?_eq_some_iff.1 hi).1
  refine h i E.length x e hil ?_ ?_ hb
  · rw [List.getElem?_append_left hil]; exact hi
  · rw [List.getElem?_append_right (Nat.le_refl _)]; simp
theorem ends_len (L : List Lk) : (ends L).length = 2 * L.length := by
  induction L with
  | nil => rfl
  | cons l L ih => rw [show ends (l :: L) = l.a :: l.z :: ends L from rfl]; simp only [List.length_cons, ih]; omega
noncomputable def mayB (ids : List Int) (L : List Lk) : Bool := @decide (MayG ids L) (Classical.propDecidable _)
theorem mayB_true {ids : List Int} {L : List Lk} (h : MayG ids L) : mayB ids L = true := by simp [mayB, h]
theorem mayB_false {ids : List Int} {L : List Lk} (h : ¬ MayG ids L) : mayB ids L = false := by simp [mayB, h]
theorem mayB_iff {ids : List Int} {L : List Lk} : mayB ids L = true ↔ MayG ids L := by simp [mayB]
set_option maxHeartbeats 16000000 in
theorem may_any {w : World} {BI n ci nl cl : Nat} {pi pl : Option Addr} {ids : List Int} {L : List Lk}
    (hI : WV w BI 1 pi n ci (idc ids)) (hL : LSl w.heap.size w pl cl L) (hnl : L.length = nl) (hl : nl ≤ 50) (hn : n ≤ 1000) (ht : InT ids L) :
    Calls Try.prog 14 #[.agg #[.slice pi n ci, .slice pl nl cl]] w fun e w' => e = .returned (.bool (mayB ids L)) ∧ Keeps Nil w w' := by
  have hlen : ids.length = n := by have := hI.1; simpa [idc] using this
  have HT := hid ht
  have HI := hid hI
  have HL := hid hL
  clear hI hL ht
  by_cases h1 : n < 1
  · go_enter Try.func14, Try.ntmps14
    go_wp2
    go_ret
    exact ⟨by rw [mayB_false (fun h => by have := h.n1; omega)]; rfl, (Keeps.refl Nil w).alloc _⟩
  by_cases h8 : 8 < n
  · go_enter Try.func14, Try.ntmps14
    go_wp2
    go_ret
    exact ⟨by rw [mayB_false (fun h => by have := h.n8; omega)]; rfl, (Keeps.refl Nil w).alloc _⟩
  have hmm := @run_makeMap Try.prog
  have hd1 : decide ((n : Int) < 1) = false := by simp; omega
  have hd8 : decide (8 < (n : Int)) = false := by simp; omega
  go_enter Try.func14, Try.ntmps14
  go_wp2
  have hb0 := (two_allocs w (.cells #[.slice pi n ci, .slice pl nl cl] 51 (0, 0)) (.map #[] 0)).1
  have hM := MapU.made (w.alloc (.cells #[.slice pi n ci, .slice pl nl cl] 51 (0, 0)))
  have k0 : Keeps Nil w ((w.alloc (.cells #[.slice pi n ci, .slice pl nl cl] 51 (0, 0))).alloc (.map #[] 0)) := ((Keeps.refl Nil w).alloc _).alloc _
  rw [World.size_alloc] at hM
  have hM0 := (two_allocs w (.cells #[.slice pi n ci, .slice pl nl cl] 51 (0, 0)) (.map #[] 0))
  generalize (w.alloc (.cells #[.slice pi n ci, .slice pl nl cl] 51 (0, 0))).alloc (.map #[] 0) = W0 at *
  go_loopw [25] (fun s wr => ∃ k : Nat, k ≤ n ∧ s = .int .i64 k ∧ Hid (MapU wr (w.heap.size + 1) (ids.take k)) ∧ Hid ((ids.take k).Nodup) ∧ Hid (Keeps (At (w.heap.size + 1)) W0 wr)) (fun s _ => n - (intOf s).toNat)
  case atStart => exact ⟨0, Nat.zero_le _, rfl, hid hM, hid (by simp), hid (Keeps.refl _ _)⟩
  case round =>
    obtain ⟨k, hk, rfl, HM, HN, HK⟩ := hrel
    have kw : Keeps Nil w wr := k0.trans' HK.out (fun x hx e => by have : x = w.heap.size + 1 := e; omega)
    have KW := hid kw
    by_cases hlt : k < n
    · obtain ⟨x, hx⟩ : ∃ x, ids[k]? = some x := ⟨_, List.getElem?_eq_getElem (by omega)⟩
      obtain ⟨_, hcap, g, off, hp, _, hgl, hc⟩ := (HI.out.keepN kw).id hx
      subst hp
      have hxr := HT.out.id x (List.mem_of_getElem? hx)
      have LK := HM.out.look hxr
      by_cases hin : x ∈ ids.take k
      · rw [decide_eq_true hin] at LK
        have HF := hid (show ¬ MayG ids L from fun h => by
          have h2 := h.once.sublist (List.take_sublist (k + 1) ids)
          exact ((nodup_take_succ hx).1 h2).2 hin)
        clear hx kw
        go_wp2
        go_ret
        exact ⟨by rw [mayB_false HF.out]; rfl, KW.out⟩
      · rw [decide_eq_false hin] at LK
        obtain ⟨w', hrun, hput, hkp⟩ := HM.out.put hxr hin (by rw [List.length_take]; omega)
        have HPUT := hid (show MapU w' (w.heap.size + 1) (ids.take (k + 1)) by
          rw [List.take_succ_eq_append_getElem (by omega)]
          rw [List.getElem?_eq_getElem (by omega)] at hx
          injection hx with hx
          rw [hx]; exact hput)
        have HN2 := hid ((nodup_take_succ hx).2 ⟨HN.out, hin⟩)
        have HKP := hid hkp
        clear hx kw hput hkp
        go_wp2
        go_roundw
        case rel => exact ⟨k + 1, by omega, by simp, HPUT, HN2, hid (HK.out.trans HKP.out)⟩
        case measure => simp [intOf]; omega
    · have hkn : k = n := by omega
      have HND := hid (show ids.Nodup by have := HN.out; rwa [List.take_of_length_le (by omega)] at this)
      have hbw := (HK.out.block _ (lt_of_block hb0) (fun e => by have : w.heap.size = w.heap.size + 1 := e; omega)).trans hb0
      clear HM HN kw hkn
      go_upto_region 12 with (fail)
      have hT0 := alloc_block wr (.cells #[.bool false, .bool false, .bool false, .bool false, .bool false, .bool false, .bool false, .bool false, .bool false, .bool false, .bool false, .bool false, .bool false, .bool false, .bool false, .bool false, .bool false, .bool false, .bool false, .bool false, .bool false, .bool false, .bool false, .bool false, .bool false, .bool false, .bool false, .bool false, .bool false, .bool false, .bool false, .bool false, .bool false, .bool false, .bool false, .bool false, .bool false, .bool false, .bool false, .bool false, .bool false, .bool false, .bool false, .bool false, .bool false, .bool false, .bool false, .bool false, .bool false, .bool false, .bool false, .bool false, .bool false, .bool false, .bool false, .bool false, .bool false, .bool false, .bool false, .bool false, .bool false, .bool false, .bool false, .bool false] 79 (0, 0))
      have k1 : Keeps Nil wr (wr.alloc (.cells #[.bool false, .bool false, .bool false, .bool false, .bool false, .bool false, .bool false, .bool false, .bool false, .bool false, .bool false, .bool false, .bool false, .bool false, .bool false, .bool false, .bool false, .bool false, .bool false, .bool false, .bool false, .bool false, .bool false, .bool false, .bool false, .bool false, .bool false, .bool false, .bool false, .bool false, .bool false, .bool false, .bool false, .bool false, .bool false, .bool false, .bool false, .bool false, .bool false, .bool false, .bool false, .bool false, .bool false, .bool false, .bool false, .bool false, .bool false, .bool false, .bool false, .bool false, .bool false, .bool false, .bool false, .bool false, .bool false, .bool false, .bool false, .bool false, .bool false, .bool false, .bool false, .bool false, .bool false, .bool false] 79 (0, 0))) := (Keeps.refl Nil wr).alloc _
      generalize wr.alloc (.cells #[.bool false, .bool false, .bool false, .bool false, .bool false, .bool false, .bool false, .bool false, .bool false, .bool false, .bool false, .bool false, .bool false, .bool false, .bool false, .bool false, .bool false, .bool false, .bool false, .bool false, .bool false, .bool false, .bool false, .bool false, .bool false, .bool false, .bool false, .bool false, .bool false, .bool false, .bool false, .bool false, .bool false, .bool false, .bool false, .bool false, .bool false, .bool false, .bool false, .bool false, .bool false, .bool false, .bool false, .bool false, .bool false, .bool false, .bool false, .bool false, .bool false, .bool false, .bool false, .bool false, .bool false, .bool false, .bool false, .bool false, .bool false, .bool false, .bool false, .bool false, .bool false, .bool false, .bool false, .bool false] 79 (0, 0)) = W1 at *
      have hbw1 := (Keeps.block (show Keeps Nil wr W1 from k1) _ (lt_of_block hbw) (fun e => e)).trans hbw
      have hbT : w.heap.size + 1 < wr.heap.size := Nat.lt_of_lt_of_le (lt_of_block (show W0.heap[w.heap.size + 1]? = _ from hM0.2)) HK.out.size
      generalize wr.heap.size = bT at *
      rw [show (#[.bool false, .bool false, .bool false, .bool false, .bool false, .bool false, .bool false, .bool false, .bool false, .bool false, .bool false, .bool false, .bool false, .bool false, .bool false, .bool false, .bool false, .bool false, .bool false, .bool false, .bool false, .bool false, .bool false, .bool false, .bool false, .bool false, .bool false, .bool false, .bool false, .bool false, .bool false, .bool false, .bool false, .bool false, .bool false, .bool false, .bool false, .bool false, .bool false, .bool false, .bool false, .bool false, .bool false, .bool false, .bool false, .bool false, .bool false, .bool false, .bool false, .bool false, .bool false, .bool false, .bool false, .bool false, .bool false, .bool false, .bool false, .bool false, .bool false, .bool false, .bool false, .bool false, .bool false, .bool false] : Array Value) = (tkv ((ends L).take 0)).toArray from rfl] at hT0
      have kw1 : Keeps Nil w W1 := KW.out.trans k1
      have b0 := cellOf (i := 0) (v := .slice pi n ci) hbw1 rfl
      have b1 := cellOf (i := 1) (v := .slice pl nl cl) hbw1 rfl
      have hlW := lt_of_block hbw1
      have hlm : w.heap.size ≠ bT := by omega
      have HBW1 := hid hbw1
      have HKW1 := hid kw1
      have HLE := hid (ends_len L)
      clear k1 hbw hbw1 kw1
      go_wp2
      go_loopw [38] (fun s wq => ∃ j : Nat, j ≤ nl ∧ s = .int .i64 j ∧ Hid (∀ e ∈ (ends L).take (2 * j), okE n e) ∧ Hid (Dist ((ends L).take (2 * j))) ∧ Hid (wq.heap[bT]? = some (.cells (tkv ((ends L).take (2 * j))).toArray 79 (0, 0))) ∧ Hid (Keeps (At bT) W1 wq)) (fun s _ => nl - (intOf s).toNat)
      case atStart => exact ⟨0, Nat.zero_le _, rfl, hid (by simp), hid (by intro i j x y _ h; simp at h), hid hT0, hid (Keeps.refl _ _)⟩
      case round =>
        obtain ⟨j, hj, rfl, HOK, HD, HTK, HKQ⟩ := hrel
        have hbq := (HKQ.out.block _ hlW (fun e => hlm e)).trans HBW1.out
        have hlq : w.heap.size < wr.heap.size := lt_of_block hbq
        by_cases hjl : j < nl
        · obtain ⟨x, hx⟩ : ∃ x, L[j]? = some x := ⟨_, List.getElem?_eq_getElem (by omega)⟩
          obtain ⟨lb, lo, hlp, hlb, hlr⟩ := HL.out.2 (fun e => by rw [e] at hx; simp at hx)
          subst hlp
          have kwq : Keeps Nil w wr := HKW1.out.trans' HKQ.out (fun x hx e => by have : x = bT := e; omega)
          obtain ⟨c0, c1, c2, c3, c4, c5, c6⟩ := (hlr.below (kwq.below (fun _ _ e => e)) hlb) j x hx
          have hncl : nl ≤ cl := by have := HL.out.1; omega
          have hlbq : lb < wr.heap.size := Nat.lt_of_lt_of_le hlb kwq.size
          have hbB := alloc_block wr (.cells #[.int .i64 x.a.b, .int .u8 x.a.p, .int .u32 x.a.c, .int .i64 x.z.b, .int .u8 x.z.p, .int .u32 x.z.c, .bool x.up] 61 (0, 0))
          have kB : Keeps Nil wr (wr.alloc (.cells #[.int .i64 x.a.b, .int .u8 x.a.p, .int .u32 x.a.c, .int .i64 x.z.b, .int .u8 x.z.p, .int .u32 x.z.c, .bool x.up] 61 (0, 0))) := (Keeps.refl Nil wr).alloc _
          have hEA := ends_at hx
          have HX := hid hx
          have HKWQ := hid kwq
          have HBQ := hid hbq
          have HBB := hid hbB
          have KB := hid kB
          clear hx hlr kwq hbq hbB kB
          go_wp2
          obtain ⟨W2, hW2⟩ : ∃ W2, wr.alloc (.cells #[.int .i64 x.a.b, .int .u8 x.a.p, .int .u32 x.a.c, .int .i64 x.z.b, .int .u8 x.z.p, .int .u32 x.z.c, .bool x.up] 61 (0, 0)) = W2 := ⟨_, rfl⟩
          rw [hW2] at HBB KB ⊢
          clear hW2 c0 c1 c2 c3 c4 c5 c6
          have HB2 := hid ((KB.out.block _ hlq (fun e => e)).trans HBQ.out)
          generalize wr.heap.size = B8 at *
          go_loopw [44] (fun s wz => ∃ q : Nat, q ≤ 2 ∧ s = .int .i64 q ∧ Hid (∀ e ∈ (ends L).take (2 * j + q), okE n e) ∧ Hid (Dist ((ends L).take (2 * j + q))) ∧ Hid (wz.heap[bT]? = some (.cells (tkv ((ends L).take (2 * j + q))).toArray 79 (0, 0))) ∧ Hid (Keeps (At bT) W2 wz)) (fun s _ => 2 - (intOf s).toNat)
          case atStart => exact ⟨0, by omega, rfl, HOK, HD, hid ((KB.out.block _ (lt_of_block HTK.out) (fun e => e)).trans HTK.out), hid (Keeps.refl _ _)⟩
          case round =>
            obtain ⟨q, hq, rfl, HOK2, HD2, HTK2, HKZ⟩ := hrel
            by_cases hq2 : q < 2
            · obtain ⟨e, he, hix⟩ : ∃ e : En, (ends L)[2 * j + q]? = some e ∧ ∀ W, (Instr.index 59 (.agg #[.int .i64 x.a.b, .int .u8 x.a.p, .int .u32 x.a.c, .int .i64 x.z.b, .int .u8 x.z.p, .int .u32 x.z.c]) (.int .i64 (q : Int))).run Try.prog W = .ok (.agg #[.int .i64 e.b, .int .u8 e.p, .int .u32 e.c]) W := by
                obtain rfl | rfl : q = 0 ∨ q = 1 := by omega
                · exact ⟨x.a, hEA.1, fun W => index59_0 _ _ _ _ _ _ W⟩
                · exact ⟨x.z, hEA.2, fun W => index59_1 _ _ _ _ _ _ W⟩
              have hem : e ∈ ends L := List.mem_of_getElem? he
              have her := HT.out.e e hem
              have hbz : wr.heap[w.heap.size]? = some (.cells #[.slice pi n ci, .slice (some ⟨lb, lo, Option.none⟩) nl cl] 51 (0, 0)) := (HKZ.out.block _ (lt_of_block HB2.out) (fun e => hlm e)).trans HB2.out
              have z0 := cellOf (i := 0) (v := .slice pi n ci) hbz rfl
              have hlz := lt_of_block hbz
              have kz : Keeps Nil w wr := (HKWQ.out.trans KB.out).trans' HKZ.out (fun x hx e => by have : x = bT := e; omega)
              have HKF := hid kz
              have HE := hid he
              clear he kz hbz
              by_cases h1 : e.b < 0
              · have HF := hid (show ¬ MayG ids L from fun h => by have := (h.ok e hem).1.1; omega)
                have d1 : decide (e.b < 0) = true := by simp; omega
                go_wp2
                go_quiet (fail)
                go_wp2
                go_ret
                exact ⟨by rw [mayB_false HF.out]; rfl, (HKF.out.alloc _).thenNil (Keeps.drewN _ _)⟩
              by_cases h2 : (n : Int) ≤ e.b
              · have HF := hid (show ¬ MayG ids L from fun h => by have := (h.ok e hem).1.2; omega)
                have d1 : decide (e.b < 0) = false := decide_eq_false (by omega)
                have d2 : decide ((n : Int) ≤ e.b) = true := by simp; omega
                go_wp2
                go_quiet (fail)
                go_wp2
                go_ret
                exact ⟨by rw [mayB_false HF.out]; rfl, (HKF.out.alloc _).thenNil (Keeps.drewN _ _)⟩
              by_cases h3 : 8 ≤ e.p
              · have HF := hid (show ¬ MayG ids L from fun h => by have := (h.ok e hem).2.1; omega)
                have d1 : decide (e.b < 0) = false := decide_eq_false (by omega)
                have d2 : decide ((n : Int) ≤ e.b) = false := decide_eq_false (by omega)
                have d3 : decide (8 ≤ e.p) = true := by simp; omega
                go_wp2
                go_quiet (fail)
                go_wp2
                go_ret
                exact ⟨by rw [mayB_false HF.out]; rfl, (HKF.out.alloc _).thenNil (Keeps.drewN _ _)⟩
              by_cases h4 : e.c < 1
              · have HF := hid (show ¬ MayG ids L from fun h => by have := (h.ok e hem).2.2.1; omega)
                have d1 : decide (e.b < 0) = false := decide_eq_false (by omega)
                have d2 : decide ((n : Int) ≤ e.b) = false := decide_eq_false (by omega)
                have d3 : decide (8 ≤ e.p) = false := decide_eq_false (by omega)
                have d4 : decide (e.c < 1) = true := by simp; omega
                go_wp2
                go_quiet (fail)
                go_wp2
                go_ret
                exact ⟨by rw [mayB_false HF.out]; rfl, (HKF.out.alloc _).thenNil (Keeps.drewN _ _)⟩
              by_cases h5 : 65535 < e.c
              · have HF := hid (show ¬ MayG ids L from fun h => by have := (h.ok e hem).2.2.2; omega)
                have d1 : decide (e.b < 0) = false := decide_eq_false (by omega)
                have d2 : decide ((n : Int) ≤ e.b) = false := decide_eq_false (by omega)
                have d3 : decide (8 ≤ e.p) = false := decide_eq_false (by omega)
                have d4 : decide (e.c < 1) = false := decide_eq_false (by omega)
                have d5 : decide (65535 < e.c) = true := by simp; omega
                go_wp2
                go_quiet (fail)
                go_wp2
                go_ret
                exact ⟨by rw [mayB_false HF.out]; rfl, (HKF.out.alloc _).thenNil (Keeps.drewN _ _)⟩
              obtain ⟨bb, hbb⟩ : ∃ b : Nat, e.b = (b : Int) := ⟨e.b.toNat, by omega⟩
              obtain ⟨pp, hpp⟩ : ∃ p : Nat, e.p = (p : Int) := ⟨e.p.toNat, by omega⟩
              obtain ⟨eb, ep, ec⟩ := e
              dsimp only at *
              subst hbb hpp
              have hb7 : bb < 8 := by omega
              have hp7 : pp < 8 := by omega
              have hb7i : (bb : Int) < 8 := by omega
              have hp7i : (pp : Int) < 8 := by omega
              have hm64 : bb * 8 + pp < 64 := by omega
              have hsame : ∀ y ∈ (ends L).take (2 * j + q), y.b * 8 + y.p = ((bb * 8 + pp : Nat) : Int) → y.b = (bb : Int) ∧ y.p = (pp : Int) := fun y hy hs => by
                have o1 := HOK2.out y hy
                have o2 := (HT.out.e y (List.mem_of_mem_take hy)).1
                unfold okE at o1
                omega
              have eT := cellOf (i := bb * 8 + pp) HTK2.out (show (tkv ((ends L).take (2 * j + q))).toArray[bb * 8 + pp]? = some (.bool (((ends L).take (2 * j + q)).any (fun y => decide (y.b * 8 + y.p = ((bb * 8 + pp : Nat) : Int))))) by simp [tkv, hm64])
              have hlT := lt_of_block HTK2.out
              have hfT : wr.frozen? ⟨bT, bb * 8 + pp, Option.none⟩ = false := by simp [World.frozen?, HTK2.out]
              have d1 : decide ((bb : Int) < 0) = false := decide_eq_false (by omega)
              have d2 : decide ((n : Int) ≤ (bb : Int)) = false := decide_eq_false (by omega)
              have d3 : decide (8 ≤ (pp : Int)) = false := decide_eq_false (by omega)
              have d2' : decide (n ≤ bb) = false := decide_eq_false (by omega)
              have d3' : decide (8 ≤ pp) = false := decide_eq_false (by omega)
              have d2n : ¬ n ≤ bb := by omega
              have d3n : ¬ 8 ≤ pp := by omega
              have d4 : decide (ec < 1) = false := decide_eq_false (by omega)
              have d5 : decide (65535 < ec) = false := decide_eq_false (by omega)
              by_cases h6 : ∃ y ∈ (ends L).take (2 * j + q), y.b = (bb : Int) ∧ y.p = (pp : Int)
              · have HF := hid (show ¬ MayG ids L from fun h => by
                  obtain ⟨y, hy, hyb⟩ := h6
                  have h7 := h.dist.take (2 * j + q + 1)
                  rw [dist_take_succ HE.out] at h7
                  exact Dist.not_snoc hy hyb h7)
                rw [show ((ends L).take (2 * j + q)).any (fun y => decide (y.b * 8 + y.p = ((bb * 8 + pp : Nat) : Int))) = true by
                  obtain ⟨y, hy, hyb⟩ := h6
                  exact List.any_eq_true.2 ⟨y, hy, by simp; omega⟩] at eT
                clear h6 hsame
                go_wp2
                have hbe := alloc_block wr (.cells #[.int .i64 (bb : Int), .int .u8 (pp : Int), .int .u32 ec] 58 (0, 0))
                have kE : Keeps Nil wr (wr.alloc (.cells #[.int .i64 (bb : Int), .int .u8 (pp : Int), .int .u32 ec] 58 (0, 0))) := (Keeps.refl Nil wr).alloc _
                obtain ⟨W5, hW5⟩ : ∃ W5, wr.alloc (.cells #[.int .i64 (bb : Int), .int .u8 (pp : Int), .int .u32 ec] 58 (0, 0)) = W5 := ⟨_, rfl⟩
                rw [hW5] at kE hbe ⊢
                clear hW5
                have e5 := (kE.cell (p := ⟨bT, bb * 8 + pp, Option.none⟩) hlT (fun e => e)).trans eT
                have z5 := (kE.cell (p := ⟨w.heap.size, 0, Option.none⟩) hlz (fun e => e)).trans z0
                have r0 := cellOf (i := 0) (v := .int .i64 (bb : Int)) hbe rfl
                have r1 := cellOf (i := 1) (v := .int .u8 (pp : Int)) hbe rfl
                have r2 := cellOf (i := 2) (v := .int .u32 ec) hbe rfl
                have hlBe := lt_of_block hbe
                generalize hBe : wr.heap.size = Be at *
                refine wp_region_held_drew (S := (fun W => W.cell? ⟨Be, 0, Option.none⟩ = some (.int .i64 (bb : Int)) ∧ W.cell? ⟨Be, 1, Option.none⟩ = some (.int .u8 (pp : Int)) ∧ W.cell? ⟨Be, 2, Option.none⟩ = some (.int .u32 ec) ∧ W.cell? ⟨w.heap.size, 0, Option.none⟩ = some (.slice pi n ci) ∧ W.cell? ⟨bT, bb * 8 + pp, Option.none⟩ = some (.bool true))) (by kernel_rfl) ?_ (fun hHeld => ?_)
                · (try dsimp only); exact ⟨r0, r1, r2, z5, e5⟩
                refine wpAnyH_take (i := 0) (v := ?_) rfl (by kernel_rfl) (by kernel_rfl) (by kernel_rfl) (fun _ _ _ h => h) (Or.inl ⟨by rfl, ?_⟩) (by assumption) ?_
                rotate_left
                · (intro W hSw; (try dsimp only at hSw); go_simp <;> with_reducible rfl)
                try simp only [Act.put, List.setIfInBounds_toArray, List.set_cons_zero, List.set_cons_succ, List.getElem_toArray, List.getElem_cons_zero, List.getElem_cons_succ]
                refine wpAnyH_take (i := 1) (v := ?_) rfl (by kernel_rfl) (by kernel_rfl) (by kernel_rfl) (fun _ _ _ h => h) (Or.inl ⟨by rfl, ?_⟩) (by assumption) ?_
                rotate_left
                · (intro W hSw; (try dsimp only at hSw); go_simp <;> with_reducible rfl)
                try simp only [Act.put, List.setIfInBounds_toArray, List.set_cons_zero, List.set_cons_succ, List.getElem_toArray, List.getElem_cons_zero, List.getElem_cons_succ]
                refine wpAnyH_take (i := 2) (v := ?_) rfl (by kernel_rfl) (by kernel_rfl) (by kernel_rfl) (fun _ _ _ h => h) (Or.inl ⟨by rfl, ?_⟩) (by assumption) ?_
                rotate_left
                · (intro W hSw; (try dsimp only at hSw); go_simp <;> with_reducible rfl)
                try simp only [Act.put, List.setIfInBounds_toArray, List.set_cons_zero, List.set_cons_succ, List.getElem_toArray, List.getElem_cons_zero, List.getElem_cons_succ]
                refine wpAnyH_take (i := 3) (v := ?_) rfl (by kernel_rfl) (by kernel_rfl) (by kernel_rfl) (fun _ _ _ h => h) (Or.inl ⟨by rfl, ?_⟩) (by assumption) ?_
                rotate_left
                · (intro W hSw; (try dsimp only at hSw); go_simp <;> with_reducible rfl)
                try simp only [Act.put, List.setIfInBounds_toArray, List.set_cons_zero, List.set_cons_succ, List.getElem_toArray, List.getElem_cons_zero, List.getElem_cons_succ]
                refine wpAnyH_take (i := 4) (v := ?_) rfl (by kernel_rfl) (by kernel_rfl) (by kernel_rfl) (fun _ _ _ h => h) (Or.inl ⟨by rfl, ?_⟩) (by assumption) ?_
                rotate_left
                · (intro W hSw; (try dsimp only at hSw); go_simp <;> with_reducible rfl)
                try simp only [Act.put, List.setIfInBounds_toArray, List.set_cons_zero, List.set_cons_succ, List.getElem_toArray, List.getElem_cons_zero, List.getElem_cons_succ]
                refine wpAnyH_take (i := 5) (v := ?_) rfl (by kernel_rfl) (by kernel_rfl) (by kernel_rfl) (fun _ _ _ h => h) (Or.inl ⟨by rfl, ?_⟩) (by assumption) ?_
                rotate_left
                · (intro W hSw; (try dsimp only at hSw); go_simp <;> with_reducible rfl)
                try simp only [Act.put, List.setIfInBounds_toArray, List.set_cons_zero, List.set_cons_succ, List.getElem_toArray, List.getElem_cons_zero, List.getElem_cons_succ]
                refine wpAnyH_take (i := 6) (v := ?_) rfl (by kernel_rfl) (by kernel_rfl) (by kernel_rfl) (fun _ _ _ h => h) (Or.inl ⟨by rfl, ?_⟩) (by assumption) ?_
                rotate_left
                · (intro W hSw; (try dsimp only at hSw); go_simp <;> with_reducible rfl)
                try simp only [Act.put, List.setIfInBounds_toArray, List.set_cons_zero, List.set_cons_succ, List.getElem_toArray, List.getElem_cons_zero, List.getElem_cons_succ]
                refine wpAnyH_take (i := 7) (v := ?_) rfl (by kernel_rfl) (by kernel_rfl) (by kernel_rfl) (fun _ _ _ h => h) (Or.inl ⟨by rfl, ?_⟩) (by assumption) ?_
                rotate_left
                · (intro W hSw; (try dsimp only at hSw); go_simp <;> with_reducible rfl)
                try simp only [Act.put, List.setIfInBounds_toArray, List.set_cons_zero, List.set_cons_succ, List.getElem_toArray, List.getElem_cons_zero, List.getElem_cons_succ]
                refine wpAnyH_take (i := 8) (v := ?_) rfl (by kernel_rfl) (by kernel_rfl) (by kernel_rfl) (fun _ _ _ h => h) (Or.inl ⟨by rfl, ?_⟩) (by assumption) ?_
                rotate_left
                · (intro W hSw; (try dsimp only at hSw); go_simp <;> with_reducible rfl)
                try simp only [Act.put, List.setIfInBounds_toArray, List.set_cons_zero, List.set_cons_succ, List.getElem_toArray, List.getElem_cons_zero, List.getElem_cons_succ]
                refine wpAnyH_take (i := 9) (v := ?_) rfl (by kernel_rfl) (by kernel_rfl) (by kernel_rfl) (fun _ _ _ h => h) (Or.inl ⟨by rfl, ?_⟩) (by assumption) ?_
                rotate_left
                · (intro W hSw; (try dsimp only at hSw); go_simp <;> with_reducible rfl)
                try simp only [Act.put, List.setIfInBounds_toArray, List.set_cons_zero, List.set_cons_succ, List.getElem_toArray, List.getElem_cons_zero, List.getElem_cons_succ]
                refine wpAnyH_take (i := 10) (v := ?_) rfl (by kernel_rfl) (by kernel_rfl) (by kernel_rfl) (fun _ _ _ h => h) (Or.inl ⟨by rfl, ?_⟩) (by assumption) ?_
                rotate_left
                · (intro W hSw; (try dsimp only at hSw); go_simp <;> with_reducible rfl)
                try simp only [Act.put, List.setIfInBounds_toArray, List.set_cons_zero, List.set_cons_succ, List.getElem_toArray, List.getElem_cons_zero, List.getElem_cons_succ]
                refine wpAnyH_take (i := 11) (v := ?_) rfl (by kernel_rfl) (by kernel_rfl) (by kernel_rfl) (fun _ _ _ h => h) (Or.inl ⟨by rfl, ?_⟩) (by assumption) ?_
                rotate_left
                · (intro W hSw; (try dsimp only at hSw); go_simp <;> with_reducible rfl)
                try simp only [Act.put, List.setIfInBounds_toArray, List.set_cons_zero, List.set_cons_succ, List.getElem_toArray, List.getElem_cons_zero, List.getElem_cons_succ]
                refine wpAnyH_take (i := 12) (v := ?_) rfl (by kernel_rfl) (by kernel_rfl) (by kernel_rfl) (fun _ _ _ h => h) (Or.inl ⟨by rfl, ?_⟩) (by assumption) ?_
                rotate_left
                · (intro W hSw; (try dsimp only at hSw); go_simp <;> with_reducible rfl)
                try simp only [Act.put, List.setIfInBounds_toArray, List.set_cons_zero, List.set_cons_succ, List.getElem_toArray, List.getElem_cons_zero, List.getElem_cons_succ]
                refine wpAnyH_take (i := 13) (v := ?_) rfl (by kernel_rfl) (by kernel_rfl) (by kernel_rfl) (fun _ _ _ h => h) (Or.inl ⟨by rfl, ?_⟩) (by assumption) ?_
                rotate_left
                · (intro W hSw; (try dsimp only at hSw); go_simp <;> with_reducible rfl)
                try simp only [Act.put, List.setIfInBounds_toArray, List.set_cons_zero, List.set_cons_succ, List.getElem_toArray, List.getElem_cons_zero, List.getElem_cons_succ]
                refine wpAnyH_take (i := 14) (v := ?_) rfl (by kernel_rfl) (by kernel_rfl) (by kernel_rfl) (fun _ _ _ h => h) (Or.inl ⟨by rfl, ?_⟩) (by assumption) ?_
                rotate_left
                · (intro W hSw; (try dsimp only at hSw); go_simp <;> with_reducible rfl)
                try simp only [Act.put, List.setIfInBounds_toArray, List.set_cons_zero, List.set_cons_succ, List.getElem_toArray, List.getElem_cons_zero, List.getElem_cons_succ]
                refine wpAnyH_take (i := 15) (v := ?_) rfl (by kernel_rfl) (by kernel_rfl) (by kernel_rfl) (fun _ _ _ h => h) (Or.inl ⟨by rfl, ?_⟩) (by assumption) ?_
                rotate_left
                · (intro W hSw; (try dsimp only at hSw); go_simp <;> with_reducible rfl)
                try simp only [Act.put, List.setIfInBounds_toArray, List.set_cons_zero, List.set_cons_succ, List.getElem_toArray, List.getElem_cons_zero, List.getElem_cons_succ]
                refine wpAnyH_take (i := 16) (v := ?_) rfl (by kernel_rfl) (by kernel_rfl) (by kernel_rfl) (fun _ _ _ h => h) (Or.inl ⟨by rfl, ?_⟩) (by assumption) ?_
                rotate_left
                · (intro W hSw; (try dsimp only at hSw); go_simp <;> with_reducible rfl)
                try simp only [Act.put, List.setIfInBounds_toArray, List.set_cons_zero, List.set_cons_succ, List.getElem_toArray, List.getElem_cons_zero, List.getElem_cons_succ]
                refine wpAnyH_take (i := 17) (v := ?_) rfl (by kernel_rfl) (by kernel_rfl) (by kernel_rfl) (fun _ _ _ h => h) (Or.inl ⟨by rfl, ?_⟩) (by assumption) ?_
                rotate_left
                · (intro W hSw; (try dsimp only at hSw); go_simp <;> with_reducible rfl)
                try simp only [Act.put, List.setIfInBounds_toArray, List.set_cons_zero, List.set_cons_succ, List.getElem_toArray, List.getElem_cons_zero, List.getElem_cons_succ]
                refine wpAnyH_take (i := 18) (v := ?_) rfl (by kernel_rfl) (by kernel_rfl) (by kernel_rfl) (fun _ _ _ h => h) (Or.inl ⟨by rfl, ?_⟩) (by assumption) ?_
                rotate_left
                · (intro W hSw; (try dsimp only at hSw); go_simp <;> with_reducible rfl)
                try simp only [Act.put, List.setIfInBounds_toArray, List.set_cons_zero, List.set_cons_succ, List.getElem_toArray, List.getElem_cons_zero, List.getElem_cons_succ]
                refine wpAnyH_take (i := 19) (v := ?_) rfl (by kernel_rfl) (by kernel_rfl) (by kernel_rfl) (fun _ _ _ h => h) (Or.inl ⟨by rfl, ?_⟩) (by assumption) ?_
                rotate_left
                · (intro W hSw; (try dsimp only at hSw); go_simp <;> with_reducible rfl)
                try simp only [Act.put, List.setIfInBounds_toArray, List.set_cons_zero, List.set_cons_succ, List.getElem_toArray, List.getElem_cons_zero, List.getElem_cons_succ]
                refine wpAnyH_take (i := 20) (v := ?_) rfl (by kernel_rfl) (by kernel_rfl) (by kernel_rfl) (fun _ _ _ h => h) (Or.inl ⟨by rfl, ?_⟩) (by assumption) ?_
                rotate_left
                · (intro W hSw; (try dsimp only at hSw); go_simp <;> with_reducible rfl)
                try simp only [Act.put, List.setIfInBounds_toArray, List.set_cons_zero, List.set_cons_succ, List.getElem_toArray, List.getElem_cons_zero, List.getElem_cons_succ]
                refine wpAnyH_take (i := 21) (v := ?_) rfl (by kernel_rfl) (by kernel_rfl) (by kernel_rfl) (fun _ _ _ h => h) (Or.inl ⟨by rfl, ?_⟩) (by assumption) ?_
                rotate_left
                · (intro W hSw; (try dsimp only at hSw); go_simp <;> with_reducible rfl)
                try simp only [Act.put, List.setIfInBounds_toArray, List.set_cons_zero, List.set_cons_succ, List.getElem_toArray, List.getElem_cons_zero, List.getElem_cons_succ]
                refine wpAnyH_take (i := 22) (v := ?_) rfl (by kernel_rfl) (by kernel_rfl) (by kernel_rfl) (fun _ _ _ h => h) (Or.inl ⟨by rfl, ?_⟩) (by assumption) ?_
                rotate_left
                · (intro W hSw; (try dsimp only at hSw); go_simp <;> with_reducible rfl)
                try simp only [Act.put, List.setIfInBounds_toArray, List.set_cons_zero, List.set_cons_succ, List.getElem_toArray, List.getElem_cons_zero, List.getElem_cons_succ]
                refine wpAnyH_take (i := 23) (v := ?_) rfl (by kernel_rfl) (by kernel_rfl) (by kernel_rfl) (fun _ _ _ h => h) (Or.inl ⟨by rfl, ?_⟩) (by assumption) ?_
                rotate_left
                · (intro W hSw; (try dsimp only at hSw); go_simp <;> with_reducible rfl)
                try simp only [Act.put, List.setIfInBounds_toArray, List.set_cons_zero, List.set_cons_succ, List.getElem_toArray, List.getElem_cons_zero, List.getElem_cons_succ]
                refine wpAnyH_take (i := 24) (v := ?_) rfl (by kernel_rfl) (by kernel_rfl) (by kernel_rfl) (fun _ _ _ h => h) (Or.inl ⟨by rfl, ?_⟩) (by assumption) ?_
                rotate_left
                · (intro W hSw; (try dsimp only at hSw); go_simp <;> with_reducible rfl)
                try simp only [Act.put, List.setIfInBounds_toArray, List.set_cons_zero, List.set_cons_succ, List.getElem_toArray, List.getElem_cons_zero, List.getElem_cons_succ]
                refine wpAnyH_take (i := 25) (v := ?_) rfl (by kernel_rfl) (by kernel_rfl) (by kernel_rfl) (fun _ _ _ h => h) (Or.inl ⟨by rfl, ?_⟩) (by assumption) ?_
                rotate_left
                · (intro W hSw; (try dsimp only at hSw); go_simp <;> with_reducible rfl)
                try simp only [Act.put, List.setIfInBounds_toArray, List.set_cons_zero, List.set_cons_succ, List.getElem_toArray, List.getElem_cons_zero, List.getElem_cons_succ]
                refine wpAnyH_take (i := 26) (v := ?_) rfl (by kernel_rfl) (by kernel_rfl) (by kernel_rfl) (fun _ _ _ h => h) (Or.inl ⟨by rfl, ?_⟩) (by assumption) ?_
                rotate_left
                · (intro W hSw; (try dsimp only at hSw); go_simp <;> with_reducible rfl)
                try simp only [Act.put, List.setIfInBounds_toArray, List.set_cons_zero, List.set_cons_succ, List.getElem_toArray, List.getElem_cons_zero, List.getElem_cons_succ]
                refine wpAnyH_take (i := 27) (v := ?_) rfl (by kernel_rfl) (by kernel_rfl) (by kernel_rfl) (fun _ _ _ h => h) (Or.inl ⟨by rfl, ?_⟩) (by assumption) ?_
                rotate_left
                · (intro W hSw; (try dsimp only at hSw); go_simp <;> with_reducible rfl)
                try simp only [Act.put, List.setIfInBounds_toArray, List.set_cons_zero, List.set_cons_succ, List.getElem_toArray, List.getElem_cons_zero, List.getElem_cons_succ]
                refine wpAnyH_take (i := 28) (v := ?_) rfl (by kernel_rfl) (by kernel_rfl) (by kernel_rfl) (fun _ _ _ h => h) (Or.inl ⟨by rfl, ?_⟩) (by assumption) ?_
                rotate_left
                · (intro W hSw; (try dsimp only at hSw); go_simp <;> with_reducible rfl)
                try simp only [Act.put, List.setIfInBounds_toArray, List.set_cons_zero, List.set_cons_succ, List.getElem_toArray, List.getElem_cons_zero, List.getElem_cons_succ]
                refine wpAnyH_take (i := 29) (v := ?_) rfl (by kernel_rfl) (by kernel_rfl) (by kernel_rfl) (fun _ _ _ h => h) (Or.inl ⟨by rfl, ?_⟩) (by assumption) ?_
                rotate_left
                · (intro W hSw; (try dsimp only at hSw); go_simp <;> with_reducible rfl)
                try simp only [Act.put, List.setIfInBounds_toArray, List.set_cons_zero, List.set_cons_succ, List.getElem_toArray, List.getElem_cons_zero, List.getElem_cons_succ]
                refine wpAnyH_take (i := 30) (v := ?_) rfl (by kernel_rfl) (by kernel_rfl) (by kernel_rfl) (fun _ _ _ h => h) (Or.inl ⟨by rfl, ?_⟩) (by assumption) ?_
                rotate_left
                · (intro W hSw; (try dsimp only at hSw); go_simp <;> with_reducible rfl)
                try simp only [Act.put, List.setIfInBounds_toArray, List.set_cons_zero, List.set_cons_succ, List.getElem_toArray, List.getElem_cons_zero, List.getElem_cons_succ]
                refine wpAnyH_take (i := 31) (v := ?_) rfl (by kernel_rfl) (by kernel_rfl) (by kernel_rfl) (fun _ _ _ h => h) (Or.inl ⟨by rfl, ?_⟩) (by assumption) ?_
                rotate_left
                · (intro W hSw; (try dsimp only at hSw); go_simp <;> with_reducible rfl)
                try simp only [Act.put, List.setIfInBounds_toArray, List.set_cons_zero, List.set_cons_succ, List.getElem_toArray, List.getElem_cons_zero, List.getElem_cons_succ]
                refine wpAnyH_take (i := 32) (v := ?_) rfl (by kernel_rfl) (by kernel_rfl) (by kernel_rfl) (fun _ _ _ h => h) (Or.inl ⟨by rfl, ?_⟩) (by assumption) ?_
                rotate_left
                · (intro W hSw; (try dsimp only at hSw); go_simp <;> with_reducible rfl)
                try simp only [Act.put, List.setIfInBounds_toArray, List.set_cons_zero, List.set_cons_succ, List.getElem_toArray, List.getElem_cons_zero, List.getElem_cons_succ]
                refine wpAnyH_take (i := 33) (v := ?_) rfl (by kernel_rfl) (by kernel_rfl) (by kernel_rfl) (fun _ _ _ h => h) (Or.inl ⟨by rfl, ?_⟩) (by assumption) ?_
                rotate_left
                · (intro W hSw; (try dsimp only at hSw); go_simp <;> with_reducible rfl)
                try simp only [Act.put, List.setIfInBounds_toArray, List.set_cons_zero, List.set_cons_succ, List.getElem_toArray, List.getElem_cons_zero, List.getElem_cons_succ]
                refine wpAnyH_take (i := 34) (v := ?_) rfl (by kernel_rfl) (by kernel_rfl) (by kernel_rfl) (fun _ _ _ h => h) (Or.inl ⟨by rfl, ?_⟩) (by assumption) ?_
                rotate_left
                · (intro W hSw; (try dsimp only at hSw); go_simp <;> with_reducible rfl)
                try simp only [Act.put, List.setIfInBounds_toArray, List.set_cons_zero, List.set_cons_succ, List.getElem_toArray, List.getElem_cons_zero, List.getElem_cons_succ]
                refine wpAnyH_done (by kernel_rfl) ?_ _
                go_wp2
                go_ret
                exact ⟨by rw [mayB_false HF.out]; rfl, (HKF.out.trans kE).drew⟩
              · have H6 := hid h6
                rw [show ((ends L).take (2 * j + q)).any (fun y => decide (y.b * 8 + y.p = ((bb * 8 + pp : Nat) : Int))) = false by
                  rw [List.any_eq_false]
                  intro y hy hs
                  exact h6 ⟨y, hy, hsame y hy (by simpa using hs)⟩] at eT
                clear h6 hsame
                go_wp2
                have hbe := alloc_block wr (.cells #[.int .i64 (bb : Int), .int .u8 (pp : Int), .int .u32 ec] 58 (0, 0))
                have kE : Keeps Nil wr (wr.alloc (.cells #[.int .i64 (bb : Int), .int .u8 (pp : Int), .int .u32 ec] 58 (0, 0))) := (Keeps.refl Nil wr).alloc _
                obtain ⟨W5, hW5⟩ : ∃ W5, wr.alloc (.cells #[.int .i64 (bb : Int), .int .u8 (pp : Int), .int .u32 ec] 58 (0, 0)) = W5 := ⟨_, rfl⟩
                rw [hW5] at kE hbe ⊢
                clear hW5
                have e5 := (kE.cell (p := ⟨bT, bb * 8 + pp, Option.none⟩) hlT (fun e => e)).trans eT
                have z5 := (kE.cell (p := ⟨w.heap.size, 0, Option.none⟩) hlz (fun e => e)).trans z0
                have r0 := cellOf (i := 0) (v := .int .i64 (bb : Int)) hbe rfl
                have r1 := cellOf (i := 1) (v := .int .u8 (pp : Int)) hbe rfl
                have r2 := cellOf (i := 2) (v := .int .u32 ec) hbe rfl
                have hlBe := lt_of_block hbe
                generalize hBe : wr.heap.size = Be at *
                refine wp_region_held_drew (S := (fun W => W.cell? ⟨Be, 0, Option.none⟩ = some (.int .i64 (bb : Int)) ∧ W.cell? ⟨Be, 1, Option.none⟩ = some (.int .u8 (pp : Int)) ∧ W.cell? ⟨Be, 2, Option.none⟩ = some (.int .u32 ec) ∧ W.cell? ⟨w.heap.size, 0, Option.none⟩ = some (.slice pi n ci) ∧ W.cell? ⟨bT, bb * 8 + pp, Option.none⟩ = some (.bool false))) (by kernel_rfl) ?_ (fun hHeld => ?_)
                · (try dsimp only); exact ⟨r0, r1, r2, z5, e5⟩
                refine wpAnyH_take (i := 0) (v := ?_) rfl (by kernel_rfl) (by kernel_rfl) (by kernel_rfl) (fun _ _ _ h => h) (Or.inl ⟨by rfl, ?_⟩) (by assumption) ?_
                rotate_left
                · (intro W hSw; (try dsimp only at hSw); go_simp <;> with_reducible rfl)
                try simp only [Act.put, List.setIfInBounds_toArray, List.set_cons_zero, List.set_cons_succ, List.getElem_toArray, List.getElem_cons_zero, List.getElem_cons_succ]
                refine wpAnyH_take (i := 1) (v := ?_) rfl (by kernel_rfl) (by kernel_rfl) (by kernel_rfl) (fun _ _ _ h => h) (Or.inl ⟨by rfl, ?_⟩) (by assumption) ?_
                rotate_left
                · (intro W hSw; (try dsimp only at hSw); go_simp <;> with_reducible rfl)
                try simp only [Act.put, List.setIfInBounds_toArray, List.set_cons_zero, List.set_cons_succ, List.getElem_toArray, List.getElem_cons_zero, List.getElem_cons_succ]
                refine wpAnyH_take (i := 2) (v := ?_) rfl (by kernel_rfl) (by kernel_rfl) (by kernel_rfl) (fun _ _ _ h => h) (Or.inl ⟨by rfl, ?_⟩) (by assumption) ?_
                rotate_left
                · (intro W hSw; (try dsimp only at hSw); go_simp <;> with_reducible rfl)
                try simp only [Act.put, List.setIfInBounds_toArray, List.set_cons_zero, List.set_cons_succ, List.getElem_toArray, List.getElem_cons_zero, List.getElem_cons_succ]
                refine wpAnyH_take (i := 3) (v := ?_) rfl (by kernel_rfl) (by kernel_rfl) (by kernel_rfl) (fun _ _ _ h => h) (Or.inl ⟨by rfl, ?_⟩) (by assumption) ?_
                rotate_left
                · (intro W hSw; (try dsimp only at hSw); go_simp <;> with_reducible rfl)
                try simp only [Act.put, List.setIfInBounds_toArray, List.set_cons_zero, List.set_cons_succ, List.getElem_toArray, List.getElem_cons_zero, List.getElem_cons_succ]
                refine wpAnyH_take (i := 4) (v := ?_) rfl (by kernel_rfl) (by kernel_rfl) (by kernel_rfl) (fun _ _ _ h => h) (Or.inl ⟨by rfl, ?_⟩) (by assumption) ?_
                rotate_left
                · (intro W hSw; (try dsimp only at hSw); go_simp <;> with_reducible rfl)
                try simp only [Act.put, List.setIfInBounds_toArray, List.set_cons_zero, List.set_cons_succ, List.getElem_toArray, List.getElem_cons_zero, List.getElem_cons_succ]
                refine wpAnyH_take (i := 5) (v := ?_) rfl (by kernel_rfl) (by kernel_rfl) (by kernel_rfl) (fun _ _ _ h => h) (Or.inl ⟨by rfl, ?_⟩) (by assumption) ?_
                rotate_left
                · (intro W hSw; (try dsimp only at hSw); go_simp <;> with_reducible rfl)
                try simp only [Act.put, List.setIfInBounds_toArray, List.set_cons_zero, List.set_cons_succ, List.getElem_toArray, List.getElem_cons_zero, List.getElem_cons_succ]
                refine wpAnyH_take (i := 6) (v := ?_) rfl (by kernel_rfl) (by kernel_rfl) (by kernel_rfl) (fun _ _ _ h => h) (Or.inl ⟨by rfl, ?_⟩) (by assumption) ?_
                rotate_left
                · (intro W hSw; (try dsimp only at hSw); go_simp <;> with_reducible rfl)
                try simp only [Act.put, List.setIfInBounds_toArray, List.set_cons_zero, List.set_cons_succ, List.getElem_toArray, List.getElem_cons_zero, List.getElem_cons_succ]
                refine wpAnyH_take (i := 7) (v := ?_) rfl (by kernel_rfl) (by kernel_rfl) (by kernel_rfl) (fun _ _ _ h => h) (Or.inl ⟨by rfl, ?_⟩) (by assumption) ?_
                rotate_left
                · (intro W hSw; (try dsimp only at hSw); go_simp <;> with_reducible rfl)
                try simp only [Act.put, List.setIfInBounds_toArray, List.set_cons_zero, List.set_cons_succ, List.getElem_toArray, List.getElem_cons_zero, List.getElem_cons_succ]
                refine wpAnyH_take (i := 8) (v := ?_) rfl (by kernel_rfl) (by kernel_rfl) (by kernel_rfl) (fun _ _ _ h => h) (Or.inl ⟨by rfl, ?_⟩) (by assumption) ?_
                rotate_left
                · (intro W hSw; (try dsimp only at hSw); go_simp <;> with_reducible rfl)
                try simp only [Act.put, List.setIfInBounds_toArray, List.set_cons_zero, List.set_cons_succ, List.getElem_toArray, List.getElem_cons_zero, List.getElem_cons_succ]
                refine wpAnyH_take (i := 9) (v := ?_) rfl (by kernel_rfl) (by kernel_rfl) (by kernel_rfl) (fun _ _ _ h => h) (Or.inl ⟨by rfl, ?_⟩) (by assumption) ?_
                rotate_left
                · (intro W hSw; (try dsimp only at hSw); go_simp <;> with_reducible rfl)
                try simp only [Act.put, List.setIfInBounds_toArray, List.set_cons_zero, List.set_cons_succ, List.getElem_toArray, List.getElem_cons_zero, List.getElem_cons_succ]
                refine wpAnyH_take (i := 10) (v := ?_) rfl (by kernel_rfl) (by kernel_rfl) (by kernel_rfl) (fun _ _ _ h => h) (Or.inl ⟨by rfl, ?_⟩) (by assumption) ?_
                rotate_left
                · (intro W hSw; (try dsimp only at hSw); go_simp <;> with_reducible rfl)
                try simp only [Act.put, List.setIfInBounds_toArray, List.set_cons_zero, List.set_cons_succ, List.getElem_toArray, List.getElem_cons_zero, List.getElem_cons_succ]
                refine wpAnyH_take (i := 11) (v := ?_) rfl (by kernel_rfl) (by kernel_rfl) (by kernel_rfl) (fun _ _ _ h => h) (Or.inl ⟨by rfl, ?_⟩) (by assumption) ?_
                rotate_left
                · (intro W hSw; (try dsimp only at hSw); go_simp <;> with_reducible rfl)
                try simp only [Act.put, List.setIfInBounds_toArray, List.set_cons_zero, List.set_cons_succ, List.getElem_toArray, List.getElem_cons_zero, List.getElem_cons_succ]
                refine wpAnyH_take (i := 12) (v := ?_) rfl (by kernel_rfl) (by kernel_rfl) (by kernel_rfl) (fun _ _ _ h => h) (Or.inl ⟨by rfl, ?_⟩) (by assumption) ?_
                rotate_left
                · (intro W hSw; (try dsimp only at hSw); go_simp <;> with_reducible rfl)
                try simp only [Act.put, List.setIfInBounds_toArray, List.set_cons_zero, List.set_cons_succ, List.getElem_toArray, List.getElem_cons_zero, List.getElem_cons_succ]
                refine wpAnyH_take (i := 13) (v := ?_) rfl (by kernel_rfl) (by kernel_rfl) (by kernel_rfl) (fun _ _ _ h => h) (Or.inl ⟨by rfl, ?_⟩) (by assumption) ?_
                rotate_left
                · (intro W hSw; (try dsimp only at hSw); go_simp <;> with_reducible rfl)
                try simp only [Act.put, List.setIfInBounds_toArray, List.set_cons_zero, List.set_cons_succ, List.getElem_toArray, List.getElem_cons_zero, List.getElem_cons_succ]
                refine wpAnyH_take (i := 14) (v := ?_) rfl (by kernel_rfl) (by kernel_rfl) (by kernel_rfl) (fun _ _ _ h => h) (Or.inl ⟨by rfl, ?_⟩) (by assumption) ?_
                rotate_left
                · (intro W hSw; (try dsimp only at hSw); go_simp <;> with_reducible rfl)
                try simp only [Act.put, List.setIfInBounds_toArray, List.set_cons_zero, List.set_cons_succ, List.getElem_toArray, List.getElem_cons_zero, List.getElem_cons_succ]
                refine wpAnyH_take (i := 15) (v := ?_) rfl (by kernel_rfl) (by kernel_rfl) (by kernel_rfl) (fun _ _ _ h => h) (Or.inl ⟨by rfl, ?_⟩) (by assumption) ?_
                rotate_left
                · (intro W hSw; (try dsimp only at hSw); go_simp <;> with_reducible rfl)
                try simp only [Act.put, List.setIfInBounds_toArray, List.set_cons_zero, List.set_cons_succ, List.getElem_toArray, List.getElem_cons_zero, List.getElem_cons_succ]
                refine wpAnyH_take (i := 16) (v := ?_) rfl (by kernel_rfl) (by kernel_rfl) (by kernel_rfl) (fun _ _ _ h => h) (Or.inl ⟨by rfl, ?_⟩) (by assumption) ?_
                rotate_left
                · (intro W hSw; (try dsimp only at hSw); go_simp <;> with_reducible rfl)
                try simp only [Act.put, List.setIfInBounds_toArray, List.set_cons_zero, List.set_cons_succ, List.getElem_toArray, List.getElem_cons_zero, List.getElem_cons_succ]
                refine wpAnyH_take (i := 17) (v := ?_) rfl (by kernel_rfl) (by kernel_rfl) (by kernel_rfl) (fun _ _ _ h => h) (Or.inl ⟨by rfl, ?_⟩) (by assumption) ?_
                rotate_left
                · (intro W hSw; (try dsimp only at hSw); go_simp <;> with_reducible rfl)
                try simp only [Act.put, List.setIfInBounds_toArray, List.set_cons_zero, List.set_cons_succ, List.getElem_toArray, List.getElem_cons_zero, List.getElem_cons_succ]
                refine wpAnyH_take (i := 18) (v := ?_) rfl (by kernel_rfl) (by kernel_rfl) (by kernel_rfl) (fun _ _ _ h => h) (Or.inl ⟨by rfl, ?_⟩) (by assumption) ?_
                rotate_left
                · (intro W hSw; (try dsimp only at hSw); go_simp <;> with_reducible rfl)
                try simp only [Act.put, List.setIfInBounds_toArray, List.set_cons_zero, List.set_cons_succ, List.getElem_toArray, List.getElem_cons_zero, List.getElem_cons_succ]
                refine wpAnyH_take (i := 19) (v := ?_) rfl (by kernel_rfl) (by kernel_rfl) (by kernel_rfl) (fun _ _ _ h => h) (Or.inl ⟨by rfl, ?_⟩) (by assumption) ?_
                rotate_left
                · (intro W hSw; (try dsimp only at hSw); go_simp <;> with_reducible rfl)
                try simp only [Act.put, List.setIfInBounds_toArray, List.set_cons_zero, List.set_cons_succ, List.getElem_toArray, List.getElem_cons_zero, List.getElem_cons_succ]
                refine wpAnyH_take (i := 20) (v := ?_) rfl (by kernel_rfl) (by kernel_rfl) (by kernel_rfl) (fun _ _ _ h => h) (Or.inl ⟨by rfl, ?_⟩) (by assumption) ?_
                rotate_left
                · (intro W hSw; (try dsimp only at hSw); go_simp <;> with_reducible rfl)
                try simp only [Act.put, List.setIfInBounds_toArray, List.set_cons_zero, List.set_cons_succ, List.getElem_toArray, List.getElem_cons_zero, List.getElem_cons_succ]
                refine wpAnyH_take (i := 21) (v := ?_) rfl (by kernel_rfl) (by kernel_rfl) (by kernel_rfl) (fun _ _ _ h => h) (Or.inl ⟨by rfl, ?_⟩) (by assumption) ?_
                rotate_left
                · (intro W hSw; (try dsimp only at hSw); go_simp <;> with_reducible rfl)
                try simp only [Act.put, List.setIfInBounds_toArray, List.set_cons_zero, List.set_cons_succ, List.getElem_toArray, List.getElem_cons_zero, List.getElem_cons_succ]
                refine wpAnyH_take (i := 22) (v := ?_) rfl (by kernel_rfl) (by kernel_rfl) (by kernel_rfl) (fun _ _ _ h => h) (Or.inl ⟨by rfl, ?_⟩) (by assumption) ?_
                rotate_left
                · (intro W hSw; (try dsimp only at hSw); go_simp <;> with_reducible rfl)
                try simp only [Act.put, List.setIfInBounds_toArray, List.set_cons_zero, List.set_cons_succ, List.getElem_toArray, List.getElem_cons_zero, List.getElem_cons_succ]
                refine wpAnyH_take (i := 23) (v := ?_) rfl (by kernel_rfl) (by kernel_rfl) (by kernel_rfl) (fun _ _ _ h => h) (Or.inl ⟨by rfl, ?_⟩) (by assumption) ?_
                rotate_left
                · (intro W hSw; (try dsimp only at hSw); go_simp <;> with_reducible rfl)
                try simp only [Act.put, List.setIfInBounds_toArray, List.set_cons_zero, List.set_cons_succ, List.getElem_toArray, List.getElem_cons_zero, List.getElem_cons_succ]
                refine wpAnyH_take (i := 24) (v := ?_) rfl (by kernel_rfl) (by kernel_rfl) (by kernel_rfl) (fun _ _ _ h => h) (Or.inl ⟨by rfl, ?_⟩) (by assumption) ?_
                rotate_left
                · (intro W hSw; (try dsimp only at hSw); go_simp <;> with_reducible rfl)
                try simp only [Act.put, List.setIfInBounds_toArray, List.set_cons_zero, List.set_cons_succ, List.getElem_toArray, List.getElem_cons_zero, List.getElem_cons_succ]
                refine wpAnyH_take (i := 25) (v := ?_) rfl (by kernel_rfl) (by kernel_rfl) (by kernel_rfl) (fun _ _ _ h => h) (Or.inl ⟨by rfl, ?_⟩) (by assumption) ?_
                rotate_left
                · (intro W hSw; (try dsimp only at hSw); go_simp <;> with_reducible rfl)
                try simp only [Act.put, List.setIfInBounds_toArray, List.set_cons_zero, List.set_cons_succ, List.getElem_toArray, List.getElem_cons_zero, List.getElem_cons_succ]
                refine wpAnyH_take (i := 26) (v := ?_) rfl (by kernel_rfl) (by kernel_rfl) (by kernel_rfl) (fun _ _ _ h => h) (Or.inl ⟨by rfl, ?_⟩) (by assumption) ?_
                rotate_left
                · (intro W hSw; (try dsimp only at hSw); go_simp <;> with_reducible rfl)
                try simp only [Act.put, List.setIfInBounds_toArray, List.set_cons_zero, List.set_cons_succ, List.getElem_toArray, List.getElem_cons_zero, List.getElem_cons_succ]
                refine wpAnyH_take (i := 27) (v := ?_) rfl (by kernel_rfl) (by kernel_rfl) (by kernel_rfl) (fun _ _ _ h => h) (Or.inl ⟨by rfl, ?_⟩) (by assumption) ?_
                rotate_left
                · (intro W hSw; (try dsimp only at hSw); go_simp <;> with_reducible rfl)
                try simp only [Act.put, List.setIfInBounds_toArray, List.set_cons_zero, List.set_cons_succ, List.getElem_toArray, List.getElem_cons_zero, List.getElem_cons_succ]
                refine wpAnyH_take (i := 28) (v := ?_) rfl (by kernel_rfl) (by kernel_rfl) (by kernel_rfl) (fun _ _ _ h => h) (Or.inl ⟨by rfl, ?_⟩) (by assumption) ?_
                rotate_left
                · (intro W hSw; (try dsimp only at hSw); go_simp <;> with_reducible rfl)
                try simp only [Act.put, List.setIfInBounds_toArray, List.set_cons_zero, List.set_cons_succ, List.getElem_toArray, List.getElem_cons_zero, List.getElem_cons_succ]
                refine wpAnyH_take (i := 29) (v := ?_) rfl (by kernel_rfl) (by kernel_rfl) (by kernel_rfl) (fun _ _ _ h => h) (Or.inl ⟨by rfl, ?_⟩) (by assumption) ?_
                rotate_left
                · (intro W hSw; (try dsimp only at hSw); go_simp <;> with_reducible rfl)
                try simp only [Act.put, List.setIfInBounds_toArray, List.set_cons_zero, List.set_cons_succ, List.getElem_toArray, List.getElem_cons_zero, List.getElem_cons_succ]
                refine wpAnyH_take (i := 30) (v := ?_) rfl (by kernel_rfl) (by kernel_rfl) (by kernel_rfl) (fun _ _ _ h => h) (Or.inl ⟨by rfl, ?_⟩) (by assumption) ?_
                rotate_left
                · (intro W hSw; (try dsimp only at hSw); go_simp <;> with_reducible rfl)
                try simp only [Act.put, List.setIfInBounds_toArray, List.set_cons_zero, List.set_cons_succ, List.getElem_toArray, List.getElem_cons_zero, List.getElem_cons_succ]
                refine wpAnyH_take (i := 31) (v := ?_) rfl (by kernel_rfl) (by kernel_rfl) (by kernel_rfl) (fun _ _ _ h => h) (Or.inl ⟨by rfl, ?_⟩) (by assumption) ?_
                rotate_left
                · (intro W hSw; (try dsimp only at hSw); go_simp <;> with_reducible rfl)
                try simp only [Act.put, List.setIfInBounds_toArray, List.set_cons_zero, List.set_cons_succ, List.getElem_toArray, List.getElem_cons_zero, List.getElem_cons_succ]
                refine wpAnyH_take (i := 32) (v := ?_) rfl (by kernel_rfl) (by kernel_rfl) (by kernel_rfl) (fun _ _ _ h => h) (Or.inl ⟨by rfl, ?_⟩) (by assumption) ?_
                rotate_left
                · (intro W hSw; (try dsimp only at hSw); go_simp <;> with_reducible rfl)
                try simp only [Act.put, List.setIfInBounds_toArray, List.set_cons_zero, List.set_cons_succ, List.getElem_toArray, List.getElem_cons_zero, List.getElem_cons_succ]
                refine wpAnyH_take (i := 33) (v := ?_) rfl (by kernel_rfl) (by kernel_rfl) (by kernel_rfl) (fun _ _ _ h => h) (Or.inl ⟨by rfl, ?_⟩) (by assumption) ?_
                rotate_left
                · (intro W hSw; (try dsimp only at hSw); go_simp <;> with_reducible rfl)
                try simp only [Act.put, List.setIfInBounds_toArray, List.set_cons_zero, List.set_cons_succ, List.getElem_toArray, List.getElem_cons_zero, List.getElem_cons_succ]
                refine wpAnyH_take (i := 34) (v := ?_) rfl (by kernel_rfl) (by kernel_rfl) (by kernel_rfl) (fun _ _ _ h => h) (Or.inl ⟨by rfl, ?_⟩) (by assumption) ?_
                rotate_left
                · (intro W hSw; (try dsimp only at hSw); go_simp <;> with_reducible rfl)
                try simp only [Act.put, List.setIfInBounds_toArray, List.set_cons_zero, List.set_cons_succ, List.getElem_toArray, List.getElem_cons_zero, List.getElem_cons_succ]
                refine wpAnyH_done (by kernel_rfl) ?_ _
                go_wp2
                replace kE := kE.drew
                replace hbe : W5.drew.heap[Be]? = _ := hbe
                clear e5 z5 r0 r1 r2 hlBe
                generalize W5.drew = W5 at *
                have hbe' := hbe
                have hT5 := (kE.block _ (lt_of_block HTK2.out) (fun e => e)).trans HTK2.out
                have e5 := (kE.cell (p := ⟨bT, bb * 8 + pp, Option.none⟩) (lt_of_block HTK2.out) (fun e => e)).trans eT
                have f5 : W5.frozen? ⟨bT, bb * 8 + pp, Option.none⟩ = false := by simp [World.frozen?, hT5]
                have r0 := cellOf (i := 0) (v := .int .i64 (bb : Int)) hbe' rfl
                have r1 := cellOf (i := 1) (v := .int .u8 (pp : Int)) hbe' rfl
                have hne5 : Be ≠ bT := by omega
                have HS5 := hid (show ∀ W', Keeps (At bT) W5 W' → W'.cell? ⟨Be, 0, Option.none⟩ = some (.int .i64 (bb : Int)) ∧ W'.cell? ⟨Be, 1, Option.none⟩ = some (.int .u8 (pp : Int)) from fun W' k => ⟨(k.cell (p := ⟨Be, 0, Option.none⟩) (lt_of_block hbe') (fun e => hne5 e)).trans r0, (k.cell (p := ⟨Be, 1, Option.none⟩) (lt_of_block hbe') (fun e => hne5 e)).trans r1⟩)
                have kk5 : Keeps (At bT) W5 W5.drew := (Keeps.refl _ _).drew
                have KE := hid kE
                have HT5 := hid hT5
                clear kE hT5 hbe' hbe
                refine wp_region_held_drew (S := (fun W => W.cell? ⟨Be, 0, Option.none⟩ = some (.int .i64 (bb : Int)) ∧ W.cell? ⟨Be, 1, Option.none⟩ = some (.int .u8 (pp : Int)))) (by kernel_rfl) ?_ (fun hHeld => ?_)
                · (try dsimp only); exact HS5.out _ kk5
                refine wpAnyH_take (i := 0) (v := ?_) rfl (by kernel_rfl) (by kernel_rfl) (by kernel_rfl) (fun _ _ _ h => h) (Or.inl ⟨by rfl, ?_⟩) (by assumption) ?_
                rotate_left
                · (intro W hSw; (try dsimp only at hSw); go_simp <;> with_reducible rfl)
                try simp only [Act.put, List.setIfInBounds_toArray, List.set_cons_zero, List.set_cons_succ, List.getElem_toArray, List.getElem_cons_zero, List.getElem_cons_succ]
                refine wpAnyH_take (i := 1) (v := ?_) rfl (by kernel_rfl) (by kernel_rfl) (by kernel_rfl) (fun _ _ _ h => h) (Or.inl ⟨by rfl, ?_⟩) (by assumption) ?_
                rotate_left
                · (intro W hSw; (try dsimp only at hSw); go_simp <;> with_reducible rfl)
                try simp only [Act.put, List.setIfInBounds_toArray, List.set_cons_zero, List.set_cons_succ, List.getElem_toArray, List.getElem_cons_zero, List.getElem_cons_succ]
                refine wpAnyH_take (i := 2) (v := ?_) rfl (by kernel_rfl) (by kernel_rfl) (by kernel_rfl) (fun _ _ _ h => h) (Or.inl ⟨by rfl, ?_⟩) (by assumption) ?_
                rotate_left
                · (intro W hSw; (try dsimp only at hSw); go_simp <;> with_reducible rfl)
                try simp only [Act.put, List.setIfInBounds_toArray, List.set_cons_zero, List.set_cons_succ, List.getElem_toArray, List.getElem_cons_zero, List.getElem_cons_succ]
                refine wpAnyH_take (i := 3) (v := ?_) rfl (by kernel_rfl) (by kernel_rfl) (by kernel_rfl) (fun _ _ _ h => h) (Or.inl ⟨by rfl, ?_⟩) (by assumption) ?_
                rotate_left
                · (intro W hSw; (try dsimp only at hSw); go_simp <;> with_reducible rfl)
                try simp only [Act.put, List.setIfInBounds_toArray, List.set_cons_zero, List.set_cons_succ, List.getElem_toArray, List.getElem_cons_zero, List.getElem_cons_succ]
                refine wpAnyH_take (i := 4) (v := ?_) rfl (by kernel_rfl) (by kernel_rfl) (by kernel_rfl) (fun _ _ _ h => h) (Or.inl ⟨by rfl, ?_⟩) (by assumption) ?_
                rotate_left
                · (intro W hSw; (try dsimp only at hSw); go_simp <;> with_reducible rfl)
                try simp only [Act.put, List.setIfInBounds_toArray, List.set_cons_zero, List.set_cons_succ, List.getElem_toArray, List.getElem_cons_zero, List.getElem_cons_succ]
                refine wpAnyH_take (i := 5) (v := ?_) rfl (by kernel_rfl) (by kernel_rfl) (by kernel_rfl) (fun _ _ _ h => h) (Or.inl ⟨by rfl, ?_⟩) (by assumption) ?_
                rotate_left
                · (intro W hSw; (try dsimp only at hSw); go_simp <;> with_reducible rfl)
                try simp only [Act.put, List.setIfInBounds_toArray, List.set_cons_zero, List.set_cons_succ, List.getElem_toArray, List.getElem_cons_zero, List.getElem_cons_succ]
                refine wpAnyH_ready (rs := [6]) (by kernel_rfl) (by simp) ?_
                refine AllReadyH.cons rfl (fun K hK => ?_) AllReadyH.nil
                try simp only [Act.put, List.setIfInBounds_toArray, List.set_cons_zero, List.set_cons_succ, List.getElem_toArray, List.getElem_cons_zero, List.getElem_cons_succ]
                go_simp
                refine hK.out _ _ ?_ (fun hHeld => ?_)
                · (try dsimp only); first | exact HS5.out _ kk5 | exact HS5.out _ (kk5.set bT _ (at_self _) _)
                clear hK K
                try simp only [Act.put, List.setIfInBounds_toArray, List.set_cons_zero, List.set_cons_succ, List.getElem_toArray, List.getElem_cons_zero, List.getElem_cons_succ]
                refine wpAnyH_done (by kernel_rfl) ?_ _
                go_wp2
                have hb9 := setCell_block (w := W5.drew) HT5.out (bb * 8 + pp) (.bool true)
                go_roundw
                case rel => exact ⟨q + 1, by omega, by simp, hid (fun y hy => by
                    rw [show 2 * j + (q + 1) = 2 * j + q + 1 from rfl, dist_take_succ HE.out] at hy
                    rcases List.mem_append.1 hy with h | h
                    · exact HOK2.out y h
                    · simp at h; subst h; unfold okE; dsimp only; omega), hid (by
                    rw [show 2 * j + (q + 1) = 2 * j + q + 1 from rfl, dist_take_succ HE.out]
                    exact HD2.out.snoc (fun y hy h => H6.out ⟨y, hy, h⟩)), hid (by
                    rw [show 2 * j + (q + 1) = 2 * j + q + 1 from rfl, dist_take_succ HE.out, tkv_snoc (m := bb * 8 + pp) (by dsimp only; omega) hm64]
                    rw [List.setIfInBounds_toArray] at hb9
                    exact hb9), hid (HKZ.out.trans ((KE.out.ofNil.drew).set _ _ (at_self _) _))⟩
                case measure => simp [intOf]; omega
            · have hq2' : q = 2 := by omega
              subst hq2'
              go_wp2
              go_roundw
              case rel => exact ⟨j + 1, by omega, by simp, HOK2, HD2, HTK2, hid ((HKQ.out.thenNil KB.out).trans HKZ.out)⟩
              case measure => simp [intOf]; omega
        · have hjn : j = nl := by omega
          have HY := hid (show MayG ids L from by
            have he : (ends L).take (2 * j) = ends L := List.take_of_length_le (by rw [HLE.out]; omega)
            have o1 := HOK.out
            have o2 := HD.out
            rw [he] at o1 o2
            exact ⟨by omega, by omega, HND.out, by rw [hlen]; exact o1, o2⟩)
          have kq : Keeps Nil w wr := HKW1.out.trans' HKQ.out (fun x hx e => by have : x = bT := e; omega)
          have hjl' : decide ((j : Int) < nl) = false := by simp; omega
          go_wp2
          go_ret
          exact ⟨by rw [mayB_true HY.out]; rfl, kq⟩
end Go.Proofs.Ythnkeppkhdceoaa
