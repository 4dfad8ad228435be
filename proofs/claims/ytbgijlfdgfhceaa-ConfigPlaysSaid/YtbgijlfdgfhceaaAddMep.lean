/-
  Layer 16: AddMep. Conditions: the table lies so; the numbers are in range.
-/
import Derived.Test.YtbgijlfdgfhceaaMep
import Derived.Deep.RegionLaw
import Derived.Deep.AppendLies
namespace Go.Proofs.Ytbgijlfdgfhceaa
open Go.RowKit
set_option linter.unusedVariables false
set_option linter.unusedSimpArgs false
set_option maxRecDepth 8000

def CT.addMep (τ : CT) (m : Me) : CT × Int :=
  match τ.asc m.ai with
  | none => (τ, 2)
  | some y =>
    if decide (m.port < τ.n) && hasI y.ms m.id then
      if τ.E.any (fun x => addB (τ.of x) m y x) then (τ, 8)
      else if (sget τ.M ⟨m.port, y.vid⟩).isSome && decide ((sget τ.M ⟨m.port, y.vid⟩).getD 0 ≤ y.lv) then (τ, 9)
      else ({ τ with E := τ.E ++ [m] }, 0)
    else (τ, 2)
set_option maxHeartbeats 2000000 in
theorem addmep_nil (m : Me) (w : World) : Calls Try.prog 18 #[.pointer Option.none, .agg #[.int .i64 m.ai, .int .u16 m.id, .int .u8 m.port, .bool m.up]] w fun e w' => e = .returned (.int .i64 1) ∧ Keeps Nil w w' := by
  go_enter Try.func18, Try.ntmps18
  go_wp2_with fail
  go_ret
  exact ⟨rfl, ((Keeps.refl _ _).alloc _).alloc _⟩
theorem one_block {w : World} {b : Nat} {c0 : Value} {T : TypeId} (h : w.heap[b]? = some (.cells #[c0] T (0, 0))) : w.cell? ⟨b, 0, Option.none⟩ = some c0 := by simp [World.cell?, h]
def Me.Ok (m : Me) : Prop := (0 ≤ m.port ∧ m.port < 256) ∧ (0 ≤ m.id ∧ m.id < 65536)
/-- Three boxes of AddMep's own. -/
structure Box3 (w : World) (b0 b1 b2 t : Nat) (m : Me) (y : As) (pm : Option Addr) (cm : Nat) : Prop where
  h0 : w.heap[b0]? = some (.cells #[.pointer (some ⟨t, 0, Option.none⟩)] 26 (0, 0))
  h1 : w.heap[b1]? = some (.cells #[.int .i64 m.ai, .int .u16 m.id, .int .u8 m.port, .bool m.up] 59 (0, 0))
  h2 : w.heap[b2]? = some (.cells #[.int .u8 y.lv, .string y.dom, .string y.own, .int .u16 y.vid, .int .u8 y.iv, .slice pm y.ms.length cm] 50 (0, 0))
theorem Box3.keep {X : Nat → Prop} {w w' : World} {b0 b1 b2 t : Nat} {m : Me} {y : As} {pm : Option Addr} {cm : Nat} (h : Box3 w b0 b1 b2 t m y pm cm) (k : Keeps X w w') (hX : ∀ g, g = b0 ∨ g = b1 ∨ g = b2 → ¬ X g) : Box3 w' b0 b1 b2 t m y pm cm :=
  ⟨(k.block _ (lt_of_block h.h0) (hX _ (.inl rfl))).trans h.h0, (k.block _ (lt_of_block h.h1) (hX _ (.inr (.inl rfl)))).trans h.h1, (k.block _ (lt_of_block h.h2) (hX _ (.inr (.inr rfl)))).trans h.h2⟩
theorem same_all {w : World} {S : Nat → Prop} {t : Nat} {τ : CT} {pa pe : Option Addr} {ca ce mb : Nat} {L : List As} (h : TblAt w S t τ pa ca pe ce mb L) (g : τ.Good) {b0 b1 b2 : Nat} {m : Me} {y : As} {pm : Option Addr} {cm : Nat} (hb : Box3 w b0 b1 b2 t m y pm cm) :
    Calls Try.prog 40 #[.slice pe τ.E.length ce, .func (.func 39) #[] #[.pointer (some ⟨b0, 0, Option.none⟩), .pointer (some ⟨b1, 0, Option.none⟩), .pointer (some ⟨b2, 0, Option.none⟩)]] w fun e w' => e = .returned (.bool (τ.E.any (fun x => addB (τ.of x) m y x))) ∧ Keeps Nil w w' := by
  refine contains_add (fun x => addB (τ.of x) m y x) b0 b1 b2 0 pe τ.E.length ce τ.E w h.rowE.sl (by have := g.E; omega) (fun x V hx kv => ?_)
  obtain ⟨i, hx⟩ := hx
  have hent := g.ent x (List.mem_of_getElem? hx)
  obtain ⟨z, hz⟩ : ∃ z, L[x.ai.toNat]? = some z := ⟨_, List.getElem?_eq_getElem (by have := h.lenA; omega)⟩
  have hof : τ.of x = z.bare := by simp [CT.of, List.getD, h.asc, hz]
  have h2 := h.keepN kv
  have hb2 := hb.keep kv (fun _ _ e => e)
  obtain ⟨ga, oa, e, _, hga, hjl, d0, d1, d2, d3, d4, d5⟩ := h2.rowA.wv.atA hz
  have hca := h2.rowA.wv.2.1
  have hcm : ca ≤ 9223372036854775807 := by
    rcases h2.rowA.1.2 with ⟨hv, _⟩ | ⟨g', cap, cur, hv, _, _, _, hm, _⟩
    · injection hv with _ _ e3; omega
    · injection hv with _ _ e3; unfold maxLen at hm; omega
  have hd := h2.head
  rw [e] at hd
  rw [hof]
  exact add_test x m z { y with p := pm, c := cm } b0 b1 b2 t τ.n pa L.length ca ga oa _ _ V hb2.h0 hb2.h1 hb2.h2 hd x.ai.toNat (by omega) hjl hca hcm hga d0 d1 d2 d3 d4 d5
theorem add_close {w w7 w8 : World} {S : Nat → Prop} {t : Nat} {τ : CT} {pa pe : Option Addr} {ca ce mb g cap : Nat} {L : List As} {m : Me} (h : Tbl w S t τ) (h7 : TblAt w7 S t τ pa ca pe ce mb L) (K7 : Keeps Nil w w7)
    (kw : Keeps (fun g => (Value.slice pe τ.E.length ce).ownBlock = some g) w7 w8) (own : w8.ownsRow 0 59 4 (.slice (some ⟨g, 0, Option.none⟩) (τ.E.length + 1) cap) (τ.E.length + 1) (flatE τ.E ++ cellsE m))
    {Hs : Nat} (hHs : w7.heap.size ≤ Hs) (hat : (Value.slice pe τ.E.length ce).ownBlock = some g ∨ g = Hs) (hg : g < w8.heap.size) :
    Ending.returned (.int .i64 0) = .returned (.int .i64 0) ∧ After w (w8.setCell ⟨t, 2, Option.none⟩ (.slice (some ⟨g, 0, Option.none⟩) (τ.E.length + 1) cap)) S t { τ with E := τ.E ++ [m] } ∧ Keeps S w (w8.setCell ⟨t, 2, Option.none⟩ (.slice (some ⟨g, 0, Option.none⟩) (τ.E.length + 1) cap)) := by
  have hSX : ∀ g, (Value.slice pe τ.E.length ce).ownBlock = some g → S g := fun g e => by
    cases pe with
    | none => cases e
    | some a => simp [Value.ownBlock] at e; subst e; exact h7.rowE.2 _ rfl
  have hz7 := K7.size
  have hz : (w8.setCell ⟨t, 2, Option.none⟩ (.slice (some ⟨g, 0, Option.none⟩) (τ.E.length + 1) cap)).heap.size = w8.heap.size := by simp [World.setCell]
  have hnew : Nw S w w8 g := by
    rcases hat with e | e
    · exact .inl (hSX g e)
    · exact .inr ⟨by omega, hg⟩
  have hlen : (τ.E ++ [m]).length = τ.E.length + 1 := by simp
  have TT := h7.turnE kw (notT_row h7.rowE (by decide)) (notT_row h7.rowE (by decide)) (notT_row h7.rowE (by decide)) (h7.rowE.not_map h7.map) (S' := Nw S w w8) (fun g hg => .inl hg) (fun g hg => hg.elim (fun hs => Nat.lt_of_lt_of_le (h7.bound g hs) kw.size) (fun hs => hs.2))
    (E' := τ.E ++ [m]) (p' := some ⟨g, 0, Option.none⟩) (c' := cap) ⟨by rw [hlen, flatE_append]; simpa [flatE] using own, fun a e => by injection e with e; subst e; exact hnew⟩
  rw [hlen] at TT
  refine ⟨rfl, Tbl.mono ⟨_, _, _, _, _, _, TT.1⟩ (fun g hg => hg.elim .inl (fun h => .inr ⟨h.1, by rw [hz]; exact h.2⟩)) (fun g hg => hg.elim (fun hs => by rw [hz]; exact Nat.lt_of_lt_of_le (h7.bound g hs) kw.size) (fun hs => hs.2)), ?_⟩
  exact K7.ofNil.trans (TT.2.mono (fun g e => e.elim (hSX g) (fun e => by rw [e]; exact h7.inT)))

set_option maxHeartbeats 16000000 in
theorem p_addmep (m : Me) (hm : m.Ok) {w : World} {S : Nat → Prop} {t : Nat} {τ : CT} (h : Tbl w S t τ) (hg : τ.Good) :
    Calls Try.prog 18 #[.pointer (some ⟨t, 0, Option.none⟩), .agg #[.int .i64 m.ai, .int .u16 m.id, .int .u8 m.port, .bool m.up]] w fun e w' => e = .returned (.int .i64 (τ.addMep m).2) ∧ After w w' S t (τ.addMep m).1 ∧ Keeps S w w' := by
  cases hy : τ.asc m.ai with
  | none =>
    have HY := hid hy
    clear hy
    have HD := hid (show τ.addMep m = (τ, 2) by unfold CT.addMep; rw [HY.out])
    have HT := hid h
    have HG := hid hg
    obtain ⟨pa, ca, pe, ce, mb, L, h⟩ := h
    have H := hid h
    have k0 : Keeps Nil w ((w.alloc (.cells #[.pointer (some ⟨t, 0, Option.none⟩)] 26 (0, 0))).alloc (.cells #[.int .i64 m.ai, .int .u16 m.id, .int .u8 m.port, .bool m.up] 59 (0, 0))) := ((Keeps.refl _ _).alloc _).alloc _
    have hb1 : ((w.alloc (.cells #[.pointer (some ⟨t, 0, Option.none⟩)] 26 (0, 0))).alloc (.cells #[.int .i64 m.ai, .int .u16 m.id, .int .u8 m.port, .bool m.up] 59 (0, 0))).heap[w.heap.size]? = some (.cells #[.pointer (some ⟨t, 0, Option.none⟩)] 26 (0, 0)) := (Below.heap_alloc _ _ _ (by simp)).trans (alloc_block w _)
    have hb2 : ((w.alloc (.cells #[.pointer (some ⟨t, 0, Option.none⟩)] 26 (0, 0))).alloc (.cells #[.int .i64 m.ai, .int .u16 m.id, .int .u8 m.port, .bool m.up] 59 (0, 0))).heap[w.heap.size + 1]? = some (.cells #[.int .i64 m.ai, .int .u16 m.id, .int .u8 m.port, .bool m.up] 59 (0, 0)) := by have := alloc_block (w.alloc (.cells #[.pointer (some ⟨t, 0, Option.none⟩)] 26 (0, 0))) (.cells #[.int .i64 m.ai, .int .u16 m.id, .int .u8 m.port, .bool m.up] 59 (0, 0)); rw [World.size_alloc] at this; exact this
    clear h hg
    go_enter Try.func18, Try.ntmps18
    go_upto_region 1 with (fail)
    generalize ((w.alloc (.cells #[.pointer (some ⟨t, 0, Option.none⟩)] 26 (0, 0))).alloc (.cells #[.int .i64 m.ai, .int .u16 m.id, .int .u8 m.port, .bool m.up] 59 (0, 0))) = W at *
    obtain ⟨b0, e1⟩ : ∃ b0, b0 = w.heap.size := ⟨_, rfl⟩
    obtain ⟨b1, e2⟩ : ∃ b1, b1 = w.heap.size + 1 := ⟨_, rfl⟩
    rw [← e1] at hb1
    rw [← e2] at hb2
    rw [← e2, ← e1]
    have E1 := hid e1
    have E2 := hid e2
    have H2 := hid (H.out.keepN k0)
    have K0 := hid k0
    have HB1 := hid hb1
    have HB2 := hid hb2
    have x0 := one_block hb1
    obtain ⟨m0, m1, m2, m3⟩ := four_block hb2
    have lb0 := lt_of_block hb1
    have lb1 := lt_of_block hb2
    have PA := p_assoc m.ai ⟨_, _, _, _, _, _, H2.out⟩ HG.out
    rw [HY.out] at PA
    clear e1 e2 k0 hb1 hb2
    go_wp2_with fail
    refine PA.mono ?_; rintro e w3 ⟨⟨pm, cm, rfl, own⟩, k3⟩
    have KC := (K0.out.trans k3).alloc (.cells #[.int .u8 0, .string ⟨#[]⟩, .string ⟨#[]⟩, .int .u16 0, .int .u8 0, .slice pm 0 cm] 50 (0, 0))
    clear own
    simp only [Option.getD_none, Option.isSome_none, zeroA, List.length_nil]
    go_wp2_with fail
    go_ret
    rw [HD.out]
    exact ⟨rfl, HT.out.stays KC, KC.ofNil⟩
  
  | some y =>
    have HY := hid hy
    have hmem : y ∈ τ.A := by
      rcases asc_cases τ m.ai with ⟨h1, _⟩ | ⟨k, x, _, hx, h2⟩
      · rw [h1] at hy; cases hy
      · rw [h2] at hy; injection hy with hy; subst hy; exact List.mem_of_getElem? hx
    have hyy := hg.may y hmem
    have HY8 := hid (mayA_ms hyy.1).1
    have HYV := hid hyy.2.2
    have hyl : 0 ≤ y.lv := hyy.2.1
    have hyl7 : y.lv ≤ 7 := (mayA_ms hyy.1).2
    clear hy hmem hyy
    by_cases c1 : m.port < τ.n
    · cases c2 : hasI y.ms m.id with
      | false =>
        have HD := hid (show τ.addMep m = (τ, 2) by unfold CT.addMep; rw [HY.out]; simp only []; simp [c1, c2])
        have HT := hid h
        have HG := hid hg
        obtain ⟨pa, ca, pe, ce, mb, L, h⟩ := h
        have H := hid h
        have k0 : Keeps Nil w ((w.alloc (.cells #[.pointer (some ⟨t, 0, Option.none⟩)] 26 (0, 0))).alloc (.cells #[.int .i64 m.ai, .int .u16 m.id, .int .u8 m.port, .bool m.up] 59 (0, 0))) := ((Keeps.refl _ _).alloc _).alloc _
        have hb1 : ((w.alloc (.cells #[.pointer (some ⟨t, 0, Option.none⟩)] 26 (0, 0))).alloc (.cells #[.int .i64 m.ai, .int .u16 m.id, .int .u8 m.port, .bool m.up] 59 (0, 0))).heap[w.heap.size]? = some (.cells #[.pointer (some ⟨t, 0, Option.none⟩)] 26 (0, 0)) := (Below.heap_alloc _ _ _ (by simp)).trans (alloc_block w _)
        have hb2 : ((w.alloc (.cells #[.pointer (some ⟨t, 0, Option.none⟩)] 26 (0, 0))).alloc (.cells #[.int .i64 m.ai, .int .u16 m.id, .int .u8 m.port, .bool m.up] 59 (0, 0))).heap[w.heap.size + 1]? = some (.cells #[.int .i64 m.ai, .int .u16 m.id, .int .u8 m.port, .bool m.up] 59 (0, 0)) := by have := alloc_block (w.alloc (.cells #[.pointer (some ⟨t, 0, Option.none⟩)] 26 (0, 0))) (.cells #[.int .i64 m.ai, .int .u16 m.id, .int .u8 m.port, .bool m.up] 59 (0, 0)); rw [World.size_alloc] at this; exact this
        clear h hg
        go_enter Try.func18, Try.ntmps18
        go_upto_region 1 with (fail)
        generalize ((w.alloc (.cells #[.pointer (some ⟨t, 0, Option.none⟩)] 26 (0, 0))).alloc (.cells #[.int .i64 m.ai, .int .u16 m.id, .int .u8 m.port, .bool m.up] 59 (0, 0))) = W at *
        obtain ⟨b0, e1⟩ : ∃ b0, b0 = w.heap.size := ⟨_, rfl⟩
        obtain ⟨b1, e2⟩ : ∃ b1, b1 = w.heap.size + 1 := ⟨_, rfl⟩
        rw [← e1] at hb1
        rw [← e2] at hb2
        rw [← e2, ← e1]
        have E1 := hid e1
        have E2 := hid e2
        have H2 := hid (H.out.keepN k0)
        have K0 := hid k0
        have HB1 := hid hb1
        have HB2 := hid hb2
        have x0 := one_block hb1
        obtain ⟨m0, m1, m2, m3⟩ := four_block hb2
        have lb0 := lt_of_block hb1
        have lb1 := lt_of_block hb2
        have PA := p_assoc m.ai ⟨_, _, _, _, _, _, H2.out⟩ HG.out
        rw [HY.out] at PA
        clear e1 e2 k0 hb1 hb2
        go_wp2_with fail
        refine PA.mono ?_; rintro e w3 ⟨⟨pm, cm, rfl, own⟩, k3⟩
        have k4 : Keeps Nil w3 (w3.alloc (.cells #[.int .u8 y.lv, .string y.dom, .string y.own, .int .u16 y.vid, .int .u8 y.iv, .slice pm y.ms.length cm] 50 (0, 0))) := (Keeps.refl _ _).alloc _
        have hb4 := alloc_block w3 (.cells #[.int .u8 y.lv, .string y.dom, .string y.own, .int .u16 y.vid, .int .u8 y.iv, .slice pm y.ms.length cm] 50 (0, 0))
        go_upto_region 4 with (fail)
        try simp only [Option.getD_some, Option.isSome_some]
        generalize (w3.alloc (.cells #[.int .u8 y.lv, .string y.dom, .string y.own, .int .u16 y.vid, .int .u8 y.iv, .slice pm y.ms.length cm] 50 (0, 0))) = W4 at *
        obtain ⟨b2, e3⟩ : ∃ b2, b2 = w3.heap.size := ⟨_, rfl⟩
        rw [← e3] at hb4 ⊢
        have H4 := hid ((H2.out.keepN k3).keepN k4)
        have BX := hid (Box3.mk (pm := pm) (cm := cm) (y := y) ((k4.block _ (Nat.lt_of_lt_of_le lb0 k3.size) (fun e => e)).trans ((k3.block _ lb0 (fun e => e)).trans HB1.out)) ((k4.block _ (Nat.lt_of_lt_of_le lb1 k3.size) (fun e => e)).trans ((k3.block _ lb1 (fun e => e)).trans HB2.out)) hb4)
        have K4 := hid ((K0.out.trans k3).trans k4)
        have OWN := hid (ownsRow_keep own k4 (fun _ _ e => e))
        have E3 := hid e3
        have HB3 := hid (show w.heap.size ≤ b2 from by have h1 := K0.out.size; have h2 := k3.size; omega)
        clear hb4 k3 k4 own e3
        have PO := port_any m.port hm.1 H4.out.head
        have CU := contains_u m.id _ pm y.ms.length cm y.ms W4 (WV.of_own OWN.out) (by have := HY8.out; omega)
        have SA := same_all H4.out HG.out BX.out
        have x0 := one_block BX.out.h0
        obtain ⟨m0, m1, m2, m3⟩ := four_block BX.out.h1
        obtain ⟨y0, y1, y2, y3, y4, y5⟩ := six_block BX.out.h2
        have lb0 := lt_of_block BX.out.h0
        have lb1 := lt_of_block BX.out.h1
        have lb2 := lt_of_block BX.out.h2
        have lt4 := lt_of_block H4.out.head
        obtain ⟨a0, a1, a2, a3⟩ := four_block H4.out.head
        simp only [c1, decide_true] at PO
        rw [c2] at CU
        clear c1 c2
        go_wp2_with fail
        refine PO.mono ?_; rintro e w' ⟨rfl, rfl⟩
        go_wp2_with fail
        refine CU.mono ?_; rintro e w' ⟨rfl, rfl⟩
        go_wp2_with fail
        have KC := K4.out
        go_ret
        rw [HD.out]
        exact ⟨rfl, HT.out.stays KC, KC.ofNil⟩
      
      | true =>
        cases c3 : τ.E.any (fun x => addB (τ.of x) m y x) with
        | true =>
          have HD := hid (show τ.addMep m = (τ, 8) by unfold CT.addMep; rw [HY.out]; simp only []; simp [c1, c2, c3])
          have HT := hid h
          have HG := hid hg
          obtain ⟨pa, ca, pe, ce, mb, L, h⟩ := h
          have H := hid h
          have k0 : Keeps Nil w ((w.alloc (.cells #[.pointer (some ⟨t, 0, Option.none⟩)] 26 (0, 0))).alloc (.cells #[.int .i64 m.ai, .int .u16 m.id, .int .u8 m.port, .bool m.up] 59 (0, 0))) := ((Keeps.refl _ _).alloc _).alloc _
          have hb1 : ((w.alloc (.cells #[.pointer (some ⟨t, 0, Option.none⟩)] 26 (0, 0))).alloc (.cells #[.int .i64 m.ai, .int .u16 m.id, .int .u8 m.port, .bool m.up] 59 (0, 0))).heap[w.heap.size]? = some (.cells #[.pointer (some ⟨t, 0, Option.none⟩)] 26 (0, 0)) := (Below.heap_alloc _ _ _ (by simp)).trans (alloc_block w _)
          have hb2 : ((w.alloc (.cells #[.pointer (some ⟨t, 0, Option.none⟩)] 26 (0, 0))).alloc (.cells #[.int .i64 m.ai, .int .u16 m.id, .int .u8 m.port, .bool m.up] 59 (0, 0))).heap[w.heap.size + 1]? = some (.cells #[.int .i64 m.ai, .int .u16 m.id, .int .u8 m.port, .bool m.up] 59 (0, 0)) := by have := alloc_block (w.alloc (.cells #[.pointer (some ⟨t, 0, Option.none⟩)] 26 (0, 0))) (.cells #[.int .i64 m.ai, .int .u16 m.id, .int .u8 m.port, .bool m.up] 59 (0, 0)); rw [World.size_alloc] at this; exact this
          clear h hg
          go_enter Try.func18, Try.ntmps18
          go_upto_region 1 with (fail)
          generalize ((w.alloc (.cells #[.pointer (some ⟨t, 0, Option.none⟩)] 26 (0, 0))).alloc (.cells #[.int .i64 m.ai, .int .u16 m.id, .int .u8 m.port, .bool m.up] 59 (0, 0))) = W at *
          obtain ⟨b0, e1⟩ : ∃ b0, b0 = w.heap.size := ⟨_, rfl⟩
          obtain ⟨b1, e2⟩ : ∃ b1, b1 = w.heap.size + 1 := ⟨_, rfl⟩
          rw [← e1] at hb1
          rw [← e2] at hb2
          rw [← e2, ← e1]
          have E1 := hid e1
          have E2 := hid e2
          have H2 := hid (H.out.keepN k0)
          have K0 := hid k0
          have HB1 := hid hb1
          have HB2 := hid hb2
          have x0 := one_block hb1
          obtain ⟨m0, m1, m2, m3⟩ := four_block hb2
          have lb0 := lt_of_block hb1
          have lb1 := lt_of_block hb2
          have PA := p_assoc m.ai ⟨_, _, _, _, _, _, H2.out⟩ HG.out
          rw [HY.out] at PA
          clear e1 e2 k0 hb1 hb2
          go_wp2_with fail
          refine PA.mono ?_; rintro e w3 ⟨⟨pm, cm, rfl, own⟩, k3⟩
          have k4 : Keeps Nil w3 (w3.alloc (.cells #[.int .u8 y.lv, .string y.dom, .string y.own, .int .u16 y.vid, .int .u8 y.iv, .slice pm y.ms.length cm] 50 (0, 0))) := (Keeps.refl _ _).alloc _
          have hb4 := alloc_block w3 (.cells #[.int .u8 y.lv, .string y.dom, .string y.own, .int .u16 y.vid, .int .u8 y.iv, .slice pm y.ms.length cm] 50 (0, 0))
          go_upto_region 4 with (fail)
          try simp only [Option.getD_some, Option.isSome_some]
          generalize (w3.alloc (.cells #[.int .u8 y.lv, .string y.dom, .string y.own, .int .u16 y.vid, .int .u8 y.iv, .slice pm y.ms.length cm] 50 (0, 0))) = W4 at *
          obtain ⟨b2, e3⟩ : ∃ b2, b2 = w3.heap.size := ⟨_, rfl⟩
          rw [← e3] at hb4 ⊢
          have H4 := hid ((H2.out.keepN k3).keepN k4)
          have BX := hid (Box3.mk (pm := pm) (cm := cm) (y := y) ((k4.block _ (Nat.lt_of_lt_of_le lb0 k3.size) (fun e => e)).trans ((k3.block _ lb0 (fun e => e)).trans HB1.out)) ((k4.block _ (Nat.lt_of_lt_of_le lb1 k3.size) (fun e => e)).trans ((k3.block _ lb1 (fun e => e)).trans HB2.out)) hb4)
          have K4 := hid ((K0.out.trans k3).trans k4)
          have OWN := hid (ownsRow_keep own k4 (fun _ _ e => e))
          have E3 := hid e3
          have HB3 := hid (show w.heap.size ≤ b2 from by have h1 := K0.out.size; have h2 := k3.size; omega)
          clear hb4 k3 k4 own e3
          have PO := port_any m.port hm.1 H4.out.head
          have CU := contains_u m.id _ pm y.ms.length cm y.ms W4 (WV.of_own OWN.out) (by have := HY8.out; omega)
          have SA := same_all H4.out HG.out BX.out
          have x0 := one_block BX.out.h0
          obtain ⟨m0, m1, m2, m3⟩ := four_block BX.out.h1
          obtain ⟨y0, y1, y2, y3, y4, y5⟩ := six_block BX.out.h2
          have lb0 := lt_of_block BX.out.h0
          have lb1 := lt_of_block BX.out.h1
          have lb2 := lt_of_block BX.out.h2
          have lt4 := lt_of_block H4.out.head
          obtain ⟨a0, a1, a2, a3⟩ := four_block H4.out.head
          simp only [c1, decide_true] at PO
          rw [c2] at CU
          rw [c3] at SA
          clear c1 c2 c3
          go_wp2_with fail
          refine PO.mono ?_; rintro e w' ⟨rfl, rfl⟩
          go_wp2_with fail
          refine CU.mono ?_; rintro e w' ⟨rfl, rfl⟩
          go_wp2_with fail
          refine SA.mono ?_; rintro e w6 ⟨rfl, k6⟩
          have H6 := hid (H4.out.keepN k6)
          have BX6 := hid (BX.out.keep k6 (fun _ _ e => e))
          have K6 := hid (K4.out.trans k6)
          have x0 := one_block BX6.out.h0
          obtain ⟨m0, m1, m2, m3⟩ := four_block BX6.out.h1
          obtain ⟨y0, y1, y2, y3, y4, y5⟩ := six_block BX6.out.h2
          have lb0 := lt_of_block BX6.out.h0
          have lb1 := lt_of_block BX6.out.h1
          have lb2 := lt_of_block BX6.out.h2
          have lt6 := lt_of_block H6.out.head
          obtain ⟨a0, a1, a2, a3⟩ := four_block H6.out.head
          clear k6
          go_wp2_with fail
          have KC := K6.out
          go_ret
          rw [HD.out]
          exact ⟨rfl, HT.out.stays KC, KC.ofNil⟩
        
        | false =>
          cases hs : sget τ.M ⟨m.port, y.vid⟩ with
          | some l =>
            have HS := hid hs
            by_cases c5 : l ≤ y.lv
            · have HD := hid (show τ.addMep m = (τ, 9) by unfold CT.addMep; rw [HY.out]; simp only []; rw [hs]; simp [c1, c2, c3, c5])
              have HT := hid h
              have HG := hid hg
              obtain ⟨pa, ca, pe, ce, mb, L, h⟩ := h
              have H := hid h
              have k0 : Keeps Nil w ((w.alloc (.cells #[.pointer (some ⟨t, 0, Option.none⟩)] 26 (0, 0))).alloc (.cells #[.int .i64 m.ai, .int .u16 m.id, .int .u8 m.port, .bool m.up] 59 (0, 0))) := ((Keeps.refl _ _).alloc _).alloc _
              have hb1 : ((w.alloc (.cells #[.pointer (some ⟨t, 0, Option.none⟩)] 26 (0, 0))).alloc (.cells #[.int .i64 m.ai, .int .u16 m.id, .int .u8 m.port, .bool m.up] 59 (0, 0))).heap[w.heap.size]? = some (.cells #[.pointer (some ⟨t, 0, Option.none⟩)] 26 (0, 0)) := (Below.heap_alloc _ _ _ (by simp)).trans (alloc_block w _)
              have hb2 : ((w.alloc (.cells #[.pointer (some ⟨t, 0, Option.none⟩)] 26 (0, 0))).alloc (.cells #[.int .i64 m.ai, .int .u16 m.id, .int .u8 m.port, .bool m.up] 59 (0, 0))).heap[w.heap.size + 1]? = some (.cells #[.int .i64 m.ai, .int .u16 m.id, .int .u8 m.port, .bool m.up] 59 (0, 0)) := by have := alloc_block (w.alloc (.cells #[.pointer (some ⟨t, 0, Option.none⟩)] 26 (0, 0))) (.cells #[.int .i64 m.ai, .int .u16 m.id, .int .u8 m.port, .bool m.up] 59 (0, 0)); rw [World.size_alloc] at this; exact this
              clear h hg
              go_enter Try.func18, Try.ntmps18
              go_upto_region 1 with (fail)
              generalize ((w.alloc (.cells #[.pointer (some ⟨t, 0, Option.none⟩)] 26 (0, 0))).alloc (.cells #[.int .i64 m.ai, .int .u16 m.id, .int .u8 m.port, .bool m.up] 59 (0, 0))) = W at *
              obtain ⟨b0, e1⟩ : ∃ b0, b0 = w.heap.size := ⟨_, rfl⟩
              obtain ⟨b1, e2⟩ : ∃ b1, b1 = w.heap.size + 1 := ⟨_, rfl⟩
              rw [← e1] at hb1
              rw [← e2] at hb2
              rw [← e2, ← e1]
              have E1 := hid e1
              have E2 := hid e2
              have H2 := hid (H.out.keepN k0)
              have K0 := hid k0
              have HB1 := hid hb1
              have HB2 := hid hb2
              have x0 := one_block hb1
              obtain ⟨m0, m1, m2, m3⟩ := four_block hb2
              have lb0 := lt_of_block hb1
              have lb1 := lt_of_block hb2
              have PA := p_assoc m.ai ⟨_, _, _, _, _, _, H2.out⟩ HG.out
              rw [HY.out] at PA
              clear e1 e2 k0 hb1 hb2
              go_wp2_with fail
              refine PA.mono ?_; rintro e w3 ⟨⟨pm, cm, rfl, own⟩, k3⟩
              have k4 : Keeps Nil w3 (w3.alloc (.cells #[.int .u8 y.lv, .string y.dom, .string y.own, .int .u16 y.vid, .int .u8 y.iv, .slice pm y.ms.length cm] 50 (0, 0))) := (Keeps.refl _ _).alloc _
              have hb4 := alloc_block w3 (.cells #[.int .u8 y.lv, .string y.dom, .string y.own, .int .u16 y.vid, .int .u8 y.iv, .slice pm y.ms.length cm] 50 (0, 0))
              go_upto_region 4 with (fail)
              try simp only [Option.getD_some, Option.isSome_some]
              generalize (w3.alloc (.cells #[.int .u8 y.lv, .string y.dom, .string y.own, .int .u16 y.vid, .int .u8 y.iv, .slice pm y.ms.length cm] 50 (0, 0))) = W4 at *
              obtain ⟨b2, e3⟩ : ∃ b2, b2 = w3.heap.size := ⟨_, rfl⟩
              rw [← e3] at hb4 ⊢
              have H4 := hid ((H2.out.keepN k3).keepN k4)
              have BX := hid (Box3.mk (pm := pm) (cm := cm) (y := y) ((k4.block _ (Nat.lt_of_lt_of_le lb0 k3.size) (fun e => e)).trans ((k3.block _ lb0 (fun e => e)).trans HB1.out)) ((k4.block _ (Nat.lt_of_lt_of_le lb1 k3.size) (fun e => e)).trans ((k3.block _ lb1 (fun e => e)).trans HB2.out)) hb4)
              have K4 := hid ((K0.out.trans k3).trans k4)
              have OWN := hid (ownsRow_keep own k4 (fun _ _ e => e))
              have E3 := hid e3
              have HB3 := hid (show w.heap.size ≤ b2 from by have h1 := K0.out.size; have h2 := k3.size; omega)
              clear hb4 k3 k4 own e3
              have PO := port_any m.port hm.1 H4.out.head
              have CU := contains_u m.id _ pm y.ms.length cm y.ms W4 (WV.of_own OWN.out) (by have := HY8.out; omega)
              have SA := same_all H4.out HG.out BX.out
              have x0 := one_block BX.out.h0
              obtain ⟨m0, m1, m2, m3⟩ := four_block BX.out.h1
              obtain ⟨y0, y1, y2, y3, y4, y5⟩ := six_block BX.out.h2
              have lb0 := lt_of_block BX.out.h0
              have lb1 := lt_of_block BX.out.h1
              have lb2 := lt_of_block BX.out.h2
              have lt4 := lt_of_block H4.out.head
              obtain ⟨a0, a1, a2, a3⟩ := four_block H4.out.head
              simp only [c1, decide_true] at PO
              rw [c2] at CU
              rw [c3] at SA
              clear c1 c2 c3 hs
              go_wp2_with fail
              refine PO.mono ?_; rintro e w' ⟨rfl, rfl⟩
              go_wp2_with fail
              refine CU.mono ?_; rintro e w' ⟨rfl, rfl⟩
              go_wp2_with fail
              refine SA.mono ?_; rintro e w6 ⟨rfl, k6⟩
              have H6 := hid (H4.out.keepN k6)
              have BX6 := hid (BX.out.keep k6 (fun _ _ e => e))
              have K6 := hid (K4.out.trans k6)
              have x0 := one_block BX6.out.h0
              obtain ⟨m0, m1, m2, m3⟩ := four_block BX6.out.h1
              obtain ⟨y0, y1, y2, y3, y4, y5⟩ := six_block BX6.out.h2
              have lb0 := lt_of_block BX6.out.h0
              have lb1 := lt_of_block BX6.out.h1
              have lb2 := lt_of_block BX6.out.h2
              have lt6 := lt_of_block H6.out.head
              obtain ⟨a0, a1, a2, a3⟩ := four_block H6.out.head
              clear k6
              go_wp2_with fail
              have hlk := H6.out.map.look_draws ⟨m.port, y.vid⟩ ⟨hm.1, HYV.out⟩
              rw [HS.out] at hlk
              go_quiet (fail)
              clear hlk
              have kd : Keeps Nil w6 (w6.drewN nq) := Keeps.drewN _ _
              have H7 := hid (H6.out.keepN kd)
              have BX7 := hid (BX6.out.keep kd (fun _ _ e => e))
              have K7 := hid (K6.out.trans kd)
              clear kd
              go_wp2_with fail
              have KC := K7.out
              go_ret
              rw [HD.out]
              exact ⟨rfl, HT.out.stays KC, KC.ofNil⟩
            
            · have HD := hid (show τ.addMep m = ({ τ with E := τ.E ++ [m] }, 0) by unfold CT.addMep; rw [HY.out]; simp only []; rw [hs]; simp [c1, c2, c3, c5])
              have HT := hid h
              have HG := hid hg
              obtain ⟨pa, ca, pe, ce, mb, L, h⟩ := h
              have H := hid h
              have k0 : Keeps Nil w ((w.alloc (.cells #[.pointer (some ⟨t, 0, Option.none⟩)] 26 (0, 0))).alloc (.cells #[.int .i64 m.ai, .int .u16 m.id, .int .u8 m.port, .bool m.up] 59 (0, 0))) := ((Keeps.refl _ _).alloc _).alloc _
              have hb1 : ((w.alloc (.cells #[.pointer (some ⟨t, 0, Option.none⟩)] 26 (0, 0))).alloc (.cells #[.int .i64 m.ai, .int .u16 m.id, .int .u8 m.port, .bool m.up] 59 (0, 0))).heap[w.heap.size]? = some (.cells #[.pointer (some ⟨t, 0, Option.none⟩)] 26 (0, 0)) := (Below.heap_alloc _ _ _ (by simp)).trans (alloc_block w _)
              have hb2 : ((w.alloc (.cells #[.pointer (some ⟨t, 0, Option.none⟩)] 26 (0, 0))).alloc (.cells #[.int .i64 m.ai, .int .u16 m.id, .int .u8 m.port, .bool m.up] 59 (0, 0))).heap[w.heap.size + 1]? = some (.cells #[.int .i64 m.ai, .int .u16 m.id, .int .u8 m.port, .bool m.up] 59 (0, 0)) := by have := alloc_block (w.alloc (.cells #[.pointer (some ⟨t, 0, Option.none⟩)] 26 (0, 0))) (.cells #[.int .i64 m.ai, .int .u16 m.id, .int .u8 m.port, .bool m.up] 59 (0, 0)); rw [World.size_alloc] at this; exact this
              clear h hg
              go_enter Try.func18, Try.ntmps18
              go_upto_region 1 with (fail)
              generalize ((w.alloc (.cells #[.pointer (some ⟨t, 0, Option.none⟩)] 26 (0, 0))).alloc (.cells #[.int .i64 m.ai, .int .u16 m.id, .int .u8 m.port, .bool m.up] 59 (0, 0))) = W at *
              obtain ⟨b0, e1⟩ : ∃ b0, b0 = w.heap.size := ⟨_, rfl⟩
              obtain ⟨b1, e2⟩ : ∃ b1, b1 = w.heap.size + 1 := ⟨_, rfl⟩
              rw [← e1] at hb1
              rw [← e2] at hb2
              rw [← e2, ← e1]
              have E1 := hid e1
              have E2 := hid e2
              have H2 := hid (H.out.keepN k0)
              have K0 := hid k0
              have HB1 := hid hb1
              have HB2 := hid hb2
              have x0 := one_block hb1
              obtain ⟨m0, m1, m2, m3⟩ := four_block hb2
              have lb0 := lt_of_block hb1
              have lb1 := lt_of_block hb2
              have PA := p_assoc m.ai ⟨_, _, _, _, _, _, H2.out⟩ HG.out
              rw [HY.out] at PA
              clear e1 e2 k0 hb1 hb2
              go_wp2_with fail
              refine PA.mono ?_; rintro e w3 ⟨⟨pm, cm, rfl, own⟩, k3⟩
              have k4 : Keeps Nil w3 (w3.alloc (.cells #[.int .u8 y.lv, .string y.dom, .string y.own, .int .u16 y.vid, .int .u8 y.iv, .slice pm y.ms.length cm] 50 (0, 0))) := (Keeps.refl _ _).alloc _
              have hb4 := alloc_block w3 (.cells #[.int .u8 y.lv, .string y.dom, .string y.own, .int .u16 y.vid, .int .u8 y.iv, .slice pm y.ms.length cm] 50 (0, 0))
              go_upto_region 4 with (fail)
              try simp only [Option.getD_some, Option.isSome_some]
              generalize (w3.alloc (.cells #[.int .u8 y.lv, .string y.dom, .string y.own, .int .u16 y.vid, .int .u8 y.iv, .slice pm y.ms.length cm] 50 (0, 0))) = W4 at *
              obtain ⟨b2, e3⟩ : ∃ b2, b2 = w3.heap.size := ⟨_, rfl⟩
              rw [← e3] at hb4 ⊢
              have H4 := hid ((H2.out.keepN k3).keepN k4)
              have BX := hid (Box3.mk (pm := pm) (cm := cm) (y := y) ((k4.block _ (Nat.lt_of_lt_of_le lb0 k3.size) (fun e => e)).trans ((k3.block _ lb0 (fun e => e)).trans HB1.out)) ((k4.block _ (Nat.lt_of_lt_of_le lb1 k3.size) (fun e => e)).trans ((k3.block _ lb1 (fun e => e)).trans HB2.out)) hb4)
              have K4 := hid ((K0.out.trans k3).trans k4)
              have OWN := hid (ownsRow_keep own k4 (fun _ _ e => e))
              have E3 := hid e3
              have HB3 := hid (show w.heap.size ≤ b2 from by have h1 := K0.out.size; have h2 := k3.size; omega)
              clear hb4 k3 k4 own e3
              have PO := port_any m.port hm.1 H4.out.head
              have CU := contains_u m.id _ pm y.ms.length cm y.ms W4 (WV.of_own OWN.out) (by have := HY8.out; omega)
              have SA := same_all H4.out HG.out BX.out
              have x0 := one_block BX.out.h0
              obtain ⟨m0, m1, m2, m3⟩ := four_block BX.out.h1
              obtain ⟨y0, y1, y2, y3, y4, y5⟩ := six_block BX.out.h2
              have lb0 := lt_of_block BX.out.h0
              have lb1 := lt_of_block BX.out.h1
              have lb2 := lt_of_block BX.out.h2
              have lt4 := lt_of_block H4.out.head
              obtain ⟨a0, a1, a2, a3⟩ := four_block H4.out.head
              simp only [c1, decide_true] at PO
              rw [c2] at CU
              rw [c3] at SA
              clear c1 c2 c3 hs
              go_wp2_with fail
              refine PO.mono ?_; rintro e w' ⟨rfl, rfl⟩
              go_wp2_with fail
              refine CU.mono ?_; rintro e w' ⟨rfl, rfl⟩
              go_wp2_with fail
              refine SA.mono ?_; rintro e w6 ⟨rfl, k6⟩
              have H6 := hid (H4.out.keepN k6)
              have BX6 := hid (BX.out.keep k6 (fun _ _ e => e))
              have K6 := hid (K4.out.trans k6)
              have x0 := one_block BX6.out.h0
              obtain ⟨m0, m1, m2, m3⟩ := four_block BX6.out.h1
              obtain ⟨y0, y1, y2, y3, y4, y5⟩ := six_block BX6.out.h2
              have lb0 := lt_of_block BX6.out.h0
              have lb1 := lt_of_block BX6.out.h1
              have lb2 := lt_of_block BX6.out.h2
              have lt6 := lt_of_block H6.out.head
              obtain ⟨a0, a1, a2, a3⟩ := four_block H6.out.head
              clear k6
              go_wp2_with fail
              have hlk := H6.out.map.look_draws ⟨m.port, y.vid⟩ ⟨hm.1, HYV.out⟩
              rw [HS.out] at hlk
              go_quiet (fail)
              clear hlk
              have kd : Keeps Nil w6 (w6.drewN nq) := Keeps.drewN _ _
              have H7 := hid (H6.out.keepN kd)
              have BX7 := hid (BX6.out.keep kd (fun _ _ e => e))
              have K7 := hid (K6.out.trans kd)
              clear kd
              go_wp2_with fail
              generalize w6.drewN nq = w7 at *
              have x0 := one_block BX7.out.h0
              obtain ⟨m0, m1, m2, m3⟩ := four_block BX7.out.h1
              obtain ⟨a0, a1, a2, a3⟩ := four_block H7.out.head
              have lb0 := lt_of_block BX7.out.h0
              have lb1 := lt_of_block BX7.out.h1
              have lt7 := lt_of_block H7.out.head
              obtain ⟨i0, hi, hz0, hz1, hz2⟩ := info_parts einfom
              have HI := hid (And.intro hi (And.intro hz0 (And.intro hz1 hz2)))
              have OWN7 := hid H7.out.rowE.1
              have hE100 := HG.out.E
              have hnm : τ.E.length + 1 ≤ maxLen := by unfold maxLen; omega
              clear hi hz0 hz1 hz2
              go_region_law ((refine step_append_lies _ (by rfl) _ _ 53 (by rfl) 0 59 i0 (.agg #[.int .i64 0, .int .u16 0, .int .u8 0, .bool false]) 4 16 Try.underlying53 HI.out.1 HI.out.2.1 HI.out.2.2.1 HI.out.2.2.2 rfl (by decide) (.slice pe τ.E.length ce) τ.E.length _ (by rfl) (ownsRow_keep OWN7.out (by first | exact (Keeps.refl Nil w7).alloc _ | exact ((Keeps.refl Nil w7).alloc _).drew | exact ((Keeps.refl Nil w7).drew).alloc _ | exact ((Keeps.refl Nil w7).drew.alloc _).drew) (fun _ _ h => h)) ⟨w7.heap.size, 0, Option.none⟩ 1 1 (cellsE m) (by rfl) (by rfl) (World.news_of_block (cs := #[.int .i64 m.ai, .int .u16 m.id, .int .u8 m.port, .bool m.up]) (t := 59) (fr := (0, 0)) (heap_alloc_new w7 _)) (by simp [Value.oneCell']) (by decide) hnm (by omega) (Nat.zero_le _) _ rfl ?_; intro g cap w8 own8 hgrow hat hltg; have kw8 := hid (Keeps.grown (a := w7) (by first | exact (Keeps.refl (fun g => (Value.slice pe τ.E.length ce).ownBlock = some g) w7).alloc _ | exact ((Keeps.refl (fun g => (Value.slice pe τ.E.length ce).ownBlock = some g) w7).alloc _).drew | exact ((Keeps.refl (fun g => (Value.slice pe τ.E.length ce).ownBlock = some g) w7).drew).alloc _ | exact ((Keeps.refl (fun g => (Value.slice pe τ.E.length ce).ownBlock = some g) w7).drew.alloc _).drew) hgrow (fun k hk _ => hk)); have b8 := (kw8.out.block _ (H7.out.bound t H7.out.inT) (fun e => notT_row H7.out.rowE (T := 69) (by decide) t _ _ e H7.out.head)).trans H7.out.head; obtain ⟨d0, d1, d2, d3⟩ := four_block b8; have lt8 := lt_of_block b8; have hf8 : ∀ q, w8.frozen? ⟨t, q, Option.none⟩ = false := (fun q => by simp [World.frozen?, b8]); have x8 := (kw8.out.block _ lb0 (fun e => notT_row H7.out.rowE (T := 26) (by decide) b0 _ _ e BX7.out.h0)).trans BX7.out.h0; have x9 := one_block x8; have lb9 := lt_of_block x8; clear x8; have B8 := hid b8; have OWN8 := hid own8; have HAT := hid hat; clear b8 own8 hgrow hat))
              all_goals go_wp2_with fail
              all_goals go_ret
              all_goals rw [HD.out]
              all_goals exact add_close HT.out H7.out K7.out kw8.out OWN8.out (by simp) HAT.out hltg
            
          | none =>
            have HS := hid hs
            have HD := hid (show τ.addMep m = ({ τ with E := τ.E ++ [m] }, 0) by unfold CT.addMep; rw [HY.out]; simp only []; rw [hs]; simp [c1, c2, c3])
            have HT := hid h
            have HG := hid hg
            obtain ⟨pa, ca, pe, ce, mb, L, h⟩ := h
            have H := hid h
            have k0 : Keeps Nil w ((w.alloc (.cells #[.pointer (some ⟨t, 0, Option.none⟩)] 26 (0, 0))).alloc (.cells #[.int .i64 m.ai, .int .u16 m.id, .int .u8 m.port, .bool m.up] 59 (0, 0))) := ((Keeps.refl _ _).alloc _).alloc _
            have hb1 : ((w.alloc (.cells #[.pointer (some ⟨t, 0, Option.none⟩)] 26 (0, 0))).alloc (.cells #[.int .i64 m.ai, .int .u16 m.id, .int .u8 m.port, .bool m.up] 59 (0, 0))).heap[w.heap.size]? = some (.cells #[.pointer (some ⟨t, 0, Option.none⟩)] 26 (0, 0)) := (Below.heap_alloc _ _ _ (by simp)).trans (alloc_block w _)
            have hb2 : ((w.alloc (.cells #[.pointer (some ⟨t, 0, Option.none⟩)] 26 (0, 0))).alloc (.cells #[.int .i64 m.ai, .int .u16 m.id, .int .u8 m.port, .bool m.up] 59 (0, 0))).heap[w.heap.size + 1]? = some (.cells #[.int .i64 m.ai, .int .u16 m.id, .int .u8 m.port, .bool m.up] 59 (0, 0)) := by have := alloc_block (w.alloc (.cells #[.pointer (some ⟨t, 0, Option.none⟩)] 26 (0, 0))) (.cells #[.int .i64 m.ai, .int .u16 m.id, .int .u8 m.port, .bool m.up] 59 (0, 0)); rw [World.size_alloc] at this; exact this
            clear h hg
            go_enter Try.func18, Try.ntmps18
            go_upto_region 1 with (fail)
            generalize ((w.alloc (.cells #[.pointer (some ⟨t, 0, Option.none⟩)] 26 (0, 0))).alloc (.cells #[.int .i64 m.ai, .int .u16 m.id, .int .u8 m.port, .bool m.up] 59 (0, 0))) = W at *
            obtain ⟨b0, e1⟩ : ∃ b0, b0 = w.heap.size := ⟨_, rfl⟩
            obtain ⟨b1, e2⟩ : ∃ b1, b1 = w.heap.size + 1 := ⟨_, rfl⟩
            rw [← e1] at hb1
            rw [← e2] at hb2
            rw [← e2, ← e1]
            have E1 := hid e1
            have E2 := hid e2
            have H2 := hid (H.out.keepN k0)
            have K0 := hid k0
            have HB1 := hid hb1
            have HB2 := hid hb2
            have x0 := one_block hb1
            obtain ⟨m0, m1, m2, m3⟩ := four_block hb2
            have lb0 := lt_of_block hb1
            have lb1 := lt_of_block hb2
            have PA := p_assoc m.ai ⟨_, _, _, _, _, _, H2.out⟩ HG.out
            rw [HY.out] at PA
            clear e1 e2 k0 hb1 hb2
            go_wp2_with fail
            refine PA.mono ?_; rintro e w3 ⟨⟨pm, cm, rfl, own⟩, k3⟩
            have k4 : Keeps Nil w3 (w3.alloc (.cells #[.int .u8 y.lv, .string y.dom, .string y.own, .int .u16 y.vid, .int .u8 y.iv, .slice pm y.ms.length cm] 50 (0, 0))) := (Keeps.refl _ _).alloc _
            have hb4 := alloc_block w3 (.cells #[.int .u8 y.lv, .string y.dom, .string y.own, .int .u16 y.vid, .int .u8 y.iv, .slice pm y.ms.length cm] 50 (0, 0))
            go_upto_region 4 with (fail)
            try simp only [Option.getD_some, Option.isSome_some]
            generalize (w3.alloc (.cells #[.int .u8 y.lv, .string y.dom, .string y.own, .int .u16 y.vid, .int .u8 y.iv, .slice pm y.ms.length cm] 50 (0, 0))) = W4 at *
            obtain ⟨b2, e3⟩ : ∃ b2, b2 = w3.heap.size := ⟨_, rfl⟩
            rw [← e3] at hb4 ⊢
            have H4 := hid ((H2.out.keepN k3).keepN k4)
            have BX := hid (Box3.mk (pm := pm) (cm := cm) (y := y) ((k4.block _ (Nat.lt_of_lt_of_le lb0 k3.size) (fun e => e)).trans ((k3.block _ lb0 (fun e => e)).trans HB1.out)) ((k4.block _ (Nat.lt_of_lt_of_le lb1 k3.size) (fun e => e)).trans ((k3.block _ lb1 (fun e => e)).trans HB2.out)) hb4)
            have K4 := hid ((K0.out.trans k3).trans k4)
            have OWN := hid (ownsRow_keep own k4 (fun _ _ e => e))
            have E3 := hid e3
            have HB3 := hid (show w.heap.size ≤ b2 from by have h1 := K0.out.size; have h2 := k3.size; omega)
            clear hb4 k3 k4 own e3
            have PO := port_any m.port hm.1 H4.out.head
            have CU := contains_u m.id _ pm y.ms.length cm y.ms W4 (WV.of_own OWN.out) (by have := HY8.out; omega)
            have SA := same_all H4.out HG.out BX.out
            have x0 := one_block BX.out.h0
            obtain ⟨m0, m1, m2, m3⟩ := four_block BX.out.h1
            obtain ⟨y0, y1, y2, y3, y4, y5⟩ := six_block BX.out.h2
            have lb0 := lt_of_block BX.out.h0
            have lb1 := lt_of_block BX.out.h1
            have lb2 := lt_of_block BX.out.h2
            have lt4 := lt_of_block H4.out.head
            obtain ⟨a0, a1, a2, a3⟩ := four_block H4.out.head
            simp only [c1, decide_true] at PO
            rw [c2] at CU
            rw [c3] at SA
            clear c1 c2 c3 hs
            go_wp2_with fail
            refine PO.mono ?_; rintro e w' ⟨rfl, rfl⟩
            go_wp2_with fail
            refine CU.mono ?_; rintro e w' ⟨rfl, rfl⟩
            go_wp2_with fail
            refine SA.mono ?_; rintro e w6 ⟨rfl, k6⟩
            have H6 := hid (H4.out.keepN k6)
            have BX6 := hid (BX.out.keep k6 (fun _ _ e => e))
            have K6 := hid (K4.out.trans k6)
            have x0 := one_block BX6.out.h0
            obtain ⟨m0, m1, m2, m3⟩ := four_block BX6.out.h1
            obtain ⟨y0, y1, y2, y3, y4, y5⟩ := six_block BX6.out.h2
            have lb0 := lt_of_block BX6.out.h0
            have lb1 := lt_of_block BX6.out.h1
            have lb2 := lt_of_block BX6.out.h2
            have lt6 := lt_of_block H6.out.head
            obtain ⟨a0, a1, a2, a3⟩ := four_block H6.out.head
            clear k6
            go_wp2_with fail
            have hlk := H6.out.map.look_draws ⟨m.port, y.vid⟩ ⟨hm.1, HYV.out⟩
            rw [HS.out] at hlk
            go_quiet (fail)
            clear hlk
            have kd : Keeps Nil w6 (w6.drewN nq) := Keeps.drewN _ _
            have H7 := hid (H6.out.keepN kd)
            have BX7 := hid (BX6.out.keep kd (fun _ _ e => e))
            have K7 := hid (K6.out.trans kd)
            clear kd
            go_wp2_with fail
            generalize w6.drewN nq = w7 at *
            have x0 := one_block BX7.out.h0
            obtain ⟨m0, m1, m2, m3⟩ := four_block BX7.out.h1
            obtain ⟨a0, a1, a2, a3⟩ := four_block H7.out.head
            have lb0 := lt_of_block BX7.out.h0
            have lb1 := lt_of_block BX7.out.h1
            have lt7 := lt_of_block H7.out.head
            obtain ⟨i0, hi, hz0, hz1, hz2⟩ := info_parts einfom
            have HI := hid (And.intro hi (And.intro hz0 (And.intro hz1 hz2)))
            have OWN7 := hid H7.out.rowE.1
            have hE100 := HG.out.E
            have hnm : τ.E.length + 1 ≤ maxLen := by unfold maxLen; omega
            clear hi hz0 hz1 hz2
            go_region_law ((refine step_append_lies _ (by rfl) _ _ 53 (by rfl) 0 59 i0 (.agg #[.int .i64 0, .int .u16 0, .int .u8 0, .bool false]) 4 16 Try.underlying53 HI.out.1 HI.out.2.1 HI.out.2.2.1 HI.out.2.2.2 rfl (by decide) (.slice pe τ.E.length ce) τ.E.length _ (by rfl) (ownsRow_keep OWN7.out (by first | exact (Keeps.refl Nil w7).alloc _ | exact ((Keeps.refl Nil w7).alloc _).drew | exact ((Keeps.refl Nil w7).drew).alloc _ | exact ((Keeps.refl Nil w7).drew.alloc _).drew) (fun _ _ h => h)) ⟨w7.heap.size, 0, Option.none⟩ 1 1 (cellsE m) (by rfl) (by rfl) (World.news_of_block (cs := #[.int .i64 m.ai, .int .u16 m.id, .int .u8 m.port, .bool m.up]) (t := 59) (fr := (0, 0)) (heap_alloc_new w7 _)) (by simp [Value.oneCell']) (by decide) hnm (by omega) (Nat.zero_le _) _ rfl ?_; intro g cap w8 own8 hgrow hat hltg; have kw8 := hid (Keeps.grown (a := w7) (by first | exact (Keeps.refl (fun g => (Value.slice pe τ.E.length ce).ownBlock = some g) w7).alloc _ | exact ((Keeps.refl (fun g => (Value.slice pe τ.E.length ce).ownBlock = some g) w7).alloc _).drew | exact ((Keeps.refl (fun g => (Value.slice pe τ.E.length ce).ownBlock = some g) w7).drew).alloc _ | exact ((Keeps.refl (fun g => (Value.slice pe τ.E.length ce).ownBlock = some g) w7).drew.alloc _).drew) hgrow (fun k hk _ => hk)); have b8 := (kw8.out.block _ (H7.out.bound t H7.out.inT) (fun e => notT_row H7.out.rowE (T := 69) (by decide) t _ _ e H7.out.head)).trans H7.out.head; obtain ⟨d0, d1, d2, d3⟩ := four_block b8; have lt8 := lt_of_block b8; have hf8 : ∀ q, w8.frozen? ⟨t, q, Option.none⟩ = false := (fun q => by simp [World.frozen?, b8]); have x8 := (kw8.out.block _ lb0 (fun e => notT_row H7.out.rowE (T := 26) (by decide) b0 _ _ e BX7.out.h0)).trans BX7.out.h0; have x9 := one_block x8; have lb9 := lt_of_block x8; clear x8; have B8 := hid b8; have OWN8 := hid own8; have HAT := hid hat; clear b8 own8 hgrow hat))
            all_goals go_wp2_with fail
            all_goals go_ret
            all_goals rw [HD.out]
            all_goals exact add_close HT.out H7.out K7.out kw8.out OWN8.out (by simp) HAT.out hltg
          
    · have HD := hid (show τ.addMep m = (τ, 2) by unfold CT.addMep; rw [HY.out]; simp only []; simp [c1])
      have HT := hid h
      have HG := hid hg
      obtain ⟨pa, ca, pe, ce, mb, L, h⟩ := h
      have H := hid h
      have k0 : Keeps Nil w ((w.alloc (.cells #[.pointer (some ⟨t, 0, Option.none⟩)] 26 (0, 0))).alloc (.cells #[.int .i64 m.ai, .int .u16 m.id, .int .u8 m.port, .bool m.up] 59 (0, 0))) := ((Keeps.refl _ _).alloc _).alloc _
      have hb1 : ((w.alloc (.cells #[.pointer (some ⟨t, 0, Option.none⟩)] 26 (0, 0))).alloc (.cells #[.int .i64 m.ai, .int .u16 m.id, .int .u8 m.port, .bool m.up] 59 (0, 0))).heap[w.heap.size]? = some (.cells #[.pointer (some ⟨t, 0, Option.none⟩)] 26 (0, 0)) := (Below.heap_alloc _ _ _ (by simp)).trans (alloc_block w _)
      have hb2 : ((w.alloc (.cells #[.pointer (some ⟨t, 0, Option.none⟩)] 26 (0, 0))).alloc (.cells #[.int .i64 m.ai, .int .u16 m.id, .int .u8 m.port, .bool m.up] 59 (0, 0))).heap[w.heap.size + 1]? = some (.cells #[.int .i64 m.ai, .int .u16 m.id, .int .u8 m.port, .bool m.up] 59 (0, 0)) := by have := alloc_block (w.alloc (.cells #[.pointer (some ⟨t, 0, Option.none⟩)] 26 (0, 0))) (.cells #[.int .i64 m.ai, .int .u16 m.id, .int .u8 m.port, .bool m.up] 59 (0, 0)); rw [World.size_alloc] at this; exact this
      clear h hg
      go_enter Try.func18, Try.ntmps18
      go_upto_region 1 with (fail)
      generalize ((w.alloc (.cells #[.pointer (some ⟨t, 0, Option.none⟩)] 26 (0, 0))).alloc (.cells #[.int .i64 m.ai, .int .u16 m.id, .int .u8 m.port, .bool m.up] 59 (0, 0))) = W at *
      obtain ⟨b0, e1⟩ : ∃ b0, b0 = w.heap.size := ⟨_, rfl⟩
      obtain ⟨b1, e2⟩ : ∃ b1, b1 = w.heap.size + 1 := ⟨_, rfl⟩
      rw [← e1] at hb1
      rw [← e2] at hb2
      rw [← e2, ← e1]
      have E1 := hid e1
      have E2 := hid e2
      have H2 := hid (H.out.keepN k0)
      have K0 := hid k0
      have HB1 := hid hb1
      have HB2 := hid hb2
      have x0 := one_block hb1
      obtain ⟨m0, m1, m2, m3⟩ := four_block hb2
      have lb0 := lt_of_block hb1
      have lb1 := lt_of_block hb2
      have PA := p_assoc m.ai ⟨_, _, _, _, _, _, H2.out⟩ HG.out
      rw [HY.out] at PA
      clear e1 e2 k0 hb1 hb2
      go_wp2_with fail
      refine PA.mono ?_; rintro e w3 ⟨⟨pm, cm, rfl, own⟩, k3⟩
      have k4 : Keeps Nil w3 (w3.alloc (.cells #[.int .u8 y.lv, .string y.dom, .string y.own, .int .u16 y.vid, .int .u8 y.iv, .slice pm y.ms.length cm] 50 (0, 0))) := (Keeps.refl _ _).alloc _
      have hb4 := alloc_block w3 (.cells #[.int .u8 y.lv, .string y.dom, .string y.own, .int .u16 y.vid, .int .u8 y.iv, .slice pm y.ms.length cm] 50 (0, 0))
      go_upto_region 4 with (fail)
      try simp only [Option.getD_some, Option.isSome_some]
      generalize (w3.alloc (.cells #[.int .u8 y.lv, .string y.dom, .string y.own, .int .u16 y.vid, .int .u8 y.iv, .slice pm y.ms.length cm] 50 (0, 0))) = W4 at *
      obtain ⟨b2, e3⟩ : ∃ b2, b2 = w3.heap.size := ⟨_, rfl⟩
      rw [← e3] at hb4 ⊢
      have H4 := hid ((H2.out.keepN k3).keepN k4)
      have BX := hid (Box3.mk (pm := pm) (cm := cm) (y := y) ((k4.block _ (Nat.lt_of_lt_of_le lb0 k3.size) (fun e => e)).trans ((k3.block _ lb0 (fun e => e)).trans HB1.out)) ((k4.block _ (Nat.lt_of_lt_of_le lb1 k3.size) (fun e => e)).trans ((k3.block _ lb1 (fun e => e)).trans HB2.out)) hb4)
      have K4 := hid ((K0.out.trans k3).trans k4)
      have OWN := hid (ownsRow_keep own k4 (fun _ _ e => e))
      have E3 := hid e3
      have HB3 := hid (show w.heap.size ≤ b2 from by have h1 := K0.out.size; have h2 := k3.size; omega)
      clear hb4 k3 k4 own e3
      have PO := port_any m.port hm.1 H4.out.head
      have CU := contains_u m.id _ pm y.ms.length cm y.ms W4 (WV.of_own OWN.out) (by have := HY8.out; omega)
      have SA := same_all H4.out HG.out BX.out
      have x0 := one_block BX.out.h0
      obtain ⟨m0, m1, m2, m3⟩ := four_block BX.out.h1
      obtain ⟨y0, y1, y2, y3, y4, y5⟩ := six_block BX.out.h2
      have lb0 := lt_of_block BX.out.h0
      have lb1 := lt_of_block BX.out.h1
      have lb2 := lt_of_block BX.out.h2
      have lt4 := lt_of_block H4.out.head
      obtain ⟨a0, a1, a2, a3⟩ := four_block H4.out.head
      rw [show decide (m.port < τ.n) = false from by simp; omega] at PO
      clear c1
      go_wp2_with fail
      refine PO.mono ?_; rintro e w' ⟨rfl, rfl⟩
      go_wp2_with fail
      have KC := K4.out
      go_ret
      rw [HD.out]
      exact ⟨rfl, HT.out.stays KC, KC.ofNil⟩
    
end Go.Proofs.Ytbgijlfdgfhceaa
