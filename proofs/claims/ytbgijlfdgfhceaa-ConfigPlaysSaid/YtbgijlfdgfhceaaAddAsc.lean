/-
  Layer 16: AddAssoc. Conditions: the table lies so; the association's numbers lie so.
-/
import Derived.Test.YtbgijlfdgfhceaaAddMep
namespace Go.Proofs.Ytbgijlfdgfhceaa
open Go.RowKit
set_option linter.unusedVariables false
set_option linter.unusedSimpArgs false
set_option maxRecDepth 8000

def CT.addAsc (τ : CT) (x : As) : CT × Int × Int :=
  if mayA x then
    if τ.A.any (sameB x.dom x.own) then (τ, 0, 8)
    else if 8 ≤ τ.A.length then (τ, 0, 6)
    else ({ τ with A := τ.A ++ [x.bare] }, τ.A.length, 0)
  else (τ, 0, 2)
set_option maxHeartbeats 2000000 in
theorem addasc_nil (x : As) (w : World) : Calls Try.prog 17 #[.pointer Option.none, .agg #[.int .u8 x.lv, .string x.dom, .string x.own, .int .u16 x.vid, .int .u8 x.iv, .slice x.p x.ms.length x.c]] w fun e w' => e = .returned (.tuple #[.int .i64 0, .int .i64 1]) ∧ Keeps Nil w w' := by
  go_enter Try.func17, Try.ntmps17
  go_wp2_with fail
  go_ret2
  exact ⟨rfl, (Keeps.refl _ _).alloc _⟩
theorem einfoA : (Try.prog.info? 50).map (fun i => (i.zero, i.size, i.bytes)) = some (some (.agg #[.int .u8 0, .string ⟨#[]⟩, .string ⟨#[]⟩, .int .u16 0, .int .u8 0, .slice Option.none 0 0]), 6, 72) := by kernel_rfl
section
variable {w w1 w2 : World} {S X : Nat → Prop} {t : Nat} {τ : CT} {pa pe p' : Option Addr} {ca ce mb n' c' : Nat} {L L' : List As}
/-- Another row of associations (X: blocks of that type alone, or new ones), and the table's own cell turned. -/
theorem TblAt.turnA (h : TblAt w S t τ pa ca pe ce mb L) (k : Keeps X w w1) (h59 : NotT w 59 X) (h69 : NotT w 69 X) (hm : ¬ X mb)
    {S' : Nat → Prop} (hS : ∀ g, S g → S' g) (hb : ∀ g, S' g → g < w1.heap.size) (hA : ORow w1 S' 50 6 p' L'.length c' (flatA L')) (hn : ∀ x ∈ L', ORow w1 S' 23 1 x.p x.ms.length x.c (flatU x.ms)) :
    TblAt (w1.setCell ⟨t, 1, Option.none⟩ (.slice p' L'.length c')) S' t { τ with A := L'.map As.bare } p' c' pe ce mb L' ∧ Keeps (fun g => X g ∨ g = t) w (w1.setCell ⟨t, 1, Option.none⟩ (.slice p' L'.length c')) := by
  have ht := (k.block t (h.bound t h.inT) (fun e => h69 t _ _ e h.head)).trans h.head
  have k2 : Keeps (At t) w1 (w1.setCell ⟨t, 1, Option.none⟩ (.slice p' L'.length c')) := (Keeps.refl (At t) w1).set t 1 (at_self t) _
  have hz : (w1.setCell ⟨t, 1, Option.none⟩ (.slice p' L'.length c')).heap.size = w1.heap.size := by simp [World.setCell]
  refine ⟨⟨fun g hg => by rw [hz]; exact hb g hg, hS _ h.inT, setCell_block ht 1 _, ?_, rfl, ?_, ?_, hS _ h.inM, ?_⟩, ?_⟩
  · exact hA.keepT k2 (notT_at ht (by decide))
  · exact fun x hx => (hn x hx).keepT k2 (notT_at ht (by decide))
  · exact ((h.rowE.keepT k h59).mono hS).keepT k2 (notT_at ht (by decide))
  · exact (h.map.keep k hm).keep k2 (fun e => map_ne (h.map.keep k hm) ht e)
  · exact (k.mono (fun g e => .inl e)).trans (k2.mono (fun g e => .inr e))
end
theorem any_bare (d o : ByteArray) (L : List As) : L.any (sameB d o) = (L.map As.bare).any (sameB d o) := by
  rw [List.any_map]; rfl
theorem asc_close {w w7 w8 : World} {S : Nat → Prop} {t : Nat} {τ : CT} {pa pe pm : Option Addr} {ca ce mb g cap cm B : Nat} {L : List As} {x : As} (h7 : TblAt w7 S t τ pa ca pe ce mb L) (K7 : Keeps Nil w w7) (hSw : ∀ g, S g → g < w.heap.size)
    (kw : Keeps (fun g => (Value.slice pa L.length ca).ownBlock = some g) w7 w8) (own : w8.ownsRow 0 50 6 (.slice (some ⟨g, 0, Option.none⟩) (L.length + 1) cap) (L.length + 1) (flatA L ++ #[.int .u8 x.lv, .string x.dom, .string x.own, .int .u16 x.vid, .int .u8 x.iv, .slice pm x.ms.length cm].toList))
    (nums : w7.ownsRow B 23 1 (.slice pm x.ms.length cm) x.ms.length (flatU x.ms)) (hB : w.heap.size ≤ B)
    {Hs : Nat} (hHs : w7.heap.size ≤ Hs) (hat : (Value.slice pa L.length ca).ownBlock = some g ∨ g = Hs) (hg : g < w8.heap.size) :
    After w (w8.setCell ⟨t, 1, Option.none⟩ (.slice (some ⟨g, 0, Option.none⟩) (L.length + 1) cap)) S t { τ with A := τ.A ++ [x.bare] } ∧ Keeps S w (w8.setCell ⟨t, 1, Option.none⟩ (.slice (some ⟨g, 0, Option.none⟩) (L.length + 1) cap)) := by
  have hSX : ∀ g, (Value.slice pa L.length ca).ownBlock = some g → S g := fun g e => by
    cases pa with
    | none => cases e
    | some a => simp [Value.ownBlock] at e; subst e; exact h7.rowA.2 _ rfl
  have hz7 := K7.size
  have hz : (w8.setCell ⟨t, 1, Option.none⟩ (.slice (some ⟨g, 0, Option.none⟩) (L.length + 1) cap)).heap.size = w8.heap.size := by simp [World.setCell]
  have hnew : Nw S w w8 g := by
    rcases hat with e | e
    · exact .inl (hSX g e)
    · exact .inr ⟨by omega, hg⟩
  have hlen : (L ++ [{ x with p := pm, c := cm }]).length = L.length + 1 := by simp
  have TT := h7.turnA kw (notT_row h7.rowA (by decide)) (notT_row h7.rowA (by decide)) (h7.rowA.not_map h7.map) (S' := Nw S w w8) (fun g hg => .inl hg) (fun g hg => hg.elim (fun hs => Nat.lt_of_lt_of_le (h7.bound g hs) kw.size) (fun hs => hs.2))
    (L' := L ++ [{ x with p := pm, c := cm }]) (p' := some ⟨g, 0, Option.none⟩) (c' := cap) ⟨by rw [hlen, flatA_append]; simpa [flatA] using own, fun a e => by injection e with e; subst e; exact hnew⟩
    (fun y hy => by
      rcases List.mem_append.1 hy with hy | hy
      · exact ((h7.nums y hy).keepT kw (notT_row h7.rowA (by decide))).mono (fun g hg => .inl hg)
      · simp at hy
        subst hy
        exact ORow.of_new (ownsRow_keep nums kw (fun g hg e => by have := hSw g (hSX g e); omega)) (fun g hg hl => .inr ⟨by omega, hl⟩))
  rw [hlen] at TT
  have hbare : (L ++ [{ x with p := pm, c := cm }]).map As.bare = τ.A ++ [x.bare] := by rw [List.map_append, h7.bare]; rfl
  rw [hbare] at TT
  refine ⟨Tbl.mono ⟨_, _, _, _, _, _, TT.1⟩ (fun g hg => hg.elim .inl (fun h => .inr ⟨h.1, by rw [hz]; exact h.2⟩)) (fun g hg => hg.elim (fun hs => by rw [hz]; exact Nat.lt_of_lt_of_le (h7.bound g hs) kw.size) (fun hs => hs.2)), ?_⟩
  exact K7.ofNil.trans (TT.2.mono (fun g e => e.elim (hSX g) (fun e => by rw [e]; exact h7.inT)))

set_option maxHeartbeats 16000000 in
theorem p_addasc (x : As) (B : Nat) {w : World} {S : Nat → Prop} {t : Nat} {τ : CT} (h : Tbl w S t τ) (hg : τ.Good) (hx : MsV w B x) :
    Calls Try.prog 17 #[.pointer (some ⟨t, 0, Option.none⟩), .agg #[.int .u8 x.lv, .string x.dom, .string x.own, .int .u16 x.vid, .int .u8 x.iv, .slice x.p x.ms.length x.c]] w fun e w' => e = .returned (.tuple #[.int .i64 (τ.addAsc x).2.1, .int .i64 (τ.addAsc x).2.2]) ∧ After w w' S t (τ.addAsc x).1 ∧ Keeps S w w' := by
  cases hm : mayA x with
  | false =>
    have HM := hid hm
    have HD := hid (show τ.addAsc x = (τ, 0, 2) by unfold CT.addAsc; simp [hm])
    have HT := hid h
    obtain ⟨pa, ca, pe, ce, mb, L, h⟩ := h
    have H := hid h
    have HX := hid hx
    have k0 : Keeps Nil w (w.alloc (.cells #[.int .u8 x.lv, .string x.dom, .string x.own, .int .u16 x.vid, .int .u8 x.iv, .slice x.p x.ms.length x.c] 50 (0, 0))) := (Keeps.refl _ _).alloc _
    have hb := alloc_block w (.cells #[.int .u8 x.lv, .string x.dom, .string x.own, .int .u16 x.vid, .int .u8 x.iv, .slice x.p x.ms.length x.c] 50 (0, 0))
    have hLA := hid h.lenA
    have hlA8 := hg.A
    clear h hg hx
    go_enter Try.func17, Try.ntmps17
    go_upto_region 4 with (fail)
    generalize (w.alloc (.cells #[.int .u8 x.lv, .string x.dom, .string x.own, .int .u16 x.vid, .int .u8 x.iv, .slice x.p x.ms.length x.c] 50 (0, 0))) = W at *
    obtain ⟨b0, e1⟩ : ∃ b0, b0 = w.heap.size := ⟨_, rfl⟩
    rw [← e1] at hb ⊢
    have E1 := hid e1
    have H2 := hid (H.out.keepN k0)
    have K0 := hid k0
    have HB := hid hb
    obtain ⟨x0, x1, x2, x3, x4, x5⟩ := six_block hb
    have lb := lt_of_block hb
    have MA := may_any x B W (HX.out.keepN k0)
    rw [HM.out] at MA
    clear e1 k0 hb
    go_wp2_with fail
    refine MA.mono ?_; rintro e w3 ⟨rfl, k3⟩
    have K3 := hid (K0.out.trans k3)
    have H3 := hid (H2.out.keepN k3)
    have hb := (k3.block _ lb (fun e => e)).trans HB.out
    have HB3 := hid hb
    obtain ⟨x0, x1, x2, x3, x4, x5⟩ := six_block hb
    have lb3 := lt_of_block hb
    obtain ⟨a0, a1, a2, a3⟩ := four_block H3.out.head
    have lt3 := lt_of_block H3.out.head
    have hb2 := hb
    clear hb k3
    clear hb2
    have KC := K3.out
    go_wp2_with fail
    go_ret2
    rw [HD.out]
    exact ⟨rfl, HT.out.stays KC, KC.ofNil⟩
  
  | true =>
    have HM := hid hm
    cases hc : τ.A.any (sameB x.dom x.own) with
    | true =>
      have HC := hid hc
      have HD := hid (show τ.addAsc x = (τ, 0, 8) by unfold CT.addAsc; simp [hm, hc])
      have HT := hid h
      obtain ⟨pa, ca, pe, ce, mb, L, h⟩ := h
      have H := hid h
      have HX := hid hx
      have k0 : Keeps Nil w (w.alloc (.cells #[.int .u8 x.lv, .string x.dom, .string x.own, .int .u16 x.vid, .int .u8 x.iv, .slice x.p x.ms.length x.c] 50 (0, 0))) := (Keeps.refl _ _).alloc _
      have hb := alloc_block w (.cells #[.int .u8 x.lv, .string x.dom, .string x.own, .int .u16 x.vid, .int .u8 x.iv, .slice x.p x.ms.length x.c] 50 (0, 0))
      have hLA := hid h.lenA
      have hlA8 := hg.A
      clear h hg hx
      go_enter Try.func17, Try.ntmps17
      go_upto_region 4 with (fail)
      generalize (w.alloc (.cells #[.int .u8 x.lv, .string x.dom, .string x.own, .int .u16 x.vid, .int .u8 x.iv, .slice x.p x.ms.length x.c] 50 (0, 0))) = W at *
      obtain ⟨b0, e1⟩ : ∃ b0, b0 = w.heap.size := ⟨_, rfl⟩
      rw [← e1] at hb ⊢
      have E1 := hid e1
      have H2 := hid (H.out.keepN k0)
      have K0 := hid k0
      have HB := hid hb
      obtain ⟨x0, x1, x2, x3, x4, x5⟩ := six_block hb
      have lb := lt_of_block hb
      have MA := may_any x B W (HX.out.keepN k0)
      rw [HM.out] at MA
      clear e1 k0 hb
      go_wp2_with fail
      refine MA.mono ?_; rintro e w3 ⟨rfl, k3⟩
      have K3 := hid (K0.out.trans k3)
      have H3 := hid (H2.out.keepN k3)
      have hb := (k3.block _ lb (fun e => e)).trans HB.out
      have HB3 := hid hb
      obtain ⟨x0, x1, x2, x3, x4, x5⟩ := six_block hb
      have lb3 := lt_of_block hb
      obtain ⟨a0, a1, a2, a3⟩ := four_block H3.out.head
      have lt3 := lt_of_block H3.out.head
      have hb2 := hb
      clear hb k3
      clear hm hc
      have CA := contains_asc (sameB x.dom x.own) b0 0 pa L.length ca L w3 H3.out.rowA.wv (by have := hLA.out; omega) (fun y V hx kv => by
        have hb4 := (kv.block _ lb3 (fun e => e)).trans HB3.out
        exact asc_test y x.dom x.own b0 V (six_block hb4).2.1 (six_block hb4).2.2.1 (lt_of_block hb4))
      rw [any_bare, H.out.bare, HC.out] at CA
      clear hb2
      go_wp2_with fail
      refine CA.mono ?_; rintro e w4 ⟨rfl, k4⟩
      have K4 := hid (K3.out.trans k4)
      have H4 := hid (H3.out.keepN k4)
      have hb := (k4.block _ lb3 (fun e => e)).trans HB3.out
      have HB4 := hid hb
      obtain ⟨x0, x1, x2, x3, x4, x5⟩ := six_block hb
      have lb4 := lt_of_block hb
      obtain ⟨a0, a1, a2, a3⟩ := four_block H4.out.head
      have lt4 := lt_of_block H4.out.head
      clear hb k4
      have KC := K4.out
      go_wp2_with fail
      go_ret2
      rw [HD.out]
      exact ⟨rfl, HT.out.stays KC, KC.ofNil⟩
    
    | false =>
      have HC := hid hc
      by_cases hl : 8 ≤ τ.A.length
      · have HD := hid (show τ.addAsc x = (τ, 0, 6) by unfold CT.addAsc; simp [hm, hc, hl])
        have HT := hid h
        obtain ⟨pa, ca, pe, ce, mb, L, h⟩ := h
        have H := hid h
        have HX := hid hx
        have k0 : Keeps Nil w (w.alloc (.cells #[.int .u8 x.lv, .string x.dom, .string x.own, .int .u16 x.vid, .int .u8 x.iv, .slice x.p x.ms.length x.c] 50 (0, 0))) := (Keeps.refl _ _).alloc _
        have hb := alloc_block w (.cells #[.int .u8 x.lv, .string x.dom, .string x.own, .int .u16 x.vid, .int .u8 x.iv, .slice x.p x.ms.length x.c] 50 (0, 0))
        have hLA := hid h.lenA
        have hlA8 := hg.A
        clear h hg hx
        go_enter Try.func17, Try.ntmps17
        go_upto_region 4 with (fail)
        generalize (w.alloc (.cells #[.int .u8 x.lv, .string x.dom, .string x.own, .int .u16 x.vid, .int .u8 x.iv, .slice x.p x.ms.length x.c] 50 (0, 0))) = W at *
        obtain ⟨b0, e1⟩ : ∃ b0, b0 = w.heap.size := ⟨_, rfl⟩
        rw [← e1] at hb ⊢
        have E1 := hid e1
        have H2 := hid (H.out.keepN k0)
        have K0 := hid k0
        have HB := hid hb
        obtain ⟨x0, x1, x2, x3, x4, x5⟩ := six_block hb
        have lb := lt_of_block hb
        have MA := may_any x B W (HX.out.keepN k0)
        rw [HM.out] at MA
        clear e1 k0 hb
        go_wp2_with fail
        refine MA.mono ?_; rintro e w3 ⟨rfl, k3⟩
        have K3 := hid (K0.out.trans k3)
        have H3 := hid (H2.out.keepN k3)
        have hb := (k3.block _ lb (fun e => e)).trans HB.out
        have HB3 := hid hb
        obtain ⟨x0, x1, x2, x3, x4, x5⟩ := six_block hb
        have lb3 := lt_of_block hb
        obtain ⟨a0, a1, a2, a3⟩ := four_block H3.out.head
        have lt3 := lt_of_block H3.out.head
        have hb2 := hb
        clear hb k3
        clear hm hc
        have hl2 : 8 ≤ L.length := by have := hLA.out; omega
        have CA := contains_asc (sameB x.dom x.own) b0 0 pa L.length ca L w3 H3.out.rowA.wv (by have := hLA.out; omega) (fun y V hx kv => by
          have hb4 := (kv.block _ lb3 (fun e => e)).trans HB3.out
          exact asc_test y x.dom x.own b0 V (six_block hb4).2.1 (six_block hb4).2.2.1 (lt_of_block hb4))
        rw [any_bare, H.out.bare, HC.out] at CA
        clear hb2
        go_wp2_with fail
        refine CA.mono ?_; rintro e w4 ⟨rfl, k4⟩
        have K4 := hid (K3.out.trans k4)
        have H4 := hid (H3.out.keepN k4)
        have hb := (k4.block _ lb3 (fun e => e)).trans HB3.out
        have HB4 := hid hb
        obtain ⟨x0, x1, x2, x3, x4, x5⟩ := six_block hb
        have lb4 := lt_of_block hb
        obtain ⟨a0, a1, a2, a3⟩ := four_block H4.out.head
        have lt4 := lt_of_block H4.out.head
        clear hb k4
        have KC := K4.out
        go_wp2_with fail
        go_ret2
        rw [HD.out]
        exact ⟨rfl, HT.out.stays KC, KC.ofNil⟩
      
      · have HD := hid (show τ.addAsc x = ({ τ with A := τ.A ++ [x.bare] }, (τ.A.length : Int), 0) by unfold CT.addAsc; simp [hm, hc, hl])
        have HT := hid h
        obtain ⟨pa, ca, pe, ce, mb, L, h⟩ := h
        have H := hid h
        have HX := hid hx
        have k0 : Keeps Nil w (w.alloc (.cells #[.int .u8 x.lv, .string x.dom, .string x.own, .int .u16 x.vid, .int .u8 x.iv, .slice x.p x.ms.length x.c] 50 (0, 0))) := (Keeps.refl _ _).alloc _
        have hb := alloc_block w (.cells #[.int .u8 x.lv, .string x.dom, .string x.own, .int .u16 x.vid, .int .u8 x.iv, .slice x.p x.ms.length x.c] 50 (0, 0))
        have hLA := hid h.lenA
        have hlA8 := hg.A
        clear h hg hx
        go_enter Try.func17, Try.ntmps17
        go_upto_region 4 with (fail)
        generalize (w.alloc (.cells #[.int .u8 x.lv, .string x.dom, .string x.own, .int .u16 x.vid, .int .u8 x.iv, .slice x.p x.ms.length x.c] 50 (0, 0))) = W at *
        obtain ⟨b0, e1⟩ : ∃ b0, b0 = w.heap.size := ⟨_, rfl⟩
        rw [← e1] at hb ⊢
        have E1 := hid e1
        have H2 := hid (H.out.keepN k0)
        have K0 := hid k0
        have HB := hid hb
        obtain ⟨x0, x1, x2, x3, x4, x5⟩ := six_block hb
        have lb := lt_of_block hb
        have MA := may_any x B W (HX.out.keepN k0)
        rw [HM.out] at MA
        clear e1 k0 hb
        go_wp2_with fail
        refine MA.mono ?_; rintro e w3 ⟨rfl, k3⟩
        have K3 := hid (K0.out.trans k3)
        have H3 := hid (H2.out.keepN k3)
        have hb := (k3.block _ lb (fun e => e)).trans HB.out
        have HB3 := hid hb
        obtain ⟨x0, x1, x2, x3, x4, x5⟩ := six_block hb
        have lb3 := lt_of_block hb
        obtain ⟨a0, a1, a2, a3⟩ := four_block H3.out.head
        have lt3 := lt_of_block H3.out.head
        have hb2 := hb
        clear hb k3
        clear hm hc
        have hl2 : ¬ 8 ≤ L.length := by have := hLA.out; omega
        have CA := contains_asc (sameB x.dom x.own) b0 0 pa L.length ca L w3 H3.out.rowA.wv (by have := hLA.out; omega) (fun y V hx kv => by
          have hb4 := (kv.block _ lb3 (fun e => e)).trans HB3.out
          exact asc_test y x.dom x.own b0 V (six_block hb4).2.1 (six_block hb4).2.2.1 (lt_of_block hb4))
        rw [any_bare, H.out.bare, HC.out] at CA
        clear hb2
        go_wp2_with fail
        refine CA.mono ?_; rintro e w4 ⟨rfl, k4⟩
        have K4 := hid (K3.out.trans k4)
        have H4 := hid (H3.out.keepN k4)
        have hb := (k4.block _ lb3 (fun e => e)).trans HB3.out
        have HB4 := hid hb
        obtain ⟨x0, x1, x2, x3, x4, x5⟩ := six_block hb
        have lb4 := lt_of_block hb
        obtain ⟨a0, a1, a2, a3⟩ := four_block H4.out.head
        have lt4 := lt_of_block H4.out.head
        clear hb k4
        have CL := clone_u B x.p x.ms.length x.c x.ms w4 (HX.out.keepN K4.out) (by have := (mayA_ms HM.out).1; omega)
        go_wp2_with fail
        refine CL.mono ?_; rintro e w5 ⟨⟨pm, cm, rfl, own⟩, k5⟩
        have hb5 := (k5.block _ lb4 (fun e => e)).trans HB4.out
        have lb5 := lt_of_block hb5
        obtain ⟨x0, x1, x2, x3, x4, x5⟩ := six_block hb5
        have hfb : ∀ q, w5.frozen? ⟨b0, q, Option.none⟩ = false := fun q => by simp [World.frozen?, hb5]
        have hb6 := setCell_block hb5 5 (.slice pm x.ms.length cm)
        have k6 : Keeps Nil w5 w5 := Keeps.refl _ _
        have K7 := hid (show Keeps Nil w (w5.setCell ⟨b0, 5, Option.none⟩ (.slice pm x.ms.length cm)) from (K4.out.trans k5).setCell (p := ⟨b0, 5, Option.none⟩) (fun hb => by have := E1.out; simp only at hb; omega) _)
        have NU := hid (ownsRow_keep own ((Keeps.refl (At b0) w5).set b0 5 (at_self b0) (.slice pm x.ms.length cm)) (fun g hg e => by rw [show g = b0 from e] at hg; omega))
        have HBB := hid (show w.heap.size ≤ w4.heap.size from K4.out.size)
        clear own k5 hb5
        go_upto_region 11 with (fail)
        generalize (w5.setCell ⟨b0, 5, Option.none⟩ (.slice pm x.ms.length cm)) = w7 at *
        have H7 := hid (H.out.keepN K7.out)
        have hb7 : w7.heap[b0]? = some (.cells #[.int .u8 x.lv, .string x.dom, .string x.own, .int .u16 x.vid, .int .u8 x.iv, .slice pm x.ms.length cm] 50 (0, 0)) := hb6
        have HB7 := hid hb7
        obtain ⟨x0, x1, x2, x3, x4, x5⟩ := six_block hb7
        have lb7 := lt_of_block hb7
        obtain ⟨a0, a1, a2, a3⟩ := four_block H7.out.head
        have lt7 := lt_of_block H7.out.head
        obtain ⟨i0, hi, hz0, hz1, hz2⟩ := info_parts einfoA
        have HI := hid (And.intro hi (And.intro hz0 (And.intro hz1 hz2)))
        have OWN7 := hid H7.out.rowA.1
        have hnm : L.length + 1 ≤ maxLen := by unfold maxLen; omega
        clear hi hz0 hz1 hz2 hb6 hb7
        go_region_law ((refine step_append_lies _ (by rfl) _ _ 67 (by rfl) 0 50 i0 (.agg #[.int .u8 0, .string ⟨#[]⟩, .string ⟨#[]⟩, .int .u16 0, .int .u8 0, .slice Option.none 0 0]) 6 72 Try.underlying67 HI.out.1 HI.out.2.1 HI.out.2.2.1 HI.out.2.2.2 rfl (by decide) (.slice pa L.length ca) L.length _ (by rfl) (ownsRow_keep OWN7.out (by first | exact (Keeps.refl Nil w7).alloc _ | exact ((Keeps.refl Nil w7).alloc _).drew | exact ((Keeps.refl Nil w7).drew).alloc _ | exact ((Keeps.refl Nil w7).drew.alloc _).drew) (fun _ _ h => h)) ⟨w7.heap.size, 0, Option.none⟩ 1 1 #[.int .u8 x.lv, .string x.dom, .string x.own, .int .u16 x.vid, .int .u8 x.iv, .slice pm x.ms.length cm].toList (by rfl) (by rfl) (World.news_of_block (cs := #[.int .u8 x.lv, .string x.dom, .string x.own, .int .u16 x.vid, .int .u8 x.iv, .slice pm x.ms.length cm]) (t := 50) (fr := (0, 0)) (heap_alloc_new w7 _)) (by simp [Value.oneCell']) (by decide) hnm (by omega) (Nat.zero_le _) _ rfl ?_; intro g cap w8 own8 hgrow hat hltg; have kw8 := hid (Keeps.grown (a := w7) (by first | exact (Keeps.refl (fun g => (Value.slice pa L.length ca).ownBlock = some g) w7).alloc _ | exact ((Keeps.refl (fun g => (Value.slice pa L.length ca).ownBlock = some g) w7).alloc _).drew | exact ((Keeps.refl (fun g => (Value.slice pa L.length ca).ownBlock = some g) w7).drew).alloc _ | exact ((Keeps.refl (fun g => (Value.slice pa L.length ca).ownBlock = some g) w7).drew.alloc _).drew) hgrow (fun k hk _ => hk)); have b8 := (kw8.out.block _ (H7.out.bound t H7.out.inT) (fun e => notT_row H7.out.rowA (T := 69) (by decide) t _ _ e H7.out.head)).trans H7.out.head; obtain ⟨d0, d1, d2, d3⟩ := four_block b8; have lt8 := lt_of_block b8; have hf8 : ∀ q, w8.frozen? ⟨t, q, Option.none⟩ = false := (fun q => by simp [World.frozen?, b8]); have B8 := hid b8; have OWN8 := hid own8; have HAT := hid hat; clear b8 own8 hgrow hat))
        all_goals go_wp2_with fail
        all_goals go_ret2
        all_goals rw [HD.out]
        all_goals exact ⟨by rw [← hLA.out]; rfl, asc_close H7.out K7.out H.out.bound kw8.out OWN8.out NU.out HBB.out (by simp) HAT.out hltg⟩
      
end Go.Proofs.Ytbgijlfdgfhceaa
