/-
  Layer 16: DropMep, AddMep. Conditions: the table lies so; the numbers are in range.
-/
import Derived.Test.YtbgijlfdgfhceaaTurn
namespace Go.Proofs.Ytbgijlfdgfhceaa
open Go.RowKit
set_option linter.unusedVariables false
set_option linter.unusedSimpArgs false
set_option maxRecDepth 8000

theorem ORow.sl {S : Nat → Prop} {w : World} {n c : Nat} {p : Option Addr} {L : List Me} (h : ORow w S 59 4 p n c (flatE L)) : Sl w 0 p n c L := Sl.of_own h.1
theorem notT_inp {S : Nat → Prop} {w : World} {T T' sz n c : Nat} {p : Option Addr} {xs : List Value} (h : ORow w S T' sz p n c xs) (hT : T' ≠ T) : NotT w T (InP p) := by
  intro g c' fr hg e
  exact notT_row h hT g c' fr (by rw [show p = some ⟨g, 0, Option.none⟩ from hg]; rfl) e
section
variable {w w1 w2 : World} {S X : Nat → Prop} {t : Nat} {τ : CT} {pa pe p' : Option Addr} {ca ce mb n' c' : Nat} {L : List As} {E' : List Me}
theorem ORow.not_map {T sz n c : Nat} {p : Option Addr} {xs : List Value} {M : List (Pl × Int)} (h : ORow w S T sz p n c xs) (hm : MapIs w mb M) : (Value.slice p n c).ownBlock ≠ some mb := by
  intro e
  obtain ⟨es, cl, h2⟩ := hm.raw
  obtain ⟨⟨hl, h1⟩, _⟩ := h
  rcases h1 with ⟨hv, _⟩ | ⟨g', cap, cur, hv, hb, hg', r⟩
  · rw [hv] at e; cases e
  · rw [hv] at e
    simp [Value.ownBlock] at e
    subst e
    rw [hg'] at h2
    cases h2
theorem map_ne {b : Nat} {M : List (Pl × Int)} {c : Array Value} {T : TypeId} {fr : Nat × Nat} (h : MapIs w mb M) (hb : w.heap[b]? = some (.cells c T fr)) : mb ≠ b := by
  intro e
  obtain ⟨es, cl, h2⟩ := h.raw
  rw [e, hb] at h2
  cases h2
/-- Another row of end points (X: blocks of that type alone, or new ones), and the table's own cell turned. -/
theorem TblAt.turnE (h : TblAt w S t τ pa ca pe ce mb L) (k : Keeps X w w1) (h50 : NotT w 50 X) (h23 : NotT w 23 X) (h69 : NotT w 69 X) (hm : ¬ X mb)
    {S' : Nat → Prop} (hS : ∀ g, S g → S' g) (hb : ∀ g, S' g → g < w1.heap.size) (hE : ORow w1 S' 59 4 p' E'.length c' (flatE E')) :
    TblAt (w1.setCell ⟨t, 2, Option.none⟩ (.slice p' E'.length c')) S' t { τ with E := E' } pa ca p' c' mb L ∧ Keeps (fun g => X g ∨ g = t) w (w1.setCell ⟨t, 2, Option.none⟩ (.slice p' E'.length c')) := by
  have ht := (k.block t (h.bound t h.inT) (fun e => h69 t _ _ e h.head)).trans h.head
  have k2 : Keeps (At t) w1 (w1.setCell ⟨t, 2, Option.none⟩ (.slice p' E'.length c')) := (Keeps.refl (At t) w1).set t 2 (at_self t) _
  have hz : (w1.setCell ⟨t, 2, Option.none⟩ (.slice p' E'.length c')).heap.size = w1.heap.size := by simp [World.setCell]
  refine ⟨⟨fun g hg => by rw [hz]; exact hb g hg, hS _ h.inT, setCell_block ht 2 _, ?_, h.bare, ?_, ?_, hS _ h.inM, ?_⟩, ?_⟩
  · exact ((h.rowA.keepT k h50).mono hS).keepT k2 (notT_at ht (by decide))
  · exact fun x hx => (((h.nums x hx).keepT k h23).mono hS).keepT k2 (notT_at ht (by decide))
  · exact hE.keepT k2 (notT_at ht (by decide))
  · exact (h.map.keep k hm).keep k2 (fun e => map_ne (h.map.keep k hm) ht e)
  · exact (k.mono (fun g e => .inl e)).trans (k2.mono (fun g e => .inr e))
end
def CT.dropMep (τ : CT) (a i : Int) : CT × Int := if (τ.E.filter (fun x => !(dropB a i x))).length = τ.E.length then (τ, 7) else ({ τ with E := τ.E.filter (fun x => !(dropB a i x)) }, 0)
set_option maxHeartbeats 2000000 in
theorem dropmep_nil (a i : Int) (w : World) : Calls Try.prog 20 #[.pointer Option.none, .int .i64 a, .int .u16 i] w fun e w' => e = .returned (.int .i64 1) ∧ Keeps Nil w w' := by
  go_enter Try.func20, Try.ntmps20
  go_wp2_with fail
  go_ret
  exact ⟨rfl, ((Keeps.refl _ _).alloc _).alloc _⟩
set_option maxHeartbeats 4000000 in
theorem p_dropmep (a i : Int) {w : World} {S : Nat → Prop} {t : Nat} {τ : CT} (h : Tbl w S t τ) (hg : τ.Good) :
    Calls Try.prog 20 #[.pointer (some ⟨t, 0, Option.none⟩), .int .i64 a, .int .u16 i] w fun e w' => e = .returned (.int .i64 (τ.dropMep a i).2) ∧ After w w' S t (τ.dropMep a i).1 ∧ Keeps S w w' := by
  have HT := hid h
  have HG := hid hg
  obtain ⟨pa, ca, pe, ce, mb, L, h⟩ := h
  have H := hid h
  have k0 : Keeps Nil w ((w.alloc (.cells #[.int .i64 a] 3 (0, 0))).alloc (.cells #[.int .u16 i] 23 (0, 0))) := ((Keeps.refl _ _).alloc _).alloc _
  have hb1 : ((w.alloc (.cells #[.int .i64 a] 3 (0, 0))).alloc (.cells #[.int .u16 i] 23 (0, 0))).heap[w.heap.size]? = some (.cells #[.int .i64 a] 3 (0, 0)) := (Below.heap_alloc _ _ _ (by simp)).trans (alloc_block w _)
  have hb2 : ((w.alloc (.cells #[.int .i64 a] 3 (0, 0))).alloc (.cells #[.int .u16 i] 23 (0, 0))).heap[w.heap.size + 1]? = some (.cells #[.int .u16 i] 23 (0, 0)) := by have := alloc_block (w.alloc (.cells #[.int .i64 a] 3 (0, 0))) (.cells #[.int .u16 i] 23 (0, 0)); rw [World.size_alloc] at this; exact this
  clear h hg
  go_enter Try.func20, Try.ntmps20
  go_upto_region 3 with (fail)
  generalize ((w.alloc (.cells #[.int .i64 a] 3 (0, 0))).alloc (.cells #[.int .u16 i] 23 (0, 0))) = W at *
  obtain ⟨b1, e1⟩ : ∃ b1, b1 = w.heap.size := ⟨_, rfl⟩
  obtain ⟨b2, e2⟩ : ∃ b2, b2 = w.heap.size + 1 := ⟨_, rfl⟩
  rw [← e1] at hb1
  rw [← e2] at hb2
  rw [← e2, ← e1]
  have E1 := hid e1
  have E2 := hid e2
  have H2 := hid (H.out.keepN k0)
  obtain ⟨a0, a1, a2, a3⟩ := four_block H2.out.head
  have lt := lt_of_block H2.out.head
  have K0 := hid k0
  have HB1 := hid hb1
  have HB2 := hid hb2
  have hle := H2.out.rowE.wv.2.1
  have DEL := delete_drop (dropB a i) b1 b2 0 pe τ.E.length ce τ.E W H2.out.rowE.sl (fun x V hx kv => by
    have hn : ∀ b, w.heap.size ≤ b → ¬ InP pe b := fun b hb e => by
      have h1 := H.out.bound b (H.out.rowE.2 _ e)
      omega
    have g1 := (kv.block b1 (lt_of_block HB1.out) (hn _ (by have := E1.out; omega))).trans HB1.out
    have g2 := (kv.block b2 (lt_of_block HB2.out) (hn _ (by have := E2.out; omega))).trans HB2.out
    exact drop_test x a i b1 b2 V (by simp [World.cell?, g1]) (by simp [World.cell?, g2]) (lt_of_block g1) (lt_of_block g2))
  clear e1 e2 k0 hb1 hb2
  go_wp2_with fail
  refine DEL.mono ?_; rintro e w3 ⟨⟨n', rfl, sl⟩, k3⟩
  have hb3 := (k3.block t lt (fun e => notT_inp H2.out.rowE (T := 69) (by decide) t _ _ e H2.out.head)).trans H2.out.head
  obtain ⟨d0, d1, d2, d3⟩ := four_block hb3
  have lt3 := lt_of_block hb3
  have hfr : ∀ q, w3.frozen? ⟨t, q, Option.none⟩ = false := fun q => by simp [World.frozen?, hb3]
  have SL := hid sl
  have K3 := hid k3
  have HLN := hid sl.1
  have hE100 := HG.out.E
  have hn100 : n' ≤ 100 := by have h1 := sl.1; have h2 := List.length_filter_le (fun x => !(dropB a i x)) τ.E; omega
  clear hb3 sl k3
  have TT := TblAt.turnE H2.out K3.out (notT_inp H2.out.rowE (by decide)) (notT_inp H2.out.rowE (by decide)) (notT_inp H2.out.rowE (by decide))
    (fun e => H2.out.rowE.not_map H2.out.map (by rw [show pe = some ⟨mb, 0, Option.none⟩ from e]; rfl)) (S' := S) (fun g hg => hg) (fun g hg => Nat.lt_of_lt_of_le (H2.out.bound g hg) K3.out.size)
    (E' := τ.E.filter (fun x => !(dropB a i x))) (p' := pe) (c' := ce) ⟨by rw [HLN.out]; exact SL.out.own, H2.out.rowE.2⟩
  rw [HLN.out] at TT
  have kk : Keeps S w (w3.setCell ⟨t, 2, Option.none⟩ (.slice pe n' ce)) := (K0.out.ofNil).trans (TT.2.mono (fun g e => e.elim (fun e => H2.out.rowE.2 _ e) (fun e => by rw [e]; exact H2.out.inT)))
  have TA := Tbl.after ⟨_, _, _, _, _, _, TT.1⟩ H.out.bound kk.size
  have TA := hid TA
  have KK := hid kk
  clear TT kk
  by_cases heq : n' = τ.E.length
  · have HD := hid (show τ.dropMep a i = (τ, 7) by unfold CT.dropMep; rw [HLN.out, if_pos heq])
    have HE := hid (show τ.E.filter (fun x => !(dropB a i x)) = τ.E from List.filter_eq_self.2 (List.length_filter_eq_length_iff.1 (HLN.out.trans heq)))
    have hq : ((n' : Int) == (τ.E.length : Int)) = true := by simp [heq]
    clear heq
    go_wp2_with fail
    go_ret
    rw [HD.out]
    have TB := TA.out
    rw [HE.out] at TB
    exact ⟨rfl, TB, KK.out⟩
  · have HD := hid (show τ.dropMep a i = ({ τ with E := τ.E.filter (fun x => !(dropB a i x)) }, 0) by unfold CT.dropMep; rw [HLN.out, if_neg heq])
    have hq : ((n' : Int) == (τ.E.length : Int)) = false := by simp; omega
    clear heq
    go_wp2_with fail
    go_ret
    rw [HD.out]
    exact ⟨rfl, TA.out, KK.out⟩
end Go.Proofs.Ytbgijlfdgfhceaa
