/-
  Layer 16: At. Conditions: the table lies so.
-/
import Derived.Test.YtbgijlfdgfhceaaAssoc
import Derived.BigRegion
import Derived.RegionTactic
namespace Go.Proofs.Ytbgijlfdgfhceaa
open Go.RowKit
set_option linter.unusedVariables false
set_option linter.unusedSimpArgs false
set_option maxRecDepth 8000

/-- Is an end point one of a port and a VLAN, of a way? -/
def CT.inB (τ : CT) (port vid : Int) (up : Bool) (x : Me) : Bool := decide (x.port = port) && decide ((τ.of x).vid = vid) && (x.up == up)
/-- A level put into a set. -/
def bor (s l : Int) : Int := bits BinOp.or .u8 s (2 ^ l.toNat)
theorem bor_range {s l : Int} (hs : 0 ≤ s ∧ s < 256) (hl : 0 ≤ l ∧ l ≤ 7) : 0 ≤ bor s l ∧ bor s l < 256 := by
  have key : ∀ (a : Fin 256) (b : Fin 8), 0 ≤ bor (a.val : Int) (b.val : Int) ∧ bor (a.val : Int) (b.val : Int) < 256 := by decide +kernel
  have := key ⟨s.toNat, by omega⟩ ⟨l.toNat, by omega⟩
  simp only at this
  rwa [show ((s.toNat : Nat) : Int) = s from by omega, show ((l.toNat : Nat) : Int) = l from by omega] at this
/-- The levels of a way, at a port and a VLAN. -/
def CT.lset (τ : CT) (port vid : Int) (up : Bool) (L : List Me) : Int := L.foldl (fun s x => if τ.inB port vid up x then bor s (τ.of x).lv else s) 0
def CT.mid (τ : CT) (port vid : Int) : Int := match sget τ.M ⟨port, vid⟩ with | some l => l | none => -1
theorem CT.Good.lv {τ : CT} (g : τ.Good) {x : Me} (hx : x ∈ τ.E) : 0 ≤ (τ.of x).lv ∧ (τ.of x).lv ≤ 7 := by
  have h1 := g.ent x hx
  obtain ⟨y, hy⟩ : ∃ y, τ.A[x.ai.toNat]? = some y := ⟨_, List.getElem?_eq_getElem (by omega)⟩
  have e : τ.of x = y := by simp [CT.of, List.getD, hy]
  have h2 := g.may y (List.mem_of_getElem? hy)
  rw [e]
  exact ⟨h2.2.1, (mayA_ms h2.1).2⟩
theorem lset_range {τ : CT} (g : τ.Good) (port vid : Int) (up : Bool) (L : List Me) (hL : ∀ x ∈ L, x ∈ τ.E) (s : Int) (hs : 0 ≤ s ∧ s < 256) : 0 ≤ L.foldl (fun s x => if τ.inB port vid up x then bor s (τ.of x).lv else s) s ∧ L.foldl (fun s x => if τ.inB port vid up x then bor s (τ.of x).lv else s) s < 256 := by
  induction L generalizing s with
  | nil => exact hs
  | cons x r ih =>
    rw [List.foldl_cons]
    refine ih (fun y hy => hL y (by simp [hy])) _ ?_
    split
    · exact bor_range hs (g.lv (hL x (by simp)))
    · exact hs
theorem lset_take {τ : CT} (port vid : Int) (up : Bool) {L : List Me} {k : Nat} {x : Me} (hx : L[k]? = some x) : τ.lset port vid up (L.take (k + 1)) = if τ.inB port vid up x then bor (τ.lset port vid up (L.take k)) (τ.of x).lv else τ.lset port vid up (L.take k) := by
  have hl := (List.getElem?_eq_some_iff.1 hx).1
  have e : L[k] = x := by rw [List.getElem?_eq_getElem hl] at hx; exact Option.some.inj hx
  unfold CT.lset
  rw [List.take_succ_eq_append_getElem hl, List.foldl_append, e]
  rfl
theorem al2 {W : World} {o1 o2 ob : Obj} {b : Nat} (h : W.heap[b]? = some ob) : ((W.alloc o1).alloc o2).drew.heap[b]? = some ob := by
  show ((W.alloc o1).alloc o2).heap[b]? = some ob
  have hl := lt_of_block h
  rw [Below.heap_alloc _ _ _ (by simp; omega), Below.heap_alloc _ _ _ (by omega)]
  exact h
theorem pow_in {l : Int} (h0 : 0 ≤ l) (h7 : l ≤ 7) : (2 : Int) ^ l.toNat % 256 = 2 ^ l.toNat := by
  have key : ∀ a : Fin 8, (2 : Int) ^ a.val % 256 = 2 ^ a.val := by decide
  exact key ⟨l.toNat, by omega⟩
set_option maxHeartbeats 2000000 in
theorem at_nil (port vid : Int) (w : World) : Calls Try.prog 14 #[.pointer Option.none, .int .u8 port, .int .u16 vid] w fun e w' => e = .returned (.agg #[.int .u8 0, .int .u8 0, .int .i64 (-1)]) ∧ Keeps Nil w w' := by
  go_enter Try.func14, Try.ntmps14
  go_wp2_with fail
  go_returns
  exact ⟨rfl, by repeat' (first | exact Keeps.refl _ _ | refine Keeps.alloc ?_ _)⟩
def ALv (port vid : Int) : Prop := (0 ≤ port ∧ port < 256) ∧ (0 ≤ vid ∧ vid < 65536)
set_option maxHeartbeats 8000000 in
theorem p_at (port vid : Int) (hpv : ALv port vid) {w : World} {S : Nat → Prop} {t : Nat} {τ : CT} (h : Tbl w S t τ) (hg : τ.Good) :
    Calls Try.prog 14 #[.pointer (some ⟨t, 0, Option.none⟩), .int .u8 port, .int .u16 vid] w fun e w' => e = .returned (.agg #[.int .u8 (τ.lset port vid false τ.E), .int .u8 (τ.lset port vid true τ.E), .int .i64 (τ.mid port vid)]) ∧ Keeps Nil w w' := by
  obtain ⟨pa, ca, pe, ce, mb, L, h⟩ := h
  obtain ⟨a0, a1, a2, a3⟩ := four_block h.head
  have lt := lt_of_block h.head
  have hle := h.rowE.wv.2.1
  have hE := hg.E
  have H := hid h
  have HG := hid hg
  clear h hg
  go_enter Try.func14, Try.ntmps14
  go_wp2_with fail
  have k0 : Keeps Nil w ((w.alloc (.cells #[.int .u8 0, .int .u8 0, .int .i64 0] 56 (0, 0))).alloc (.cells #[.int .u8 0, .int .u8 0, .int .i64 (-1)] 56 (0, 0))) := ((Keeps.refl _ _).alloc _).alloc _
  have hb1 : ((w.alloc (.cells #[.int .u8 0, .int .u8 0, .int .i64 0] 56 (0, 0))).alloc (.cells #[.int .u8 0, .int .u8 0, .int .i64 (-1)] 56 (0, 0))).heap[w.heap.size]? = some (.cells #[.int .u8 0, .int .u8 0, .int .i64 0] 56 (0, 0)) := (Below.heap_alloc _ _ _ (by simp)).trans (alloc_block w _)
  have hb2 : ((w.alloc (.cells #[.int .u8 0, .int .u8 0, .int .i64 0] 56 (0, 0))).alloc (.cells #[.int .u8 0, .int .u8 0, .int .i64 (-1)] 56 (0, 0))).heap[w.heap.size + 1]? = some (.cells #[.int .u8 0, .int .u8 0, .int .i64 (-1)] 56 (0, 0)) := by have := alloc_block (w.alloc (.cells #[.int .u8 0, .int .u8 0, .int .i64 0] 56 (0, 0))) (.cells #[.int .u8 0, .int .u8 0, .int .i64 (-1)] 56 (0, 0)); rw [World.size_alloc] at this; exact this
  generalize ((w.alloc (.cells #[.int .u8 0, .int .u8 0, .int .i64 0] 56 (0, 0))).alloc (.cells #[.int .u8 0, .int .u8 0, .int .i64 (-1)] 56 (0, 0))) = wa at *
  obtain ⟨b1, e1⟩ : ∃ b1, b1 = w.heap.size := ⟨_, rfl⟩
  obtain ⟨b2, e2⟩ : ∃ b2, b2 = w.heap.size + 1 := ⟨_, rfl⟩
  rw [← e1] at hb1
  rw [← e2] at hb2
  rw [← e2, ← e1]
  have E1 := hid e1
  have E2 := hid e2
  have K0 := hid k0
  have HB1 := hid hb1
  have HB2 := hid hb2
  clear e1 e2 k0 hb1 hb2 a0 a1 a2 a3
  go_loopw [22] (fun i wr => ∃ k : Nat, k ≤ τ.E.length ∧ i = .int .i64 k ∧ Hid (Keeps Nil w wr ∧ wr.heap[b1]? = some (.cells #[.int .u8 0, .int .u8 0, .int .i64 0] 56 (0, 0)) ∧ wr.heap[b2]? = some (.cells #[.int .u8 (τ.lset port vid false (τ.E.take k)), .int .u8 (τ.lset port vid true (τ.E.take k)), .int .i64 (-1)] 56 (0, 0)))) (fun i _ => τ.E.length - (intOf i).toNat)
  case atStart => exact ⟨0, Nat.zero_le _, rfl, hid ⟨K0.out, HB1.out, HB2.out⟩⟩
  case round =>
    obtain ⟨k, hk, rfl, HR⟩ := hrel
    have H2 := hid (H.out.keepN HR.out.1)
    obtain ⟨a0, a1, a2, a3⟩ := four_block H2.out.head
    have ltr := lt_of_block H2.out.head
    have l1 := lt_of_block HR.out.2.1
    have l2 := lt_of_block HR.out.2.2
    by_cases hlt : k < τ.E.length
    · obtain ⟨x, hx⟩ : ∃ x, τ.E[k]? = some x := ⟨_, List.getElem?_eq_getElem hlt⟩
      have hent := HG.out.ent x (List.mem_of_getElem? hx)
      obtain ⟨y, hy⟩ : ∃ y, L[x.ai.toNat]? = some y := ⟨_, List.getElem?_eq_getElem (by have := H.out.lenA; omega)⟩
      have hof : τ.of x = y.bare := by simp [CT.of, List.getD, H.out.asc, hy]
      have hlv := HG.out.lv (List.mem_of_getElem? hx)
      rw [hof] at hlv
      have hlv0 : 0 ≤ y.lv := hlv.1
      have hlv7 : y.lv ≤ 7 := hlv.2
      obtain ⟨g, off, rfl, _, hgl, _, c0, c1, c2, c3⟩ := H2.out.rowE.wv.atE hx
      obtain ⟨ga, oa, rfl, _, hga, hjl, d0, d1, d2, d3, d4, d5⟩ := H2.out.rowA.wv.atA hy
      have hca := H2.out.rowA.wv.2.1
      have hL8 : L.length ≤ 8 := by rw [H.out.lenA]; exact HG.out.A
      have HX := hid hx
      have HOF := hid hof
      obtain ⟨ai, id, po, up⟩ := x
      obtain ⟨j, rfl⟩ : ∃ j : Nat, ai = j := ⟨ai.toNat, by simp only at hent; omega⟩
      simp only [Int.toNat_natCast] at d0 d1 d2 d3 d4 d5 hjl
      clear hx hof hy hent hlv
      obtain ⟨o0, o1, o2⟩ := three_block HR.out.2.2
      have hfr : ∀ q, wr.frozen? ⟨b2, q, Option.none⟩ = false := fun q => by simp [World.frozen?, HR.out.2.2]
      go_upto_region 7 with (fail)
      have hup : (if up then up = true else up = false) := by cases up <;> rfl
      by_cases h1 : po = port
      · by_cases h2 : y.vid = vid
        · cases up with
          | true =>
            have HF := hid (show τ.inB port vid false ⟨j, id, po, true⟩ = false by simp [CT.inB])
            have HT := hid (show τ.inB port vid true ⟨j, id, po, true⟩ = true by unfold CT.inB; rw [HOF.out]; simp [bare_vid, h1, h2])
            have q1 : (po == port) = true := by simp [h1]
            have q2 : (y.vid == vid) = true := by simp [h2]
            have q3 : (po != port) = false := by simp [h1]
            have q4 : (y.vid != vid) = false := by simp [h2]
            clear h1 h2
            go_wp2_with fail
            go_region
            all_goals
              go_wp2_with fail
              go_roundw
              case rel =>
                refine ⟨k + 1, by omega, by go_num, hid ?_⟩
                rw [lset_take port vid false HX.out, lset_take port vid true HX.out, HF.out, HT.out, HOF.out]
                refine ⟨(((HR.out.1.setCell (p := ⟨b2, 1, Option.none⟩) (fun hb => absurd hb (by have := E2.out; simp only; omega)) _).alloc _).alloc _).drew, al2 (set_other HR.out.2.1 (by have := E1.out; have := E2.out; omega) _), ?_⟩
                have hw := al2 (o1 := .cells #[.int .i64 (j : Int), .int .u16 id, .int .u8 po, .bool true] 59 (0, 0)) (o2 := .cells #[.int .u8 y.lv, .string y.dom, .string y.own, .int .u16 y.vid, .int .u8 y.iv, .slice y.p y.ms.length y.c] 50 (0, 0)) (setCell_block HR.out.2.2 1 (.int .u8 (bor (τ.lset port vid true (τ.E.take k)) y.lv)))
                unfold bor at hw ⊢
                rw [pow_in hlv0 hlv7]
                exact hw
              case measure => simp only [intOf]; omega
          | false =>
            have HF := hid (show τ.inB port vid false ⟨j, id, po, false⟩ = true by unfold CT.inB; rw [HOF.out]; simp [bare_vid, h1, h2])
            have HT := hid (show τ.inB port vid true ⟨j, id, po, false⟩ = false by simp [CT.inB])
            have q1 : (po == port) = true := by simp [h1]
            have q2 : (y.vid == vid) = true := by simp [h2]
            have q3 : (po != port) = false := by simp [h1]
            have q4 : (y.vid != vid) = false := by simp [h2]
            clear h1 h2
            go_wp2_with fail
            go_region
            all_goals
              go_wp2_with fail
              go_roundw
              case rel =>
                refine ⟨k + 1, by omega, by go_num, hid ?_⟩
                rw [lset_take port vid false HX.out, lset_take port vid true HX.out, HF.out, HT.out, HOF.out]
                refine ⟨(((HR.out.1.setCell (p := ⟨b2, 0, Option.none⟩) (fun hb => absurd hb (by have := E2.out; simp only; omega)) _).alloc _).alloc _).drew, al2 (set_other HR.out.2.1 (by have := E1.out; have := E2.out; omega) _), ?_⟩
                have hw := al2 (o1 := .cells #[.int .i64 (j : Int), .int .u16 id, .int .u8 po, .bool false] 59 (0, 0)) (o2 := .cells #[.int .u8 y.lv, .string y.dom, .string y.own, .int .u16 y.vid, .int .u8 y.iv, .slice y.p y.ms.length y.c] 50 (0, 0)) (setCell_block HR.out.2.2 0 (.int .u8 (bor (τ.lset port vid false (τ.E.take k)) y.lv)))
                unfold bor at hw ⊢
                rw [pow_in hlv0 hlv7]
                exact hw
              case measure => simp only [intOf]; omega
        · have HF := hid (show τ.inB port vid false ⟨j, id, po, up⟩ = false by unfold CT.inB; rw [HOF.out]; simp [bare_vid, h2])
          have HT := hid (show τ.inB port vid true ⟨j, id, po, up⟩ = false by unfold CT.inB; rw [HOF.out]; simp [bare_vid, h2])
          have q1 : (po == port) = true := by simp [h1]
          have q2 : (y.vid == vid) = false := by simp [h2]
          have q3 : (po != port) = false := by simp [h1]
          have q4 : (y.vid != vid) = true := by simp [h2]
          clear h1 h2 hup
          go_wp2_with fail
          go_region
          all_goals
            go_wp2_with fail
            go_roundw
            case rel =>
              refine ⟨k + 1, by omega, by go_num, hid ?_⟩
              rw [lset_take port vid false HX.out, lset_take port vid true HX.out, HF.out, HT.out, HOF.out]
              exact ⟨((HR.out.1.alloc _).alloc _).drew, al2 HR.out.2.1, al2 HR.out.2.2⟩
            case measure => simp only [intOf]; omega
      · have HF := hid (show τ.inB port vid false ⟨j, id, po, up⟩ = false by simp [CT.inB, h1])
        have HT := hid (show τ.inB port vid true ⟨j, id, po, up⟩ = false by simp [CT.inB, h1])
        have q1 : (po == port) = false := by simp [h1]
        have q3 : (po != port) = true := by simp [h1]
        clear h1 hup
        go_wp2_with fail
        go_region
        all_goals
          go_wp2_with fail
          go_roundw
          case rel =>
            refine ⟨k + 1, by omega, by go_num, hid ?_⟩
            rw [lset_take port vid false HX.out, lset_take port vid true HX.out, HF.out, HT.out, HOF.out]
            exact ⟨((HR.out.1.alloc _).alloc _).drew, al2 HR.out.2.1, al2 HR.out.2.2⟩
          case measure => simp only [intOf]; omega
    · obtain rfl : k = τ.E.length := by omega
      obtain ⟨o0, o1, o2⟩ := three_block HR.out.2.2
      obtain ⟨r0, r1, r2⟩ := three_block HR.out.2.1
      have hf1 : ∀ q, wr.frozen? ⟨b1, q, Option.none⟩ = false := fun q => by simp [World.frozen?, HR.out.2.1]
      have hf2 : ∀ q, wr.frozen? ⟨b2, q, Option.none⟩ = false := fun q => by simp [World.frozen?, HR.out.2.2]
      have hlk := H2.out.map.look ⟨port, vid⟩ ⟨hpv.1, hpv.2⟩
      have hne : b2 ≠ b1 := by have := E1.out; have := E2.out; omega
      have hne' : b1 ≠ b2 := fun e => hne e.symm
      rw [List.take_length] at o0 o1
      have HT := hid (show τ.E.take τ.E.length = τ.E from List.take_length)
      cases hs : sget τ.M ⟨port, vid⟩ with
      | none =>
        have HM := hid (show τ.mid port vid = -1 by unfold CT.mid; rw [hs])
        rw [hs] at hlk
        clear hs
        go_wp2_with fail
        have hx := store_3 HR.out.2.1 (.int .u8 (τ.lset port vid false τ.E)) (.int .u8 (τ.lset port vid true τ.E)) (.int .i64 (-1))
        refine bodyPost_ret (ret_cell1 rfl Try.underlying56 (n := 3) (by kernel_rfl) _ _ b1 _ rfl hx rfl) rfl ?_
        rw [HM.out]
        have hn : ¬ b1 < w.heap.size := by have := E1.out; omega
        exact ⟨rfl, ((HR.out.1.setCell (p := ⟨b1, 0, Option.none⟩) (fun hb => absurd hb hn) _).setCell (p := ⟨b1, 1, Option.none⟩) (fun hb => absurd hb hn) _).setCell (p := ⟨b1, 2, Option.none⟩) (fun hb => absurd hb hn) _⟩
      | some l =>
        have HM := hid (show τ.mid port vid = l by unfold CT.mid; rw [hs])
        have hl := HG.out.lev _ _ hs
        have hl0 : 0 ≤ l := hl.1
        have hl7 : l ≤ 7 := hl.2
        rw [hs] at hlk
        clear hs hl
        go_wp2_with fail
        have hx := store_3 (set_other HR.out.2.1 (b' := b2) (i := 2) hne' (.int .i64 l)) (.int .u8 (τ.lset port vid false τ.E)) (.int .u8 (τ.lset port vid true τ.E)) (.int .i64 l)
        refine bodyPost_ret (ret_cell1 rfl Try.underlying56 (n := 3) (by kernel_rfl) _ _ b1 _ rfl hx rfl) rfl ?_
        rw [HM.out]
        have hn : ¬ b1 < w.heap.size := by have := E1.out; omega
        have hn2 : ¬ b2 < w.heap.size := by have := E2.out; omega
        exact ⟨rfl, (((HR.out.1.setCell (p := ⟨b2, 2, Option.none⟩) (fun hb => absurd hb hn2) _).setCell (p := ⟨b1, 0, Option.none⟩) (fun hb => absurd hb hn) _).setCell (p := ⟨b1, 1, Option.none⟩) (fun hb => absurd hb hn) _).setCell (p := ⟨b1, 2, Option.none⟩) (fun hb => absurd hb hn) _⟩
end Go.Proofs.Ytbgijlfdgfhceaa
