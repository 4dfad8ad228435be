/-
  Layer 9: the document's new machine. Conditions: the costs lie so.
-/
import Derived.Test.YtbbodecdijankaaRMay
import Derived.Deep.RegionLaw
namespace Go.Proofs.Ytbbodecdijankaa
open Go.RowKit
set_option linter.unusedVariables false
set_option linter.unusedSimpArgs false
set_option maxRecDepth 8000

theorem info92c : (Try.prog.info? 92).map (fun i => (i.zero, i.size, i.bytes)) = some (some (.agg #[.int .u32 0, .bool false, .int .u64 0, .int .u32 0, .int .u64 0, .int .u8 0, .int .u8 0, .int .u64 0, .int .u8 0, .bool false, .bool false, .bool false, .int .u64 0, .int .i64 0, .bool false, .int .i64 0]), 16, 96) := by kernel_rfl
theorem row_of_flat2 {w : World} {B g n c : Nat} {L : List Pt} (h : w.ownsRow B 92 16 (.slice (some ⟨g, 0, Option.none⟩) n c) n (flatP L)) : Row w 92 g c L := by
  obtain ⟨hl, h⟩ := h
  rw [flatP_len] at hl
  rcases h with ⟨hv, _⟩ | ⟨g', cap, cur, hv, hB, hb, hle, hm, hs, ht⟩
  · injection hv with hv; cases hv
  · injection hv with h1 h2 h3
    injection h1 with h1
    injection h1 with h1
    subst h1 h3
    refine ⟨cur, hb, hs, hm, by omega, fun i x hx q v hv => ?_⟩
    have hq : q < 16 := by have := (List.getElem?_eq_some_iff.1 hv).1; simpa [pcl] using this
    have hi := (List.getElem?_eq_some_iff.1 hx).1
    have h2 := flatP_get L i q x hx hq
    rw [hv, ← ht, List.getElem?_take, if_pos (by omega)] at h2
    simpa using h2
def RNewIs (id : Int) (L : List Int) (w : World) (e : Ending) (w' : World) : Prop := ∃ m g c f, e = .returned (.pointer (some ⟨m, 0, Option.none⟩)) ∧ w.heap.size ≤ m ∧ w.heap.size ≤ g ∧ w.heap.size ≤ f ∧ RMach w' m g c f (TM.start id L)
set_option maxHeartbeats 16000000 in
theorem rnew_any (id : Int) (pa : Option Addr) (n ca : Nat) (L : List Int) (w : World) (h : WV w 0 1 pa n ca (L.map (Value.int .u32))) (hm : mayC L) :
    Calls Try.prog 10 #[.int .u64 id, .slice pa n ca] w fun e w' => RNewIs id L w e w' ∧ Keeps Nil w w' := by
  obtain ⟨i0, hi, hz0, hz1, hz2⟩ := info_parts info92c
  have HI := hid (And.intro hi (And.intro hz0 (And.intro hz1 hz2)))
  have hln : L.length = n := by have := h.1; simpa using this
  have h1 := hm.1
  have h8 := hm.2.1
  have hnc := h.2.1
  have H := hid h
  have HMX := hid hm
  have HLN := hid hln
  rw [hln] at h1 h8
  have MK := make48 n h8
  clear hi hz0 hz1 hz2 h hm hln
  go_enter Try.func10, Try.ntmps10
  go_upto_region 2 with (fail)
  obtain ⟨hA, hB⟩ := two_allocs w (.cells (Array.replicate n (Value.bool false)) 4 (0, 0)) (.cells #[.int .u64 id, .slice Option.none 0 0, .int .u64 id, .int .u32 0, .int .i64 (-1), .int .u8 0, .int .u64 1, .slice (some ⟨w.heap.size, 0, Option.none⟩) n n] 50 (0, 0))
  have k0 : Keeps Nil w ((w.alloc (.cells (Array.replicate n (Value.bool false)) 4 (0, 0))).alloc (.cells #[.int .u64 id, .slice Option.none 0 0, .int .u64 id, .int .u32 0, .int .i64 (-1), .int .u8 0, .int .u64 1, .slice (some ⟨w.heap.size, 0, Option.none⟩) n n] 50 (0, 0))) := ((Keeps.refl _ _).alloc _).alloc _
  have hsz : ((w.alloc (.cells (Array.replicate n (Value.bool false)) 4 (0, 0))).alloc (.cells #[.int .u64 id, .slice Option.none 0 0, .int .u64 id, .int .u32 0, .int .i64 (-1), .int .u8 0, .int .u64 1, .slice (some ⟨w.heap.size, 0, Option.none⟩) n n] 50 (0, 0))).heap.size = w.heap.size + 2 := by simp
  generalize ((w.alloc (.cells (Array.replicate n (Value.bool false)) 4 (0, 0))).alloc (.cells #[.int .u64 id, .slice Option.none 0 0, .int .u64 id, .int .u32 0, .int .i64 (-1), .int .u8 0, .int .u64 1, .slice (some ⟨w.heap.size, 0, Option.none⟩) n n] 50 (0, 0))) = w1 at *
  obtain ⟨b0, hb0⟩ : ∃ b0, w.heap.size = b0 := ⟨_, rfl⟩
  rw [hb0] at hA hB hsz ⊢
  obtain ⟨m, hmm⟩ : ∃ m, b0 + 1 = m := ⟨_, rfl⟩
  rw [hmm] at hB ⊢
  have HE := hid (And.intro hb0 hmm)
  have HA := hid hA
  have HB := hid hB
  have K0 := hid k0
  have HSZ := hid (show w1.heap.size = m + 1 by omega)
  clear hA hB k0 hsz hb0 hmm MK
  go_wp2_with fail
  go_loopw [6] (fun s6 wr => ∃ k : Nat, k ≤ n ∧ s6 = .int .i64 k ∧ Hid (∃ p c', wr.heap[m]? = some (.cells #[.int .u64 id, .slice p k c', .int .u64 id, .int .u32 0, .int .i64 (-1), .int .u8 0, .int .u64 1, .slice (some ⟨b0, 0, Option.none⟩) n n] 50 (0, 0)) ∧ wr.ownsRow (m + 1) 92 16 (.slice p k c') k (flatP ((L.take k).map newP)) ∧ Keeps (At m) w1 wr)) (fun s6 _ => n - (intOf s6).toNat)
  case atStart => exact ⟨0, Nat.zero_le _, rfl, hid ⟨Option.none, 0, HB.out, World.ownsRow_nil _ _ _ _, Keeps.refl _ _⟩⟩
  case round =>
    obtain ⟨k, hk, rfl, HR⟩ := hrel
    obtain ⟨p, c', hb, hown, kk⟩ := HR.out
    by_cases hlt : k < n
    · obtain ⟨cst, hx⟩ : ∃ cst, L[k]? = some cst := ⟨_, List.getElem?_eq_getElem (by have := HLN.out; omega)⟩
      have kw : Keeps (At m) w wr := K0.out.ofNil.trans kk
      obtain ⟨ga, oa, rfl, _, hga, hcell⟩ := (H.out.keep kw (fun q _ hq e => by rw [At] at e; have := HE.out; omega)).2.2 (by omega)
      have hck := hcell k (.int .u32 cst) (by simp [hx])
      have n1 : wr.cell? ⟨m, 1, Option.none⟩ = some (.slice p k c') := by simp [World.cell?, hb]
      have nf1 : wr.frozen? ⟨m, 1, Option.none⟩ = false := by simp [World.frozen?, hb]
      have hml := lt_of_block hb
      have HBR := hid hb
      have HOW := hid hown
      have KK := hid kk
      have HX := hid hx
      have hmsz : m + 1 ≤ wr.heap.size := by omega
      clear hb hown kk hx hcell kw
      go_wp2_with fail
      go_region_law ((refine step_append_wv (o := ⟨some 31, _, _, _, _, _⟩) _ (by rfl) _ _ 47 (by rfl) (m + 1) 92 i0 (.agg #[.int .u32 0, .bool false, .int .u64 0, .int .u32 0, .int .u64 0, .int .u8 0, .int .u8 0, .int .u64 0, .int .u8 0, .bool false, .bool false, .bool false, .int .u64 0, .int .i64 0, .bool false, .int .i64 0]) 16 96 Try.underlying47 HI.out.1 HI.out.2.1 HI.out.2.2.1 HI.out.2.2.2 rfl (by decide) (.slice p k c') k (flatP ((L.take k).map newP)) (by rfl) (ownsRow_keep HOW.out (by first | exact (Keeps.refl Nil wr).alloc _ | exact ((Keeps.refl Nil wr).alloc _).drew | exact ((Keeps.refl Nil wr).drew).alloc _ | exact ((Keeps.refl Nil wr).drew.alloc _).drew) (fun _ _ h => h)) 0 (some ⟨wr.heap.size, 0, Option.none⟩) 1 1 (#[.int .u32 cst, .bool false, .int .u64 0, .int .u32 0, .int .u64 0, .int .u8 0, .int .u8 0, .int .u64 0, .int .u8 0, .bool false, .bool false, .bool false, .int .u64 0, .int .i64 0, .bool false, .int .i64 0] : Array Value).toList (by rfl) (by first | exact WV.new wr #[.int .u32 cst, .bool false, .int .u64 0, .int .u32 0, .int .u64 0, .int .u8 0, .int .u8 0, .int .u64 0, .int .u8 0, .bool false, .bool false, .bool false, .int .u64 0, .int .i64 0, .bool false, .int .i64 0] 92 16 rfl | exact WV.new wr.drew #[.int .u32 cst, .bool false, .int .u64 0, .int .u32 0, .int .u64 0, .int .u8 0, .int .u8 0, .int .u64 0, .int .u8 0, .bool false, .bool false, .bool false, .int .u64 0, .int .i64 0, .bool false, .int .i64 0] 92 16 rfl | exact (WV.new wr #[.int .u32 cst, .bool false, .int .u64 0, .int .u32 0, .int .u64 0, .int .u8 0, .int .u8 0, .int .u64 0, .int .u8 0, .bool false, .bool false, .bool false, .int .u64 0, .int .i64 0, .bool false, .int .i64 0] 92 16 rfl).keepN (Keeps.refl Nil _).drew | exact (WV.new wr.drew #[.int .u32 cst, .bool false, .int .u64 0, .int .u32 0, .int .u64 0, .int .u8 0, .int .u8 0, .int .u64 0, .int .u8 0, .bool false, .bool false, .bool false, .int .u64 0, .int .i64 0, .bool false, .int .i64 0] 92 16 rfl).keepN (Keeps.refl Nil _).drew) (by simp [Value.oneCell']) (by unfold maxLen; omega) (by omega) (by simp; omega) ?_; intro v1 w4 own1 hg1 hat1; have kw4 := hid (Keeps.grown (a := wr) (by first | exact (Keeps.refl (fun q => (Value.slice p k c').ownBlock = some q) wr).alloc _ | exact ((Keeps.refl (fun q => (Value.slice p k c').ownBlock = some q) wr).alloc _).drew | exact ((Keeps.refl (fun q => (Value.slice p k c').ownBlock = some q) wr).drew).alloc _ | exact ((Keeps.refl (fun q => (Value.slice p k c').ownBlock = some q) wr).drew.alloc _).drew) hg1 (fun q hq _ => hq)); have hb4 := (kw4.out.block m (lt_of_block HBR.out) (fun e => by have := own_ge HOW.out e; omega)).trans HBR.out; obtain ⟨p1, c1, hv1⟩ := own_shape own1; subst hv1; have HB4 := hid hb4; have OW4 := hid own1; have n14 : w4.cell? ⟨m, 1, Option.none⟩ = some (.slice p k c') := (by simp [World.cell?, hb4]); have nf14 : w4.frozen? ⟨m, 1, Option.none⟩ = false := (by simp [World.frozen?, hb4]); have hml4 := lt_of_block hb4; clear hb4 own1 hg1 hat1))
      all_goals
        go_wp2_with fail
        go_roundw
        case rel =>
          refine ⟨k + 1, by omega, by go_num, hid ⟨p1, c1, ?_, ?_, ?_⟩⟩
          · have := setCell_block HB4.out 1 (.slice p1 (k + 1) c1)
            exact this
          · have e : (L.take (k + 1)).map newP = (L.take k).map newP ++ [newP cst] := by
              have hl := (List.getElem?_eq_some_iff.1 HX.out).1
              have e : L[k] = cst := by have := HX.out; rw [List.getElem?_eq_getElem hl] at this; exact Option.some.inj this
              rw [List.take_succ_eq_append_getElem hl, List.map_append, e]; rfl
            rw [e, flatP_snoc]
            first
              | exact ownsRow_keep OW4.out ((Keeps.refl (At m) w4).set m 1 (at_self m) (.slice p1 (k + 1) c1)) (fun g hg e => by rw [At] at e; omega)
              | exact ownsRow_keep OW4.out ((Keeps.refl (At m) w4).set m 1 (at_self m) (.slice p1 (k + 1) c1)).drew (fun g hg e => by rw [At] at e; omega)
          · first
              | exact ((KK.out.trans' kw4.out (fun q hq e => by have := own_ge HOW.out e; have := HSZ.out; omega)).set m 1 (at_self m) _)
              | exact ((KK.out.trans' kw4.out (fun q hq e => by have := own_ge HOW.out e; have := HSZ.out; omega)).set m 1 (at_self m) _).drew
        case measure => simp only [intOf]; omega
    · obtain rfl : k = n := by omega
      have e : (L.take k).map newP = (TM.start id L).P := by rw [List.take_of_length_le (by rw [HLN.out]; omega)]; rfl
      rw [e] at hown
      rcases hown.2 with ⟨_, hz⟩ | ⟨g, cap, cur, hv, hB, _⟩
      · omega
      · injection hv with e1 e2 e3
        subst e1
        have hrow := row_of_flat2 hown
        have hfb := (kk.block b0 (by have := HE.out; have := HSZ.out; omega) (fun e => by rw [At] at e; have := HE.out; omega)).trans HA.out
        have hmach : RMach wr m g c' b0 (TM.start id L) := ⟨by rw [hb]; simp [rcl, TM.start, HLN.out], hrow, ⟨List.replicate k false, by simp [TM.start, HLN.out], by rw [hfb]; simp, setOf_none _⟩⟩
        have HMC := hid hmach
        have KK := hid kk
        have HW := hid (show w.heap.size ≤ m ∧ w.heap.size ≤ g ∧ w.heap.size ≤ b0 by have := HE.out; omega)
        clear hb hown kk hrow hmach e hfb
        go_wp2_with fail
        go_ret
        exact ⟨⟨m, g, c', b0, rfl, HW.out.1, HW.out.2.1, HW.out.2.2, HMC.out⟩, K0.out.thenAt KK.out HW.out.1⟩
end Go.Proofs.Ytbbodecdijankaa
