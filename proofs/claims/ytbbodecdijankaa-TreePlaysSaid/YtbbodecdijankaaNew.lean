/-
  Layer 9: a new machine. Conditions: the costs lie so.
-/
import Derived.Test.YtbbodecdijankaaChoose
import Derived.Test.YtbbodecdijankaaWord
namespace Go.Proofs.Ytbbodecdijankaa
open Go.RowKit
set_option linter.unusedVariables false
set_option linter.unusedSimpArgs false
set_option maxRecDepth 4000

def flatP (L : List Pt) : List Value := L.flatMap pcl
theorem flatP_snoc (L : List Pt) (x : Pt) : flatP (L ++ [x]) = flatP L ++ pcl x := by simp [flatP]
theorem flatP_len (L : List Pt) : (flatP L).length = L.length * 16 := by
  induction L with
  | nil => rfl
  | cons x L ih => simp only [flatP, List.flatMap_cons, List.length_append] at ih ⊢; rw [ih, pcl_len, List.length_cons]; omega
theorem flatP_get (L : List Pt) : ∀ (i q : Nat) (x : Pt), L[i]? = some x → q < 16 → (flatP L)[i * 16 + q]? = (pcl x)[q]? := by
  induction L with
  | nil => intro i q x h; simp at h
  | cons y L ih =>
    intro i q x h hq
    simp only [flatP, List.flatMap_cons]
    match i with
    | 0 =>
      simp at h; subst h
      rw [List.getElem?_append_left (by rw [pcl_len]; omega)]
      simp
    | i + 1 =>
      rw [List.getElem?_append_right (by rw [pcl_len]; omega), pcl_len, show (i + 1) * 16 + q - 16 = i * 16 + q from by omega]
      exact ih i q x (by simpa using h) hq
theorem row_of_flat {w : World} {B g n c : Nat} {L : List Pt} (h : w.ownsRow B 90 16 (.slice (some ⟨g, 0, Option.none⟩) n c) n (flatP L)) : Row w 90 g c L := by
  obtain ⟨hl, h⟩ := h
  rw [flatP_len] at hl
  rcases h with ⟨hv, _⟩ | ⟨g', cap, cur, hv, hB, hb, hle, hm, hs, ht⟩
  · injection hv with hv; cases hv
  · injection hv with h1 h2 h3
    injection h1 with h1
    injection h1 with h1
    subst h1 h3
    refine ⟨cur, hb, hs, hm, by omega, fun i x hx q v hv => ?_⟩
    have hq : q < 16 := by have := (List.getElem?_eq_some_iff.1 hv).1; simpa [pcl] using this
    have hi := (List.getElem?_eq_some_iff.1 hx).1
    have h2 := flatP_get L i q x hx hq
    rw [hv, ← ht, List.getElem?_take, if_pos (by omega)] at h2
    simpa using h2
theorem info90c : (Try.prog.info? 90).map (fun i => (i.zero, i.size, i.bytes)) = some (some (.agg #[.int .u32 0, .bool false, .int .u64 0, .int .u32 0, .int .u64 0, .int .u8 0, .int .u8 0, .int .u64 0, .int .u8 0, .bool false, .bool false, .bool false, .int .u64 0, .int .i64 0, .bool false, .int .i64 0]), 16, 96) := by kernel_rfl
theorem blk8 {w : World} {b : Nat} {v0 v1 v2 v3 v4 v5 v6 v7 : Value} {T : TypeId} {fz : Nat × Nat} (h : w.heap[b]? = some (.cells #[v0, v1, v2, v3, v4, v5, v6, v7] T fz)) :
    w.cell? ⟨b, 0, Option.none⟩ = some v0 ∧ w.cell? ⟨b, 1, Option.none⟩ = some v1 ∧ w.cell? ⟨b, 2, Option.none⟩ = some v2 := by
  simp [World.cell?, h]
def newP (cst : Int) : Pt := ⟨cst, false, Bp.zero, 0, false, 0⟩
def mayC (L : List Int) : Prop := 0 < L.length ∧ L.length ≤ 8 ∧ ∀ x ∈ L, x ≤ 65535
/-- What New answers. -/
def NewIs (id : Int) (L : List Int) (w : World) (e : Ending) (w' : World) : Prop := ∃ m g c, e = .returned (.tuple #[.pointer (some ⟨m, 0, Option.none⟩), .int .i64 0]) ∧ w.heap.size ≤ m ∧ w.heap.size ≤ g ∧ Mach w' m g c (TM.start id L)
set_option maxHeartbeats 8000000 in
theorem new_any (id : Int) (pa : Option Addr) (n ca : Nat) (L : List Int) (w : World) (h : WV w 0 1 pa n ca (L.map (Value.int .u32))) (hm : mayC L) :
    Calls Try.prog 8 #[.int .u64 id, .slice pa n ca] w fun e w' => NewIs id L w e w' ∧ Keeps Nil w w' := by
  obtain ⟨i0, hi, hz0, hz1, hz2⟩ := info_parts info90c
  have HI := hid (And.intro hi (And.intro hz0 (And.intro hz1 hz2)))
  have hln : L.length = n := by have := h.1; simpa using this
  have h1 := hm.1
  have h8 := hm.2.1
  have hnc := h.2.1
  have H := hid h
  have HMX := hid hm
  have HLN := hid hln
  rw [hln] at h1 h8
  clear hi hz0 hz1 hz2 h hm hln
  go_enter Try.func8, Try.ntmps8
  go_upto_region 4 with (fail)
  have hb := alloc_block w (.cells #[.int .u64 id, .slice Option.none 0 0, .int .u64 id, .int .u32 0, .int .i64 (-1), .int .u8 0, .int .u64 1, .int .u8 0] 88 (0, 0))
  have k0 : Keeps Nil w (w.alloc (.cells #[.int .u64 id, .slice Option.none 0 0, .int .u64 id, .int .u32 0, .int .i64 (-1), .int .u8 0, .int .u64 1, .int .u8 0] 88 (0, 0))) := (Keeps.refl _ _).alloc _
  have hsz := (show (w.alloc (.cells #[.int .u64 id, .slice Option.none 0 0, .int .u64 id, .int .u32 0, .int .i64 (-1), .int .u8 0, .int .u64 1, .int .u8 0] 88 (0, 0))).heap.size = w.heap.size + 1 by simp)
  generalize (w.alloc (.cells #[.int .u64 id, .slice Option.none 0 0, .int .u64 id, .int .u32 0, .int .i64 (-1), .int .u8 0, .int .u64 1, .int .u8 0] 88 (0, 0))) = w1 at *
  obtain ⟨m, hmm⟩ : ∃ m, w.heap.size = m := ⟨_, rfl⟩
  rw [hmm] at hb hsz ⊢
  have HMM := hid hmm
  have HB := hid hb
  have HSZ := hid hsz
  have K0 := hid k0
  clear hmm hb hsz k0
  go_wp2_with fail
  go_loopw [24] (fun s24 wr => ∃ k : Nat, k ≤ n ∧ s24 = .int .i64 k ∧ Hid (∃ p c', wr.heap[m]? = some (.cells #[.int .u64 id, .slice p k c', .int .u64 id, .int .u32 0, .int .i64 (-1), .int .u8 0, .int .u64 1, .int .u8 0] 88 (0, 0)) ∧ wr.ownsRow (m + 1) 90 16 (.slice p k c') k (flatP ((L.take k).map newP)) ∧ Keeps Nil w wr)) (fun s24 _ => n - (intOf s24).toNat)
  case atStart => exact ⟨0, Nat.zero_le _, rfl, hid ⟨Option.none, 0, HB.out, World.ownsRow_nil _ _ _ _, K0.out⟩⟩
  case round =>
    obtain ⟨k, hk, rfl, HR⟩ := hrel
    obtain ⟨p, c', hb, hown, kk⟩ := HR.out
    by_cases hlt : k < n
    · obtain ⟨cst, hx⟩ : ∃ cst, L[k]? = some cst := ⟨_, List.getElem?_eq_getElem (by have := HLN.out; omega)⟩
      have hc := HMX.out.2.2 cst (List.mem_of_getElem? hx)
      have hd : decide (65535 < cst) = false := by simp; omega
      obtain ⟨ga, oa, rfl, _, hga, hcell⟩ := (H.out.keepN kk).2.2 (by omega)
      have hck := hcell k (.int .u32 cst) (by simp [hx])
      obtain ⟨_, n1, _⟩ := blk8 hb
      have nf1 : wr.frozen? ⟨m, 1, Option.none⟩ = false := by simp [World.frozen?, hb]
      have hml := lt_of_block hb
      have HBR := hid hb
      have HOW := hid hown
      have KK := hid kk
      have HX := hid hx
      clear hb hown kk hx hcell
      have kA : Keeps Nil wr (wr.alloc (.cells #[.int .u32 cst, .bool false, .int .u64 0, .int .u32 0, .int .u64 0, .int .u8 0, .int .u8 0, .int .u64 0, .int .u8 0, .bool false, .bool false, .bool false, .int .u64 0, .int .i64 0, .bool false, .int .i64 0] 90 (0, 0))) := (Keeps.refl _ _).alloc _
      have hbA := (kA.block _ (lt_of_block HBR.out) (fun e => e)).trans HBR.out
      have HBA := hid hbA
      have OWA := hid (ownsRow_keep HOW.out kA (fun _ _ e => e))
      have KA := hid (KK.out.trans kA)
      have hms := KA.out.size
      have hlm := lt_of_block hbA
      have hws : w.heap.size = m := HMM.out
      have HMS := hid (show m + 1 ≤ (wr.alloc (.cells #[.int .u32 cst, .bool false, .int .u64 0, .int .u32 0, .int .u64 0, .int .u8 0, .int .u8 0, .int .u64 0, .int .u8 0, .bool false, .bool false, .bool false, .int .u64 0, .int .i64 0, .bool false, .int .i64 0] 90 (0, 0))).heap.size by omega)
      clear kA hbA hms hlm hws
      go_wp2_with (at_builtin; refine wpList_append_wv (o := ⟨some 38, _, _, _, _, _⟩) _ rfl _ _ 86 rfl (m + 1) 90 i0 (.agg #[.int .u32 0, .bool false, .int .u64 0, .int .u32 0, .int .u64 0, .int .u8 0, .int .u8 0, .int .u64 0, .int .u8 0, .bool false, .bool false, .bool false, .int .u64 0, .int .i64 0, .bool false, .int .i64 0]) 16 96 Try.underlying86 HI.out.1 HI.out.2.1 HI.out.2.2.1 HI.out.2.2.2 rfl (by decide) (.slice p k c') k (flatP ((L.take k).map newP)) rfl OWA.out 0 (some ⟨wr.heap.size, 0, Option.none⟩) 1 1 (#[.int .u32 cst, .bool false, .int .u64 0, .int .u32 0, .int .u64 0, .int .u8 0, .int .u8 0, .int .u64 0, .int .u8 0, .bool false, .bool false, .bool false, .int .u64 0, .int .i64 0, .bool false, .int .i64 0] : Array Value).toList rfl (WV.new wr #[.int .u32 cst, .bool false, .int .u64 0, .int .u32 0, .int .u64 0, .int .u8 0, .int .u8 0, .int .u64 0, .int .u8 0, .bool false, .bool false, .bool false, .int .u64 0, .int .i64 0, .bool false, .int .i64 0] 90 16 rfl) (by simp [Value.oneCell']) (by unfold maxLen; omega) (by omega) HMS.out ?_; intro v1 w4 own1 hg1 hat1; have hb4 := (hg1.block m (lt_of_block HBA.out) (fun e => by have := own_ge OWA.out e.symm; omega)).trans HBA.out; have k4 := KA.out.grown hg1 (fun g hg hlt => by have := own_ge OWA.out hg; have := HMM.out; omega); obtain ⟨_, n14, _⟩ := blk8 hb4; have nf14 : w4.frozen? ⟨m, 1, Option.none⟩ = false := (by simp [World.frozen?, hb4]); obtain ⟨p1, c1, hv1⟩ := own_shape own1; subst hv1; have HB4 := hid hb4; have K4 := hid k4; clear hb4 k4 hg1 hat1)
      go_roundw
      case rel =>
        refine ⟨k + 1, by omega, by go_num, hid ⟨p1, c1, ?_, ?_, ?_⟩⟩
        · exact setCell_block HB4.out 1 _
        · have e : (L.take (k + 1)).map newP = (L.take k).map newP ++ [newP cst] := by
            have hl := (List.getElem?_eq_some_iff.1 HX.out).1
            have e : L[k] = cst := by have := HX.out; rw [List.getElem?_eq_getElem hl] at this; exact Option.some.inj this
            rw [List.take_succ_eq_append_getElem hl, List.map_append, e]; rfl
          rw [e, flatP_snoc]
          exact ownsRow_keep own1 ((Keeps.refl (At m) w4).set m 1 (at_self m) _) (fun g hg e => by rw [At] at e; omega)
        · exact K4.out.thenAt ((Keeps.refl (At m) w4).set m 1 (at_self m) _) (Nat.le_of_eq HMM.out)
      case measure => simp only [intOf]; omega
    · obtain rfl : k = n := by omega
      have e : (L.take k).map newP = (TM.start id L).P := by rw [List.take_of_length_le (by rw [HLN.out]; omega)]; rfl
      rw [e] at hown
      rcases hown.2 with ⟨_, hz⟩ | ⟨g, cap, cur, hv, hB, _⟩
      · omega
      · injection hv with e1 e2 e3
        subst e1
        have hrow := row_of_flat hown
        have hmach : Mach wr m g c' (TM.start id L) := ⟨by rw [hb]; simp [hcl, TM.start, HLN.out], hrow⟩
        have HMC := hid hmach
        have KK := hid kk
        have hwm := HMM.out
        have HW := hid (show w.heap.size ≤ m ∧ w.heap.size ≤ g by omega)
        clear hb hown kk hrow hmach hwm e
        go_wp2_with fail
        go_ret2
        exact ⟨⟨m, g, c', rfl, HW.out.1, HW.out.2, HMC.out⟩, KK.out⟩
end Go.Proofs.Ytbbodecdijankaa
