/-
  Layer 9: no machine of such ports. Conditions: the costs lie so.
-/
import Derived.Test.YtbbodecdijankaaNew
import Derived.BigGuard
namespace Go.Proofs.Ytbbodecdijankaa
open Go.RowKit
set_option linter.unusedVariables false
set_option linter.unusedSimpArgs false
set_option maxRecDepth 4000

set_option maxHeartbeats 1000000 in
theorem new_len (id : Int) (pa : Option Addr) (n ca : Nat) (w : World) (hn : n < 1 ∨ 8 < n) (hm : n ≤ 9223372036854775807) :
    Calls Try.prog 8 #[.int .u64 id, .slice pa n ca] w fun e w' => e = .returned (.tuple #[.pointer Option.none, .int .i64 2]) ∧ Keeps Nil w w' := by
  rcases hn with hn | hn
  · have d1 : decide ((n : Int) < 1) = true := by simp; omega
    go_enter Try.func8, Try.ntmps8
    go_wp2_with fail
    go_ret2
    exact ⟨rfl, Keeps.refl _ _⟩
  · have d1 : decide ((n : Int) < 1) = false := by simp; omega
    have d2 : decide ((8 : Int) < (n : Int)) = true := by simp; omega
    go_enter Try.func8, Try.ntmps8
    go_wp2_with fail
    go_ret2
    exact ⟨rfl, Keeps.refl _ _⟩
set_option maxHeartbeats 8000000 in
theorem new_bad (id : Int) (pa : Option Addr) (n ca : Nat) (L : List Int) (w : World) (h : WV w 0 1 pa n ca (L.map (Value.int .u32))) (h1 : 1 ≤ n) (h8 : n ≤ 8) (hm : ¬ ∀ x ∈ L, x ≤ 65535) :
    Calls Try.prog 8 #[.int .u64 id, .slice pa n ca] w fun e w' => e = .returned (.tuple #[.pointer Option.none, .int .i64 2]) ∧ Keeps Nil w w' := by
  obtain ⟨i0, hi, hz0, hz1, hz2⟩ := info_parts info90c
  have HI := hid (And.intro hi (And.intro hz0 (And.intro hz1 hz2)))
  have hln : L.length = n := by have := h.1; simpa using this
  have hnc := h.2.1
  have H := hid h
  have HMX := hid hm
  have HLN := hid hln
  clear hi hz0 hz1 hz2 h hm hln
  go_enter Try.func8, Try.ntmps8
  go_upto_region 4 with (fail)
  have hb := alloc_block w (.cells #[.int .u64 id, .slice Option.none 0 0, .int .u64 id, .int .u32 0, .int .i64 (-1), .int .u8 0, .int .u64 1, .int .u8 0] 88 (0, 0))
  have k0 : Keeps Nil w (w.alloc (.cells #[.int .u64 id, .slice Option.none 0 0, .int .u64 id, .int .u32 0, .int .i64 (-1), .int .u8 0, .int .u64 1, .int .u8 0] 88 (0, 0))) := (Keeps.refl _ _).alloc _
  have hsz := (show (w.alloc (.cells #[.int .u64 id, .slice Option.none 0 0, .int .u64 id, .int .u32 0, .int .i64 (-1), .int .u8 0, .int .u64 1, .int .u8 0] 88 (0, 0))).heap.size = w.heap.size + 1 by simp)
  generalize (w.alloc (.cells #[.int .u64 id, .slice Option.none 0 0, .int .u64 id, .int .u32 0, .int .i64 (-1), .int .u8 0, .int .u64 1, .int .u8 0] 88 (0, 0))) = w1 at *
  obtain ⟨m, hmm⟩ : ∃ m, w.heap.size = m := ⟨_, rfl⟩
  rw [hmm] at hb hsz ⊢
  have HMM := hid hmm
  have HB := hid hb
  have HSZ := hid hsz
  have K0 := hid k0
  clear hmm hb hsz k0
  go_wp2_with fail
  go_loopw [24] (fun s24 wr => ∃ k : Nat, k ≤ n ∧ s24 = .int .i64 k ∧ Hid (∃ p c', wr.heap[m]? = some (.cells #[.int .u64 id, .slice p k c', .int .u64 id, .int .u32 0, .int .i64 (-1), .int .u8 0, .int .u64 1, .int .u8 0] 88 (0, 0)) ∧ wr.ownsRow (m + 1) 90 16 (.slice p k c') k (flatP ((L.take k).map newP)) ∧ Keeps Nil w wr ∧ ∀ x ∈ L.take k, x ≤ 65535)) (fun s24 _ => n - (intOf s24).toNat)
  case atStart => exact ⟨0, Nat.zero_le _, rfl, hid ⟨Option.none, 0, HB.out, World.ownsRow_nil _ _ _ _, K0.out, by simp⟩⟩
  case round =>
    obtain ⟨k, hk, rfl, HR⟩ := hrel
    obtain ⟨p, c', hb, hown, kk, hall⟩ := HR.out
    have HALL := hid hall
    clear hall
    by_cases hlt : k < n
    · obtain ⟨cst, hx⟩ : ∃ cst, L[k]? = some cst := ⟨_, List.getElem?_eq_getElem (by have := HLN.out; omega)⟩
      obtain ⟨ga, oa, rfl, _, hga, hcell⟩ := (H.out.keepN kk).2.2 (by omega)
      have hck := hcell k (.int .u32 cst) (by simp [hx])
      obtain ⟨_, n1, _⟩ := blk8 hb
      have nf1 : wr.frozen? ⟨m, 1, Option.none⟩ = false := by simp [World.frozen?, hb]
      have hml := lt_of_block hb
      have HBR := hid hb
      have HOW := hid hown
      have KK := hid kk
      have HX := hid hx
      clear hb hown kk hx hcell
      by_cases hbad : 65535 < cst
      · have hd : decide (65535 < cst) = true := by simp [hbad]
        go_wp2_with fail
        go_ret2
        exact ⟨rfl, KK.out⟩
      have hd : decide (65535 < cst) = false := by simp; omega
      have HC := hid (show cst ≤ 65535 by omega)
      clear hbad
      have kA : Keeps Nil wr (wr.alloc (.cells #[.int .u32 cst, .bool false, .int .u64 0, .int .u32 0, .int .u64 0, .int .u8 0, .int .u8 0, .int .u64 0, .int .u8 0, .bool false, .bool false, .bool false, .int .u64 0, .int .i64 0, .bool false, .int .i64 0] 90 (0, 0))) := (Keeps.refl _ _).alloc _
      have hbA := (kA.block _ (lt_of_block HBR.out) (fun e => e)).trans HBR.out
      have HBA := hid hbA
      have OWA := hid (ownsRow_keep HOW.out kA (fun _ _ e => e))
      have KA := hid (KK.out.trans kA)
      have hms := KA.out.size
      have hlm := lt_of_block hbA
      have hws : w.heap.size = m := HMM.out
      have HMS := hid (show m + 1 ≤ (wr.alloc (.cells #[.int .u32 cst, .bool false, .int .u64 0, .int .u32 0, .int .u64 0, .int .u8 0, .int .u8 0, .int .u64 0, .int .u8 0, .bool false, .bool false, .bool false, .int .u64 0, .int .i64 0, .bool false, .int .i64 0] 90 (0, 0))).heap.size by omega)
      clear kA hbA hms hlm hws
      go_wp2_with (at_builtin; refine wpList_append_wv (o := ⟨some 38, _, _, _, _, _⟩) _ rfl _ _ 86 rfl (m + 1) 90 i0 (.agg #[.int .u32 0, .bool false, .int .u64 0, .int .u32 0, .int .u64 0, .int .u8 0, .int .u8 0, .int .u64 0, .int .u8 0, .bool false, .bool false, .bool false, .int .u64 0, .int .i64 0, .bool false, .int .i64 0]) 16 96 Try.underlying86 HI.out.1 HI.out.2.1 HI.out.2.2.1 HI.out.2.2.2 rfl (by decide) (.slice p k c') k (flatP ((L.take k).map newP)) rfl OWA.out 0 (some ⟨wr.heap.size, 0, Option.none⟩) 1 1 (#[.int .u32 cst, .bool false, .int .u64 0, .int .u32 0, .int .u64 0, .int .u8 0, .int .u8 0, .int .u64 0, .int .u8 0, .bool false, .bool false, .bool false, .int .u64 0, .int .i64 0, .bool false, .int .i64 0] : Array Value).toList rfl (WV.new wr #[.int .u32 cst, .bool false, .int .u64 0, .int .u32 0, .int .u64 0, .int .u8 0, .int .u8 0, .int .u64 0, .int .u8 0, .bool false, .bool false, .bool false, .int .u64 0, .int .i64 0, .bool false, .int .i64 0] 90 16 rfl) (by simp [Value.oneCell']) (by unfold maxLen; omega) (by omega) HMS.out ?_; intro v1 w4 own1 hg1 hat1; have hb4 := (hg1.block m (lt_of_block HBA.out) (fun e => by have := own_ge OWA.out e.symm; omega)).trans HBA.out; have k4 := KA.out.grown hg1 (fun g hg hlt => by have := own_ge OWA.out hg; have := HMM.out; omega); obtain ⟨_, n14, _⟩ := blk8 hb4; have nf14 : w4.frozen? ⟨m, 1, Option.none⟩ = false := (by simp [World.frozen?, hb4]); obtain ⟨p1, c1, hv1⟩ := own_shape own1; subst hv1; have HB4 := hid hb4; have K4 := hid k4; clear hb4 k4 hg1 hat1)
      go_roundw
      case rel =>
        refine ⟨k + 1, by omega, by go_num, hid ⟨p1, c1, ?_, ?_, ?_, ?_⟩⟩
        · exact setCell_block HB4.out 1 _
        · have e : (L.take (k + 1)).map newP = (L.take k).map newP ++ [newP cst] := by
            have hl := (List.getElem?_eq_some_iff.1 HX.out).1
            have e : L[k] = cst := by have := HX.out; rw [List.getElem?_eq_getElem hl] at this; exact Option.some.inj this
            rw [List.take_succ_eq_append_getElem hl, List.map_append, e]; rfl
          rw [e, flatP_snoc]
          exact ownsRow_keep own1 ((Keeps.refl (At m) w4).set m 1 (at_self m) _) (fun g hg e => by rw [At] at e; omega)
        · exact K4.out.thenAt ((Keeps.refl (At m) w4).set m 1 (at_self m) _) (Nat.le_of_eq HMM.out)
        · intro x hx
          have hl := (List.getElem?_eq_some_iff.1 HX.out).1
          have e : L[k] = cst := by have := HX.out; rw [List.getElem?_eq_getElem hl] at this; exact Option.some.inj this
          rw [List.take_succ_eq_append_getElem hl, e, List.mem_append] at hx
          rcases hx with hx | hx
          · exact HALL.out x hx
          · rw [List.mem_singleton.1 hx]; exact HC.out
      case measure => simp only [intOf]; omega
    · exfalso
      obtain rfl : k = n := by omega
      refine HMX.out (fun x hx => HALL.out x ?_)
      rw [List.take_of_length_le (by rw [HLN.out]; omega)]
      exact hx
/-- None, where none may be. -/
theorem new_no (id : Int) (pa : Option Addr) (n ca : Nat) (L : List Int) (w : World) (h : WV w 0 1 pa n ca (L.map (Value.int .u32))) (hm : ¬ mayC L) (hn : n ≤ 9223372036854775807) :
    Calls Try.prog 8 #[.int .u64 id, .slice pa n ca] w fun e w' => e = .returned (.tuple #[.pointer Option.none, .int .i64 2]) ∧ Keeps Nil w w' := by
  have hln : L.length = n := by have := h.1; simpa using this
  by_cases h0 : n < 1 ∨ 8 < n
  · exact new_len id pa n ca w h0 hn
  · exact new_bad id pa n ca L w h (by omega) (by omega) (fun hx => hm ⟨by omega, by omega, hx⟩)
end Go.Proofs.Ytbbodecdijankaa
