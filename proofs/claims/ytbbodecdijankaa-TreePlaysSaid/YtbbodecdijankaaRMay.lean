/-
  Layer 9: which machines may be; the document's new machine; its ports to flush. Conditions: as each lemma says.
-/
import Derived.Test.YtbbodecdijankaaRChoose
import Derived.Test.YtbbodecdijankaaTells
import Derived.Laws.MakeOwn
namespace Go.Proofs.Ytbbodecdijankaa
open Go.RowKit
set_option linter.unusedVariables false
set_option linter.unusedSimpArgs false
set_option maxRecDepth 8000

theorem info4 : (Try.prog.info? 4).map (fun i => (i.zero, i.size, i.bytes)) = some (some (.bool false), 1, 1) := by kernel_rfl
theorem made8 (n : Nat) (h : n ≤ 8) : madeCells (Value.bool false).cells (n * 1) = ((List.replicate n false).map Value.bool).toArray := by
  apply Array.ext
  · simp [madeCells]
  · intro j h1 h2
    simp [madeCells, Value.cells, Nat.mod_one]
theorem make48 (n : Nat) (h : n ≤ 8) (W : World) : (Instr.makeSlice 48 (.int .i64 (n : Int)) (.int .i64 (n : Int))).run Try.prog W = .ok (.slice (some ⟨W.heap.size, 0, Option.none⟩) n n) (W.alloc (.cells ((List.replicate n false).map Value.bool).toArray 4 (0, 0))) := by
  obtain ⟨i0, hi, hz0, hz1, hz2⟩ := info_parts info4
  have hr := run_makeSlice (P := Try.prog) W 48 4 i0 (.bool false) Try.underlying48 hi hz0 .i64 .i64 n n (by omega) (Int.le_refl _) (by rw [hz1]; simp; omega) (by rw [hz2]; simp; omega) (by omega)
  rw [hz1] at hr
  simp only [Int.toNat_natCast, made8 n h] at hr
  exact hr
/-- May there be such a machine? -/
def mayB (L : List Int) : Bool := L.all (fun x => decide (x ≤ 65535)) && (decide (0 < L.length) && decide (L.length < 9))
theorem mayB_iff (L : List Int) : mayB L = true ↔ mayC L := by
  unfold mayB mayC
  simp only [Bool.and_eq_true, List.all_eq_true, decide_eq_true_eq]
  constructor
  · rintro ⟨h1, h2, h3⟩; exact ⟨h2, by omega, h1⟩
  · rintro ⟨h1, h2, h3⟩; exact ⟨h3, h1, by omega⟩
set_option maxHeartbeats 4000000 in
theorem rmay_any {w : World} (pa : Option Addr) (n ca : Nat) (L : List Int) (h : WV w 0 1 pa n ca (L.map (Value.int .u32))) (hn : n ≤ 9223372036854775807) :
    Calls Try.prog 9 #[.slice pa n ca] w fun e w' => e = .returned (.bool (mayB L)) ∧ w = w' := by
  have hln : L.length = n := by have := h.1; simpa using this
  have HLN := hid hln
  have hnc := h.2.1
  have H := hid h
  clear h hln
  go_enter Try.func9, Try.ntmps9
  go_wp2_with fail
  go_loop [3] (fun s3 => ∃ k : Nat, k ≤ n ∧ s3 = .int .i64 k ∧ Hid ((L.take k).all (fun x => decide (x ≤ 65535)) = true)) (fun s3 => n - (intOf s3).toNat)
  case atStart => exact ⟨0, Nat.zero_le _, rfl, hid (by simp)⟩
  case round =>
    obtain ⟨k, hk, rfl, HR⟩ := hrel
    by_cases hlt : k < n
    · obtain ⟨x, hx⟩ : ∃ x, L[k]? = some x := ⟨_, List.getElem?_eq_getElem (by have := HLN.out; omega)⟩
      obtain ⟨ga, oa, rfl, _, hga, hcell⟩ := H.out.2.2 (by omega)
      have hck := hcell k (.int .u32 x) (by simp [hx])
      have HX := hid hx
      have hll := (List.getElem?_eq_some_iff.1 hx).1
      have hxe : L[k] = x := by rw [List.getElem?_eq_getElem hll] at hx; exact Option.some.inj hx
      have HXE := hid hxe
      clear hx hcell hxe
      by_cases hb : 65535 < x
      · have hd : decide (65535 < x) = true := by simp [hb]
        have HB := hid hb
        clear hb
        go_wp2_with fail
        go_ret
        refine ⟨?_, rfl⟩
        have : mayB L = false := by
          unfold mayB
          have : L.all (fun x => decide (x ≤ 65535)) = false := by
            rw [List.all_eq_false]
            exact ⟨x, List.mem_of_getElem? HX.out, by have := HB.out; simp; omega⟩
          rw [this]; rfl
        rw [this]; rfl
      · have hd : decide (65535 < x) = false := by simp; omega
        have HB := hid hb
        clear hb
        go_wp2_with fail
        go_round
        case rel =>
          refine ⟨k + 1, by omega, by go_num, hid ?_⟩
          rw [List.take_succ_eq_append_getElem hll, List.all_append, HR.out, HXE.out]
          have := HB.out
          simp; omega
        case measure => simp only [intOf]; omega
    · obtain rfl : k = n := by omega
      have hall := HR.out
      rw [List.take_of_length_le (by rw [HLN.out]; omega)] at hall
      have HA := hid hall
      clear hall
      by_cases h0 : 0 < k
      · have d0 : decide (0 < k) = true := by simp [h0]
        by_cases h9 : k < 9
        · have d9 : decide ((k : Int) < 9) = true := by simp; omega
          have HE := hid (show mayB L = true by unfold mayB; rw [HA.out, HLN.out]; simp [h0, h9])
          go_wp2_with fail
          go_ret
          exact ⟨by rw [HE.out]; rfl, rfl⟩
        · have d9 : decide ((k : Int) < 9) = false := by simp; omega
          have HE := hid (show mayB L = false by unfold mayB; rw [HA.out, HLN.out]; simp [h0, h9])
          go_wp2_with fail
          go_ret
          exact ⟨by rw [HE.out]; rfl, rfl⟩
      · have d0 : decide (0 < k) = false := by simp; omega
        have HE := hid (show mayB L = false by unfold mayB; rw [HA.out, HLN.out]; simp [h0])
        go_wp2_with fail
        go_ret
        exact ⟨by rw [HE.out]; rfl, rfl⟩
theorem setOf_drop (F : List Bool) {j : Nat} {b : Bool} (h : F[j]? = some b) : setOf (F.drop j) = (if b then 1 else 0) + 2 * setOf (F.drop (j + 1)) := by
  have hl := (List.getElem?_eq_some_iff.1 h).1
  have e : F[j] = b := by rw [List.getElem?_eq_getElem hl] at h; exact Option.some.inj h
  rw [List.drop_eq_getElem_cons hl, e]
  rfl
set_option maxHeartbeats 4000000 in
theorem rflush_any {w : World} {m g c f : Nat} {τ : TM} (h : RMach w m g c f τ) (hn : 0 < τ.P.length ∧ τ.P.length ≤ 8) :
    Calls Try.prog 17 #[.pointer (some ⟨m, 0, Option.none⟩)] w fun e w' => e = .returned (.int .u8 τ.fl) ∧ (∃ f', w.heap.size ≤ f' ∧ RMach w' m g c f' { τ with fl := 0 }) ∧ Keeps (At m) w w' := by
  obtain ⟨F, h1, hb, h2⟩ := h.fl
  obtain ⟨⟨_, n1, _, _, _, _, _, n7⟩, nf⟩ := h.cells
  have nf7 := nf 7
  have MK := make48 τ.P.length hn.2
  have hle := h.row.le
  have hlt := h.lt
  have H := hid h
  have HF := hid h1
  have HB := hid hb
  have HS := hid h2
  clear h h1 hb h2 nf
  go_enter Try.func17, Try.ntmps17
  go_wp2_with fail
  go_loop [3, 4] (fun s3 s4 => ∃ j : Nat, j ≤ τ.P.length ∧ s4 = .int .i64 ((j : Int) - 1) ∧ s3 = .int .u8 (setOf (F.drop j))) (fun _ s4 => (intOf s4 + 1).toNat)
  case atStart => exact ⟨τ.P.length, Nat.le_refl _, rfl, by rw [List.drop_of_length_le (by rw [HF.out]; omega)]; rfl⟩
  case round =>
    obtain ⟨j, hj, rfl, rfl⟩ := hrel
    by_cases h0 : 0 < j
    · obtain ⟨b, hx⟩ : ∃ b, F[j - 1]? = some b := ⟨_, List.getElem?_eq_getElem (by have := HF.out; omega)⟩
      have hd := setOf_drop F hx
      rw [show j - 1 + 1 = j from by omega] at hd
      have hr := setOf_range (F.drop j)
      have hp : (2 : Int) ^ (F.drop j).length ≤ 128 := by
        have hl : (F.drop j).length ≤ 7 := by rw [List.length_drop, HF.out]; omega
        have key : ∀ a : Fin 8, (2 : Int) ^ a.val ≤ 128 := by decide
        exact key ⟨_, by omega⟩
      have hr0 := hr.1
      have hr1 : setOf (F.drop j) < 128 := by omega
      have hcell : w.cell? ⟨f, j - 1, Option.none⟩ = some (.bool b) := by simp [World.cell?, HB.out, hx]
      have HD := hid hd
      have hnn : ((j : Int) - 1).toNat = j - 1 := by omega
      clear hd hx hr hp
      generalize setOf (F.drop j) = S at *
      cases b
      all_goals
        go_wp2_with fail
        go_round
        case rel => exact ⟨j - 1, by omega, by rw [show ((j - 1 : Nat) : Int) = (j : Int) - 1 from by omega], by rw [HD.out]; congr 1; simp; omega⟩
        case measure => simp only [intOf]; omega
    · obtain rfl : j = 0 := by omega
      have hs0 : setOf (F.drop 0) = τ.fl := HS.out
      rw [hs0]
      have HS0 := hid hs0
      clear hs0
      go_wp2_with fail
      go_ret
      refine ⟨rfl, ⟨w.heap.size, Nat.le_refl _, ?_⟩, ((Keeps.refl (At m) w).set m 7 (at_self m) _).alloc _⟩
      obtain ⟨wq, hwq⟩ : ∃ wq, w.setCell ⟨m, 7, Option.none⟩ (.slice (some ⟨w.heap.size, 0, Option.none⟩) τ.P.length τ.P.length) = wq := ⟨_, rfl⟩
      have hsz : wq.heap.size = w.heap.size := by rw [← hwq]; simp [World.setCell]
      have hb := setCell_block H.out.head 7 (.slice (some ⟨w.heap.size, 0, Option.none⟩) τ.P.length τ.P.length)
      have hr := H.out.row.of_block (Below.heap_setCell w ⟨m, 7, Option.none⟩ (.slice (some ⟨w.heap.size, 0, Option.none⟩) τ.P.length τ.P.length) g (Ne.symm H.out.mg))
      have e0 : Array.replicate τ.P.length (Value.bool false) = ((List.replicate τ.P.length false).map Value.bool).toArray := by simp
      rw [hwq] at hb hr ⊢
      rw [e0]
      have ka : Keeps Nil wq (wq.alloc (.cells ((List.replicate τ.P.length false).map Value.bool).toArray 4 (0, 0))) := (Keeps.refl _ _).alloc _
      have hnew := alloc_block wq (.cells ((List.replicate τ.P.length false).map Value.bool).toArray 4 (0, 0))
      rw [hsz] at hnew
      refine ⟨?_, hr.keep ka (fun e => e), ⟨List.replicate τ.P.length false, by simp, hnew, setOf_none _⟩⟩
      rw [(ka.block m (lt_of_block hb) (fun e => e)).trans hb]
      simp [rcl]
end Go.Proofs.Ytbbodecdijankaa
