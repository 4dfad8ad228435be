/-
  Graphs: the graph's links of the document's (of). Conditions: the row of links lies so.
-/
import Derived.Test.YthnkeppkhdceoaaRMay
import Derived.BigRegion
import Derived.Deep.RegionHeld3
namespace Go.Proofs.Ythnkeppkhdceoaa
open Go.RowKit
set_option linter.unusedVariables false
set_option linter.unusedSimpArgs false
set_option maxRecDepth 8000

theorem flatL_append (A B : List Lk) : flatL (A ++ B) = flatL A ++ flatL B := by simp [flatL]
theorem heap_alloc_new (w : World) (o : Obj) : (w.alloc o).heap[w.heap.size]? = some o := alloc_block w o
theorem info61 : (Try.prog.info? 61).map (fun i => (i.zero, i.size, i.bytes)) = some (some (.agg #[.int .i64 0, .int .u8 0, .int .u32 0, .int .i64 0, .int .u8 0, .int .u32 0, .bool false]), 7, 40) := by kernel_rfl

set_option maxHeartbeats 16000000 in
theorem of_any {w : World} {n₀ cl nl : Nat} {pl : Option Addr} {L : List Lk} (hL : LSl n₀ w pl cl L) (hn0 : n₀ ≤ w.heap.size) (hnl : L.length = nl) (hl : nl ≤ 1000) :
    Calls Try.prog 8 #[.slice pl nl cl] w fun e w' => ∃ p c, e = .returned (.slice p nl c) ∧ w'.ownsRow w.heap.size 61 7 (.slice p nl c) nl (flatL L) ∧ Keeps Nil w w' := by
  have HL := hid hL
  clear hL
  obtain ⟨i0, hi0, hz0, hz1, hz2⟩ := info_parts info61
  go_enter Try.func8, Try.ntmps8
  go_wp2
  go_loopw [3, 4] (fun s3 s4 wq => ∃ (k : Nat) (p7 : Option Addr) (c7 : Nat), k ≤ nl ∧ s4 = .int .i64 k ∧ s3 = .slice p7 k c7 ∧ Hid (wq.ownsRow w.heap.size 61 7 (.slice p7 k c7) k (flatL (L.take k))) ∧ Hid (Keeps Nil w wq)) (fun _ s4 _ => nl - (intOf s4).toNat)
  case atStart => exact ⟨0, Option.none, 0, Nat.zero_le _, rfl, rfl, hid (World.ownsRow_nil _ _ _ _), hid (Keeps.refl _ _)⟩
  case round =>
    obtain ⟨k, p7, c7, hk, rfl, rfl, HOWN, HKQ⟩ := hrel
    by_cases hkl : k < nl
    · obtain ⟨x, hx⟩ : ∃ x, L[k]? = some x := ⟨_, List.getElem?_eq_getElem (by omega)⟩
      obtain ⟨lb, lo, hlp, hlb, hlr⟩ := HL.out.2 (fun e => by rw [e] at hx; simp at hx)
      subst hlp
      have hncl : nl ≤ cl := by have := HL.out.1; omega
      have HCX := hid (show ∀ X, Keeps Nil wr X → lb < X.heap.size ∧ X.cell? ⟨lb, lo + k * 7, Option.none⟩ = some (.int .i64 x.a.b) ∧ X.cell? ⟨lb, lo + k * 7 + 1, Option.none⟩ = some (.int .u8 x.a.p) ∧ X.cell? ⟨lb, lo + k * 7 + 2, Option.none⟩ = some (.int .u32 x.a.c) ∧ X.cell? ⟨lb, lo + k * 7 + 3, Option.none⟩ = some (.int .i64 x.z.b) ∧ X.cell? ⟨lb, lo + k * 7 + 4, Option.none⟩ = some (.int .u8 x.z.p) ∧ X.cell? ⟨lb, lo + k * 7 + 5, Option.none⟩ = some (.int .u32 x.z.c) ∧ X.cell? ⟨lb, lo + k * 7 + 6, Option.none⟩ = some (.bool x.up) from fun X kX => by
        have hlb' : lb < w.heap.size := Nat.lt_of_lt_of_le hlb hn0
        obtain ⟨c0, c1, c2, c3, c4, c5, c6⟩ := (hlr.below ((HKQ.out.trans kX).below (fun _ _ e => e)) hlb') k x hx
        exact ⟨Nat.lt_of_lt_of_le hlb' (HKQ.out.trans kX).size, c0, c1, c2, c3, c4, c5, c6⟩)
      obtain ⟨hlx, c0, c1, c2, c3, c4, c5, c6⟩ := HCX.out _ (Keeps.refl Nil wr)
      have HX := hid hx
      clear hx hlr
      have hwr : w.heap.size ≤ wr.heap.size := HKQ.out.size
      have HI := hid (show _ ∧ _ ∧ _ ∧ _ from ⟨hi0, hz0, hz1, hz2⟩)
      have HR := hid (show k + 1 ≤ maxLen ∧ (k + 1) * 40 ≤ 140737488355328 from ⟨by unfold maxLen; omega, by omega⟩)
      go_wp2
      go_region
      · have k2 : Keeps Nil wr ((((wr.alloc (.cells #[.int .i64 x.a.b, .int .u8 x.a.p, .int .u32 x.a.c] 55 (0, 0))).alloc (.cells #[.int .i64 x.z.b, .int .u8 x.z.p, .int .u32 x.z.c] 55 (0, 0))).drew)) := (((Keeps.refl Nil wr).alloc _).alloc _).drew
        have hab := two_allocs wr (.cells #[.int .i64 x.a.b, .int .u8 x.a.p, .int .u32 x.a.c] 55 (0, 0)) (.cells #[.int .i64 x.z.b, .int .u8 x.z.p, .int .u32 x.z.c] 55 (0, 0))
        obtain ⟨W5, hW5⟩ : ∃ W5, ((wr.alloc (.cells #[.int .i64 x.a.b, .int .u8 x.a.p, .int .u32 x.a.c] 55 (0, 0))).alloc (.cells #[.int .i64 x.z.b, .int .u8 x.z.p, .int .u32 x.z.c] 55 (0, 0))).drew = W5 := ⟨_, rfl⟩
        have hbA5 : W5.heap[wr.heap.size]? = some (.cells #[.int .i64 x.a.b, .int .u8 x.a.p, .int .u32 x.a.c] 55 (0, 0)) := by rw [← hW5]; exact hab.1
        have hbZ5 : W5.heap[wr.heap.size + 1]? = some (.cells #[.int .i64 x.z.b, .int .u8 x.z.p, .int .u32 x.z.c] 55 (0, 0)) := by rw [← hW5]; exact hab.2
        rw [hW5] at k2 ⊢
        clear hW5 hab
        go_wp2
        obtain ⟨W6, hW6⟩ : ∃ W6, W5.drew = W6 := ⟨_, rfl⟩
        have hbA : W6.heap[wr.heap.size]? = some (.cells #[.int .i64 x.a.b, .int .u8 x.a.p, .int .u32 x.a.c] 55 (0, 0)) := by rw [← hW6]; exact hbA5
        have hbZ : W6.heap[wr.heap.size + 1]? = some (.cells #[.int .i64 x.z.b, .int .u8 x.z.p, .int .u32 x.z.c] 55 (0, 0)) := by rw [← hW6]; exact hbZ5
        have k6 : Keeps Nil wr W6 := by rw [← hW6]; exact k2.drew
        have hw6 : w.heap.size ≤ W6.heap.size := Nat.le_trans hwr k6.size
        have HOWN6 := hid (ownsRow_keep HOWN.out k6 (fun _ _ e => e))
        have HSS := hid (show ∀ W', Keeps (fun g => some g = (Value.slice p7 k c7).ownBlock) W6 W' → (fun W => W.cell? ⟨wr.heap.size, 0, Option.none⟩ = some (.int .i64 x.a.b) ∧ W.cell? ⟨wr.heap.size, 1, Option.none⟩ = some (.int .u8 x.a.p) ∧ W.cell? ⟨wr.heap.size, 2, Option.none⟩ = some (.int .u32 x.a.c) ∧ W.cell? ⟨wr.heap.size + 1, 0, Option.none⟩ = some (.int .i64 x.z.b) ∧ W.cell? ⟨wr.heap.size + 1, 1, Option.none⟩ = some (.int .u8 x.z.p) ∧ W.cell? ⟨wr.heap.size + 1, 2, Option.none⟩ = some (.int .u32 x.z.c) ∧ W.cell? ⟨lb, lo + k * 7 + 6, Option.none⟩ = some (.bool x.up)) W' from fun W' k' => by
          have hlb' : lb < w.heap.size := Nat.lt_of_lt_of_le hlb hn0
          have hA' := (k'.block _ (lt_of_block hbA) (fun e => by have h1 := HOWN.out.lt _ e.symm; omega)).trans hbA
          have hZ' := (k'.block _ (lt_of_block hbZ) (fun e => by have h1 := HOWN.out.lt _ e.symm; omega)).trans hbZ
          obtain ⟨hl6, _, _, _, _, _, _, d6⟩ := HCX.out _ k6
          exact ⟨cellOf hA' rfl, cellOf hA' rfl, cellOf hA' rfl, cellOf hZ' rfl, cellOf hZ' rfl, cellOf hZ' rfl, (k'.cell (p := ⟨lb, _, Option.none⟩) hl6 (fun e => by have h1 : w.heap.size ≤ lb := own_ge HOWN.out e.symm; omega)).trans d6⟩)
        refine wp_region_held_drew (S := (fun W => W.cell? ⟨wr.heap.size, 0, Option.none⟩ = some (.int .i64 x.a.b) ∧ W.cell? ⟨wr.heap.size, 1, Option.none⟩ = some (.int .u8 x.a.p) ∧ W.cell? ⟨wr.heap.size, 2, Option.none⟩ = some (.int .u32 x.a.c) ∧ W.cell? ⟨wr.heap.size + 1, 0, Option.none⟩ = some (.int .i64 x.z.b) ∧ W.cell? ⟨wr.heap.size + 1, 1, Option.none⟩ = some (.int .u8 x.z.p) ∧ W.cell? ⟨wr.heap.size + 1, 2, Option.none⟩ = some (.int .u32 x.z.c) ∧ W.cell? ⟨lb, lo + k * 7 + 6, Option.none⟩ = some (.bool x.up))) (by kernel_rfl) ?_ (fun hHeld => ?_)
        · (try dsimp only); rw [hW6]; exact HSS.out _ (Keeps.refl _ _)
        rw [hW6] at hHeld ⊢
        obtain ⟨q0, q1, q2, q3, q4, q5, q6⟩ := HSS.out _ (Keeps.refl _ _)
        have KK6 := hid k6
        clear hbA5 hbZ5 k2 hW6 k6 c0 c1 c2 c3 c4 c5 c6
        refine wpAnyH_take (i := 0) (v := ?_) rfl (by kernel_rfl) (by kernel_rfl) (by kernel_rfl) (fun _ _ _ h => h) (Or.inl ⟨by rfl, ?_⟩) (by assumption) ?_
        rotate_left
        · (intro W hSw; (try dsimp only at hSw); go_simp <;> with_reducible rfl)
        try simp only [Act.put, List.setIfInBounds_toArray, List.set_cons_zero, List.set_cons_succ, List.getElem_toArray, List.getElem_cons_zero, List.getElem_cons_succ]
        refine wpAnyH_take (i := 1) (v := ?_) rfl (by kernel_rfl) (by kernel_rfl) (by kernel_rfl) (fun _ _ _ h => h) (Or.inl ⟨by rfl, ?_⟩) (by assumption) ?_
        rotate_left
        · (intro W hSw; (try dsimp only at hSw); go_simp <;> with_reducible rfl)
        try simp only [Act.put, List.setIfInBounds_toArray, List.set_cons_zero, List.set_cons_succ, List.getElem_toArray, List.getElem_cons_zero, List.getElem_cons_succ]
        refine wpAnyH_take (i := 2) (v := ?_) rfl (by kernel_rfl) (by kernel_rfl) (by kernel_rfl) (fun _ _ _ h => h) (Or.inl ⟨by rfl, ?_⟩) (by assumption) ?_
        rotate_left
        · (intro W hSw; (try dsimp only at hSw); go_simp <;> with_reducible rfl)
        try simp only [Act.put, List.setIfInBounds_toArray, List.set_cons_zero, List.set_cons_succ, List.getElem_toArray, List.getElem_cons_zero, List.getElem_cons_succ]
        refine wpAnyH_take (i := 3) (v := ?_) rfl (by kernel_rfl) (by kernel_rfl) (by kernel_rfl) (fun _ _ _ h => h) (Or.inl ⟨by rfl, ?_⟩) (by assumption) ?_
        rotate_left
        · (intro W hSw; (try dsimp only at hSw); go_simp <;> with_reducible rfl)
        try simp only [Act.put, List.setIfInBounds_toArray, List.set_cons_zero, List.set_cons_succ, List.getElem_toArray, List.getElem_cons_zero, List.getElem_cons_succ]
        refine wpAnyH_take (i := 4) (v := ?_) rfl (by kernel_rfl) (by kernel_rfl) (by kernel_rfl) (fun _ _ _ h => h) (Or.inl ⟨by rfl, ?_⟩) (by assumption) ?_
        rotate_left
        · (intro W hSw; (try dsimp only at hSw); go_simp <;> with_reducible rfl)
        try simp only [Act.put, List.setIfInBounds_toArray, List.set_cons_zero, List.set_cons_succ, List.getElem_toArray, List.getElem_cons_zero, List.getElem_cons_succ]
        refine wpAnyH_take (i := 5) (v := ?_) rfl (by kernel_rfl) (by kernel_rfl) (by kernel_rfl) (fun _ _ _ h => h) (Or.inl ⟨by rfl, ?_⟩) (by assumption) ?_
        rotate_left
        · (intro W hSw; (try dsimp only at hSw); go_simp <;> with_reducible rfl)
        try simp only [Act.put, List.setIfInBounds_toArray, List.set_cons_zero, List.set_cons_succ, List.getElem_toArray, List.getElem_cons_zero, List.getElem_cons_succ]
        refine wpAnyH_take (i := 6) (v := ?_) rfl (by kernel_rfl) (by kernel_rfl) (by kernel_rfl) (fun _ _ _ h => h) (Or.inl ⟨by rfl, ?_⟩) (by assumption) ?_
        rotate_left
        · (intro W hSw; (try dsimp only at hSw); go_simp <;> with_reducible rfl)
        try simp only [Act.put, List.setIfInBounds_toArray, List.set_cons_zero, List.set_cons_succ, List.getElem_toArray, List.getElem_cons_zero, List.getElem_cons_succ]
        refine wpAnyH_take (i := 7) (v := ?_) rfl (by kernel_rfl) (by kernel_rfl) (by kernel_rfl) (fun _ _ _ h => h) (Or.inl ⟨by rfl, ?_⟩) (by assumption) ?_
        rotate_left
        · (intro W hSw; (try dsimp only at hSw); go_simp <;> with_reducible rfl)
        try simp only [Act.put, List.setIfInBounds_toArray, List.set_cons_zero, List.set_cons_succ, List.getElem_toArray, List.getElem_cons_zero, List.getElem_cons_succ]
        refine wpAnyH_take (i := 8) (v := ?_) rfl (by kernel_rfl) (by kernel_rfl) (by kernel_rfl) (fun _ _ _ h => h) (Or.inl ⟨by rfl, ?_⟩) (by assumption) ?_
        rotate_left
        · (intro W hSw; (try dsimp only at hSw); go_simp <;> with_reducible rfl)
        try simp only [Act.put, List.setIfInBounds_toArray, List.set_cons_zero, List.set_cons_succ, List.getElem_toArray, List.getElem_cons_zero, List.getElem_cons_succ]
        refine wpAnyH_take (i := 9) (v := ?_) rfl (by kernel_rfl) (by kernel_rfl) (by kernel_rfl) (fun _ _ _ h => h) (Or.inl ⟨by rfl, ?_⟩) (by assumption) ?_
        rotate_left
        · (intro W hSw; (try dsimp only at hSw); go_simp <;> with_reducible rfl)
        try simp only [Act.put, List.setIfInBounds_toArray, List.set_cons_zero, List.set_cons_succ, List.getElem_toArray, List.getElem_cons_zero, List.getElem_cons_succ]
        refine wpAnyH_take (i := 10) (v := ?_) rfl (by kernel_rfl) (by kernel_rfl) (by kernel_rfl) (fun _ _ _ h => h) (Or.inl ⟨by rfl, ?_⟩) (by assumption) ?_
        rotate_left
        · (intro W hSw; (try dsimp only at hSw); go_simp <;> with_reducible rfl)
        try simp only [Act.put, List.setIfInBounds_toArray, List.set_cons_zero, List.set_cons_succ, List.getElem_toArray, List.getElem_cons_zero, List.getElem_cons_succ]
        refine wpAnyH_take (i := 11) (v := ?_) rfl (by kernel_rfl) (by kernel_rfl) (by kernel_rfl) (fun _ _ _ h => h) (Or.inl ⟨by rfl, ?_⟩) (by assumption) ?_
        rotate_left
        · (intro W hSw; (try dsimp only at hSw); go_simp <;> with_reducible rfl)
        try simp only [Act.put, List.setIfInBounds_toArray, List.set_cons_zero, List.set_cons_succ, List.getElem_toArray, List.getElem_cons_zero, List.getElem_cons_succ]
        refine wpAnyH_take (i := 12) (v := ?_) rfl (by kernel_rfl) (by kernel_rfl) (by kernel_rfl) (fun _ _ _ h => h) (Or.inl ⟨by rfl, ?_⟩) (by assumption) ?_
        rotate_left
        · (intro W hSw; (try dsimp only at hSw); go_simp <;> with_reducible rfl)
        try simp only [Act.put, List.setIfInBounds_toArray, List.set_cons_zero, List.set_cons_succ, List.getElem_toArray, List.getElem_cons_zero, List.getElem_cons_succ]
        refine wpAnyH_take (i := 13) (v := ?_) rfl (by kernel_rfl) (by kernel_rfl) (by kernel_rfl) (fun _ _ _ h => h) (Or.inl ⟨by rfl, ?_⟩) (by assumption) ?_
        rotate_left
        · (intro W hSw; (try dsimp only at hSw); go_simp <;> with_reducible rfl)
        try simp only [Act.put, List.setIfInBounds_toArray, List.set_cons_zero, List.set_cons_succ, List.getElem_toArray, List.getElem_cons_zero, List.getElem_cons_succ]
        refine wpAnyH_take (i := 14) (v := ?_) rfl (by kernel_rfl) (by kernel_rfl) (by kernel_rfl) (fun _ _ _ h => h) (Or.inl ⟨by rfl, ?_⟩) (by assumption) ?_
        rotate_left
        · (intro W hSw; (try dsimp only at hSw); go_simp <;> with_reducible rfl)
        try simp only [Act.put, List.setIfInBounds_toArray, List.set_cons_zero, List.set_cons_succ, List.getElem_toArray, List.getElem_cons_zero, List.getElem_cons_succ]
        refine wpAnyH_take (i := 15) (v := ?_) rfl (by kernel_rfl) (by kernel_rfl) (by kernel_rfl) (fun _ _ _ h => h) (Or.inl ⟨by rfl, ?_⟩) (by assumption) ?_
        rotate_left
        · (intro W hSw; (try dsimp only at hSw); go_simp <;> with_reducible rfl)
        try simp only [Act.put, List.setIfInBounds_toArray, List.set_cons_zero, List.set_cons_succ, List.getElem_toArray, List.getElem_cons_zero, List.getElem_cons_succ]
        refine wpAnyH_take (i := 16) (v := ?_) rfl (by kernel_rfl) (by kernel_rfl) (by kernel_rfl) (fun _ _ _ h => h) (Or.inl ⟨by rfl, ?_⟩) (by assumption) ?_
        rotate_left
        · (intro W hSw; (try dsimp only at hSw); go_simp <;> with_reducible rfl)
        try simp only [Act.put, List.setIfInBounds_toArray, List.set_cons_zero, List.set_cons_succ, List.getElem_toArray, List.getElem_cons_zero, List.getElem_cons_succ]
        refine wpAnyH_take (i := 17) (v := ?_) rfl (by kernel_rfl) (by kernel_rfl) (by kernel_rfl) (fun _ _ _ h => h) (Or.inl ⟨by rfl, ?_⟩) (by assumption) ?_
        rotate_left
        · (intro W hSw; (try dsimp only at hSw); go_simp <;> with_reducible rfl)
        try simp only [Act.put, List.setIfInBounds_toArray, List.set_cons_zero, List.set_cons_succ, List.getElem_toArray, List.getElem_cons_zero, List.getElem_cons_succ]
        refine wpAnyH_take (i := 18) (v := ?_) rfl (by kernel_rfl) (by kernel_rfl) (by kernel_rfl) (fun _ _ _ h => h) (Or.inl ⟨by rfl, ?_⟩) (by assumption) ?_
        rotate_left
        · (intro W hSw; (try dsimp only at hSw); go_simp <;> with_reducible rfl)
        try simp only [Act.put, List.setIfInBounds_toArray, List.set_cons_zero, List.set_cons_succ, List.getElem_toArray, List.getElem_cons_zero, List.getElem_cons_succ]
        refine wpAnyH_take (i := 19) (v := ?_) rfl (by kernel_rfl) (by kernel_rfl) (by kernel_rfl) (fun _ _ _ h => h) (Or.inl ⟨by rfl, ?_⟩) (by assumption) ?_
        rotate_left
        · (intro W hSw; (try dsimp only at hSw); go_simp <;> with_reducible rfl)
        try simp only [Act.put, List.setIfInBounds_toArray, List.set_cons_zero, List.set_cons_succ, List.getElem_toArray, List.getElem_cons_zero, List.getElem_cons_succ]
        refine wpAnyH_take (i := 20) (v := ?_) rfl (by kernel_rfl) (by kernel_rfl) (by kernel_rfl) (fun _ _ _ h => h) (Or.inl ⟨by rfl, ?_⟩) (by assumption) ?_
        rotate_left
        · (intro W hSw; (try dsimp only at hSw); go_simp <;> with_reducible rfl)
        try simp only [Act.put, List.setIfInBounds_toArray, List.set_cons_zero, List.set_cons_succ, List.getElem_toArray, List.getElem_cons_zero, List.getElem_cons_succ]
        refine wpAnyH_take (i := 21) (v := ?_) rfl (by kernel_rfl) (by kernel_rfl) (by kernel_rfl) (fun _ _ _ h => h) (Or.inl ⟨by rfl, ?_⟩) (by assumption) ?_
        rotate_left
        · (intro W hSw; (try dsimp only at hSw); go_simp <;> with_reducible rfl)
        try simp only [Act.put, List.setIfInBounds_toArray, List.set_cons_zero, List.set_cons_succ, List.getElem_toArray, List.getElem_cons_zero, List.getElem_cons_succ]
        refine wpAnyH_ready (rs := [22]) (by kernel_rfl) (by simp) ?_
        refine AllReadyH.cons rfl (fun K hK => ?_) AllReadyH.nil
        try simp only [Act.put, List.setIfInBounds_toArray, List.set_cons_zero, List.set_cons_succ, List.getElem_toArray, List.getElem_cons_zero, List.getElem_cons_succ]
        go_simp
        refine hK.out _ _ (HSS.out _ ((Keeps.refl _ W6).alloc (.cells #[.int .i64 x.a.b, .int .u8 x.a.p, .int .u32 x.a.c, .int .i64 x.z.b, .int .u8 x.z.p, .int .u32 x.z.c, .bool x.up] 61 (0, 0)))) (fun hHeld => ?_)
        clear hK K
        try simp only [Act.put, List.setIfInBounds_toArray, List.set_cons_zero, List.set_cons_succ, List.getElem_toArray, List.getElem_cons_zero, List.getElem_cons_succ]
        refine wpAnyH_ready (rs := [23]) (by kernel_rfl) (by simp) ?_
        refine AllReadyH.cons rfl (fun K hK => ?_) AllReadyH.nil
        try simp only [Act.put, List.setIfInBounds_toArray, List.set_cons_zero, List.set_cons_succ, List.getElem_toArray, List.getElem_cons_zero, List.getElem_cons_succ]
        have hba := alloc_block W6 (.cells #[.int .i64 x.a.b, .int .u8 x.a.p, .int .u32 x.a.c, .int .i64 x.z.b, .int .u8 x.z.p, .int .u32 x.z.c, .bool x.up] 61 (0, 0))
        have hs7 : w.heap.size ≤ (W6.alloc (.cells #[.int .i64 x.a.b, .int .u8 x.a.p, .int .u32 x.a.c, .int .i64 x.z.b, .int .u8 x.z.p, .int .u32 x.z.c, .bool x.up] 61 (0, 0))).heap.size := by simp; omega
        have HOWNX := ownsRow_keep HOWN6.out ((Keeps.refl Nil W6).alloc (.cells #[.int .i64 x.a.b, .int .u8 x.a.p, .int .u32 x.a.c, .int .i64 x.z.b, .int .u8 x.z.p, .int .u32 x.z.c, .bool x.up] 61 (0, 0))) (fun _ _ e => e)
        rw [if_pos (by rfl)]
        refine wp_append_lies _ (.tmp 23) (.tmp 45) 31 ?_ w.heap.size 61 i0 (.agg #[.int .i64 0, .int .u8 0, .int .u32 0, .int .i64 0, .int .u8 0, .int .u32 0, .bool false]) 7 40 Try.underlying31 hi0 hz0 hz1 hz2 ?_ ?_ (.slice p7 k c7) k (flatL (L.take k)) ?_ ?_ ⟨W6.heap.size, 0, Option.none⟩ 1 1 (lcells x) ?_ ?_ ?_ ?_ ?_ ?_ ?_ ?_ _ rfl ?_
        · rfl
        · rfl
        · decide
        · rfl
        · exact HOWNX
        · rfl
        · rfl
        · exact (World.news_of_block (cs := #[.int .i64 x.a.b, .int .u8 x.a.p, .int .u32 x.a.c, .int .i64 x.z.b, .int .u8 x.z.p, .int .u32 x.z.c, .bool x.up]) (t := 61) (fr := (0, 0)) hba)
        · simp [Value.oneCell']
        · decide
        · unfold maxLen; omega
        · omega
        · omega
        intro g7 cap7 w7 own7 hgrow7 hat7 hlt7
        have k7 : Keeps (fun g => some g = (Value.slice p7 k c7).ownBlock) W6 w7 := ((Keeps.refl _ W6).alloc (.cells #[.int .i64 x.a.b, .int .u8 x.a.p, .int .u32 x.a.c, .int .i64 x.z.b, .int .u8 x.z.p, .int .u32 x.z.c, .bool x.up] 61 (0, 0))).grown hgrow7 (fun g e _ => e.symm)
        refine hK.out _ _ (HSS.out _ k7) (fun hHeld => ?_)
        clear hK K
        try simp only [Act.put, List.setIfInBounds_toArray, List.set_cons_zero, List.set_cons_succ, List.getElem_toArray, List.getElem_cons_zero, List.getElem_cons_succ]
        refine wpAnyH_take (i := 24) (v := ?_) rfl (by kernel_rfl) (by kernel_rfl) (by kernel_rfl) (fun _ _ _ h => h) (Or.inl ⟨by rfl, ?_⟩) (by assumption) ?_
        rotate_left
        · (intro W hSw; (try dsimp only at hSw); go_simp <;> with_reducible rfl)
        try simp only [Act.put, List.setIfInBounds_toArray, List.set_cons_zero, List.set_cons_succ, List.getElem_toArray, List.getElem_cons_zero, List.getElem_cons_succ]
        refine wpAnyH_done (by kernel_rfl) ?_ _
        have OWN7 := hid own7
        have kw7 := hid k7
        clear own7 k7 hgrow7 hat7 hlt7 hHeld q0 q1 q2 q3 q4 q5 q6
        go_wp2
        go_roundw
        case rel => exact ⟨k + 1, _, _, by omega, by go_num, rfl, hid (by
            rw [show L.take (k + 1) = L.take k ++ [x] from by rw [List.take_add_one, HX.out]; rfl, flatL_append]
            simpa [flatL] using OWN7.out), hid ((HKQ.out.trans KK6.out).trans' kw7.out (fun y hy e => by have h1 : w.heap.size ≤ y := own_ge HOWN.out e.symm; omega))⟩
        case measure => simp [intOf]; omega
      · have k2 : Keeps Nil wr ((((wr.alloc (.cells #[.int .i64 x.z.b, .int .u8 x.z.p, .int .u32 x.z.c] 55 (0, 0))).alloc (.cells #[.int .i64 x.a.b, .int .u8 x.a.p, .int .u32 x.a.c] 55 (0, 0))).drew)) := (((Keeps.refl Nil wr).alloc _).alloc _).drew
        have hab := two_allocs wr (.cells #[.int .i64 x.z.b, .int .u8 x.z.p, .int .u32 x.z.c] 55 (0, 0)) (.cells #[.int .i64 x.a.b, .int .u8 x.a.p, .int .u32 x.a.c] 55 (0, 0))
        obtain ⟨W5, hW5⟩ : ∃ W5, ((wr.alloc (.cells #[.int .i64 x.z.b, .int .u8 x.z.p, .int .u32 x.z.c] 55 (0, 0))).alloc (.cells #[.int .i64 x.a.b, .int .u8 x.a.p, .int .u32 x.a.c] 55 (0, 0))).drew = W5 := ⟨_, rfl⟩
        have hbA5 : W5.heap[wr.heap.size + 1]? = some (.cells #[.int .i64 x.a.b, .int .u8 x.a.p, .int .u32 x.a.c] 55 (0, 0)) := by rw [← hW5]; exact hab.2
        have hbZ5 : W5.heap[wr.heap.size]? = some (.cells #[.int .i64 x.z.b, .int .u8 x.z.p, .int .u32 x.z.c] 55 (0, 0)) := by rw [← hW5]; exact hab.1
        rw [hW5] at k2 ⊢
        clear hW5 hab
        go_wp2
        obtain ⟨W6, hW6⟩ : ∃ W6, W5.drew = W6 := ⟨_, rfl⟩
        have hbA : W6.heap[wr.heap.size + 1]? = some (.cells #[.int .i64 x.a.b, .int .u8 x.a.p, .int .u32 x.a.c] 55 (0, 0)) := by rw [← hW6]; exact hbA5
        have hbZ : W6.heap[wr.heap.size]? = some (.cells #[.int .i64 x.z.b, .int .u8 x.z.p, .int .u32 x.z.c] 55 (0, 0)) := by rw [← hW6]; exact hbZ5
        have k6 : Keeps Nil wr W6 := by rw [← hW6]; exact k2.drew
        have hw6 : w.heap.size ≤ W6.heap.size := Nat.le_trans hwr k6.size
        have HOWN6 := hid (ownsRow_keep HOWN.out k6 (fun _ _ e => e))
        have HSS := hid (show ∀ W', Keeps (fun g => some g = (Value.slice p7 k c7).ownBlock) W6 W' → (fun W => W.cell? ⟨wr.heap.size + 1, 0, Option.none⟩ = some (.int .i64 x.a.b) ∧ W.cell? ⟨wr.heap.size + 1, 1, Option.none⟩ = some (.int .u8 x.a.p) ∧ W.cell? ⟨wr.heap.size + 1, 2, Option.none⟩ = some (.int .u32 x.a.c) ∧ W.cell? ⟨wr.heap.size, 0, Option.none⟩ = some (.int .i64 x.z.b) ∧ W.cell? ⟨wr.heap.size, 1, Option.none⟩ = some (.int .u8 x.z.p) ∧ W.cell? ⟨wr.heap.size, 2, Option.none⟩ = some (.int .u32 x.z.c) ∧ W.cell? ⟨lb, lo + k * 7 + 6, Option.none⟩ = some (.bool x.up)) W' from fun W' k' => by
          have hlb' : lb < w.heap.size := Nat.lt_of_lt_of_le hlb hn0
          have hA' := (k'.block _ (lt_of_block hbA) (fun e => by have h1 := HOWN.out.lt _ e.symm; omega)).trans hbA
          have hZ' := (k'.block _ (lt_of_block hbZ) (fun e => by have h1 := HOWN.out.lt _ e.symm; omega)).trans hbZ
          obtain ⟨hl6, _, _, _, _, _, _, d6⟩ := HCX.out _ k6
          exact ⟨cellOf hA' rfl, cellOf hA' rfl, cellOf hA' rfl, cellOf hZ' rfl, cellOf hZ' rfl, cellOf hZ' rfl, (k'.cell (p := ⟨lb, _, Option.none⟩) hl6 (fun e => by have h1 : w.heap.size ≤ lb := own_ge HOWN.out e.symm; omega)).trans d6⟩)
        refine wp_region_held_drew (S := (fun W => W.cell? ⟨wr.heap.size + 1, 0, Option.none⟩ = some (.int .i64 x.a.b) ∧ W.cell? ⟨wr.heap.size + 1, 1, Option.none⟩ = some (.int .u8 x.a.p) ∧ W.cell? ⟨wr.heap.size + 1, 2, Option.none⟩ = some (.int .u32 x.a.c) ∧ W.cell? ⟨wr.heap.size, 0, Option.none⟩ = some (.int .i64 x.z.b) ∧ W.cell? ⟨wr.heap.size, 1, Option.none⟩ = some (.int .u8 x.z.p) ∧ W.cell? ⟨wr.heap.size, 2, Option.none⟩ = some (.int .u32 x.z.c) ∧ W.cell? ⟨lb, lo + k * 7 + 6, Option.none⟩ = some (.bool x.up))) (by kernel_rfl) ?_ (fun hHeld => ?_)
        · (try dsimp only); rw [hW6]; exact HSS.out _ (Keeps.refl _ _)
        rw [hW6] at hHeld ⊢
        obtain ⟨q0, q1, q2, q3, q4, q5, q6⟩ := HSS.out _ (Keeps.refl _ _)
        have KK6 := hid k6
        clear hbA5 hbZ5 k2 hW6 k6 c0 c1 c2 c3 c4 c5 c6
        refine wpAnyH_take (i := 0) (v := ?_) rfl (by kernel_rfl) (by kernel_rfl) (by kernel_rfl) (fun _ _ _ h => h) (Or.inl ⟨by rfl, ?_⟩) (by assumption) ?_
        rotate_left
        · (intro W hSw; (try dsimp only at hSw); go_simp <;> with_reducible rfl)
        try simp only [Act.put, List.setIfInBounds_toArray, List.set_cons_zero, List.set_cons_succ, List.getElem_toArray, List.getElem_cons_zero, List.getElem_cons_succ]
        refine wpAnyH_take (i := 1) (v := ?_) rfl (by kernel_rfl) (by kernel_rfl) (by kernel_rfl) (fun _ _ _ h => h) (Or.inl ⟨by rfl, ?_⟩) (by assumption) ?_
        rotate_left
        · (intro W hSw; (try dsimp only at hSw); go_simp <;> with_reducible rfl)
        try simp only [Act.put, List.setIfInBounds_toArray, List.set_cons_zero, List.set_cons_succ, List.getElem_toArray, List.getElem_cons_zero, List.getElem_cons_succ]
        refine wpAnyH_take (i := 2) (v := ?_) rfl (by kernel_rfl) (by kernel_rfl) (by kernel_rfl) (fun _ _ _ h => h) (Or.inl ⟨by rfl, ?_⟩) (by assumption) ?_
        rotate_left
        · (intro W hSw; (try dsimp only at hSw); go_simp <;> with_reducible rfl)
        try simp only [Act.put, List.setIfInBounds_toArray, List.set_cons_zero, List.set_cons_succ, List.getElem_toArray, List.getElem_cons_zero, List.getElem_cons_succ]
        refine wpAnyH_take (i := 3) (v := ?_) rfl (by kernel_rfl) (by kernel_rfl) (by kernel_rfl) (fun _ _ _ h => h) (Or.inl ⟨by rfl, ?_⟩) (by assumption) ?_
        rotate_left
        · (intro W hSw; (try dsimp only at hSw); go_simp <;> with_reducible rfl)
        try simp only [Act.put, List.setIfInBounds_toArray, List.set_cons_zero, List.set_cons_succ, List.getElem_toArray, List.getElem_cons_zero, List.getElem_cons_succ]
        refine wpAnyH_take (i := 4) (v := ?_) rfl (by kernel_rfl) (by kernel_rfl) (by kernel_rfl) (fun _ _ _ h => h) (Or.inl ⟨by rfl, ?_⟩) (by assumption) ?_
        rotate_left
        · (intro W hSw; (try dsimp only at hSw); go_simp <;> with_reducible rfl)
        try simp only [Act.put, List.setIfInBounds_toArray, List.set_cons_zero, List.set_cons_succ, List.getElem_toArray, List.getElem_cons_zero, List.getElem_cons_succ]
        refine wpAnyH_take (i := 5) (v := ?_) rfl (by kernel_rfl) (by kernel_rfl) (by kernel_rfl) (fun _ _ _ h => h) (Or.inl ⟨by rfl, ?_⟩) (by assumption) ?_
        rotate_left
        · (intro W hSw; (try dsimp only at hSw); go_simp <;> with_reducible rfl)
        try simp only [Act.put, List.setIfInBounds_toArray, List.set_cons_zero, List.set_cons_succ, List.getElem_toArray, List.getElem_cons_zero, List.getElem_cons_succ]
        refine wpAnyH_take (i := 6) (v := ?_) rfl (by kernel_rfl) (by kernel_rfl) (by kernel_rfl) (fun _ _ _ h => h) (Or.inl ⟨by rfl, ?_⟩) (by assumption) ?_
        rotate_left
        · (intro W hSw; (try dsimp only at hSw); go_simp <;> with_reducible rfl)
        try simp only [Act.put, List.setIfInBounds_toArray, List.set_cons_zero, List.set_cons_succ, List.getElem_toArray, List.getElem_cons_zero, List.getElem_cons_succ]
        refine wpAnyH_take (i := 7) (v := ?_) rfl (by kernel_rfl) (by kernel_rfl) (by kernel_rfl) (fun _ _ _ h => h) (Or.inl ⟨by rfl, ?_⟩) (by assumption) ?_
        rotate_left
        · (intro W hSw; (try dsimp only at hSw); go_simp <;> with_reducible rfl)
        try simp only [Act.put, List.setIfInBounds_toArray, List.set_cons_zero, List.set_cons_succ, List.getElem_toArray, List.getElem_cons_zero, List.getElem_cons_succ]
        refine wpAnyH_take (i := 8) (v := ?_) rfl (by kernel_rfl) (by kernel_rfl) (by kernel_rfl) (fun _ _ _ h => h) (Or.inl ⟨by rfl, ?_⟩) (by assumption) ?_
        rotate_left
        · (intro W hSw; (try dsimp only at hSw); go_simp <;> with_reducible rfl)
        try simp only [Act.put, List.setIfInBounds_toArray, List.set_cons_zero, List.set_cons_succ, List.getElem_toArray, List.getElem_cons_zero, List.getElem_cons_succ]
        refine wpAnyH_take (i := 9) (v := ?_) rfl (by kernel_rfl) (by kernel_rfl) (by kernel_rfl) (fun _ _ _ h => h) (Or.inl ⟨by rfl, ?_⟩) (by assumption) ?_
        rotate_left
        · (intro W hSw; (try dsimp only at hSw); go_simp <;> with_reducible rfl)
        try simp only [Act.put, List.setIfInBounds_toArray, List.set_cons_zero, List.set_cons_succ, List.getElem_toArray, List.getElem_cons_zero, List.getElem_cons_succ]
        refine wpAnyH_take (i := 10) (v := ?_) rfl (by kernel_rfl) (by kernel_rfl) (by kernel_rfl) (fun _ _ _ h => h) (Or.inl ⟨by rfl, ?_⟩) (by assumption) ?_
        rotate_left
        · (intro W hSw; (try dsimp only at hSw); go_simp <;> with_reducible rfl)
        try simp only [Act.put, List.setIfInBounds_toArray, List.set_cons_zero, List.set_cons_succ, List.getElem_toArray, List.getElem_cons_zero, List.getElem_cons_succ]
        refine wpAnyH_take (i := 11) (v := ?_) rfl (by kernel_rfl) (by kernel_rfl) (by kernel_rfl) (fun _ _ _ h => h) (Or.inl ⟨by rfl, ?_⟩) (by assumption) ?_
        rotate_left
        · (intro W hSw; (try dsimp only at hSw); go_simp <;> with_reducible rfl)
        try simp only [Act.put, List.setIfInBounds_toArray, List.set_cons_zero, List.set_cons_succ, List.getElem_toArray, List.getElem_cons_zero, List.getElem_cons_succ]
        refine wpAnyH_take (i := 12) (v := ?_) rfl (by kernel_rfl) (by kernel_rfl) (by kernel_rfl) (fun _ _ _ h => h) (Or.inl ⟨by rfl, ?_⟩) (by assumption) ?_
        rotate_left
        · (intro W hSw; (try dsimp only at hSw); go_simp <;> with_reducible rfl)
        try simp only [Act.put, List.setIfInBounds_toArray, List.set_cons_zero, List.set_cons_succ, List.getElem_toArray, List.getElem_cons_zero, List.getElem_cons_succ]
        refine wpAnyH_take (i := 13) (v := ?_) rfl (by kernel_rfl) (by kernel_rfl) (by kernel_rfl) (fun _ _ _ h => h) (Or.inl ⟨by rfl, ?_⟩) (by assumption) ?_
        rotate_left
        · (intro W hSw; (try dsimp only at hSw); go_simp <;> with_reducible rfl)
        try simp only [Act.put, List.setIfInBounds_toArray, List.set_cons_zero, List.set_cons_succ, List.getElem_toArray, List.getElem_cons_zero, List.getElem_cons_succ]
        refine wpAnyH_take (i := 14) (v := ?_) rfl (by kernel_rfl) (by kernel_rfl) (by kernel_rfl) (fun _ _ _ h => h) (Or.inl ⟨by rfl, ?_⟩) (by assumption) ?_
        rotate_left
        · (intro W hSw; (try dsimp only at hSw); go_simp <;> with_reducible rfl)
        try simp only [Act.put, List.setIfInBounds_toArray, List.set_cons_zero, List.set_cons_succ, List.getElem_toArray, List.getElem_cons_zero, List.getElem_cons_succ]
        refine wpAnyH_take (i := 15) (v := ?_) rfl (by kernel_rfl) (by kernel_rfl) (by kernel_rfl) (fun _ _ _ h => h) (Or.inl ⟨by rfl, ?_⟩) (by assumption) ?_
        rotate_left
        · (intro W hSw; (try dsimp only at hSw); go_simp <;> with_reducible rfl)
        try simp only [Act.put, List.setIfInBounds_toArray, List.set_cons_zero, List.set_cons_succ, List.getElem_toArray, List.getElem_cons_zero, List.getElem_cons_succ]
        refine wpAnyH_take (i := 16) (v := ?_) rfl (by kernel_rfl) (by kernel_rfl) (by kernel_rfl) (fun _ _ _ h => h) (Or.inl ⟨by rfl, ?_⟩) (by assumption) ?_
        rotate_left
        · (intro W hSw; (try dsimp only at hSw); go_simp <;> with_reducible rfl)
        try simp only [Act.put, List.setIfInBounds_toArray, List.set_cons_zero, List.set_cons_succ, List.getElem_toArray, List.getElem_cons_zero, List.getElem_cons_succ]
        refine wpAnyH_take (i := 17) (v := ?_) rfl (by kernel_rfl) (by kernel_rfl) (by kernel_rfl) (fun _ _ _ h => h) (Or.inl ⟨by rfl, ?_⟩) (by assumption) ?_
        rotate_left
        · (intro W hSw; (try dsimp only at hSw); go_simp <;> with_reducible rfl)
        try simp only [Act.put, List.setIfInBounds_toArray, List.set_cons_zero, List.set_cons_succ, List.getElem_toArray, List.getElem_cons_zero, List.getElem_cons_succ]
        refine wpAnyH_take (i := 18) (v := ?_) rfl (by kernel_rfl) (by kernel_rfl) (by kernel_rfl) (fun _ _ _ h => h) (Or.inl ⟨by rfl, ?_⟩) (by assumption) ?_
        rotate_left
        · (intro W hSw; (try dsimp only at hSw); go_simp <;> with_reducible rfl)
        try simp only [Act.put, List.setIfInBounds_toArray, List.set_cons_zero, List.set_cons_succ, List.getElem_toArray, List.getElem_cons_zero, List.getElem_cons_succ]
        refine wpAnyH_take (i := 19) (v := ?_) rfl (by kernel_rfl) (by kernel_rfl) (by kernel_rfl) (fun _ _ _ h => h) (Or.inl ⟨by rfl, ?_⟩) (by assumption) ?_
        rotate_left
        · (intro W hSw; (try dsimp only at hSw); go_simp <;> with_reducible rfl)
        try simp only [Act.put, List.setIfInBounds_toArray, List.set_cons_zero, List.set_cons_succ, List.getElem_toArray, List.getElem_cons_zero, List.getElem_cons_succ]
        refine wpAnyH_take (i := 20) (v := ?_) rfl (by kernel_rfl) (by kernel_rfl) (by kernel_rfl) (fun _ _ _ h => h) (Or.inl ⟨by rfl, ?_⟩) (by assumption) ?_
        rotate_left
        · (intro W hSw; (try dsimp only at hSw); go_simp <;> with_reducible rfl)
        try simp only [Act.put, List.setIfInBounds_toArray, List.set_cons_zero, List.set_cons_succ, List.getElem_toArray, List.getElem_cons_zero, List.getElem_cons_succ]
        refine wpAnyH_take (i := 21) (v := ?_) rfl (by kernel_rfl) (by kernel_rfl) (by kernel_rfl) (fun _ _ _ h => h) (Or.inl ⟨by rfl, ?_⟩) (by assumption) ?_
        rotate_left
        · (intro W hSw; (try dsimp only at hSw); go_simp <;> with_reducible rfl)
        try simp only [Act.put, List.setIfInBounds_toArray, List.set_cons_zero, List.set_cons_succ, List.getElem_toArray, List.getElem_cons_zero, List.getElem_cons_succ]
        refine wpAnyH_ready (rs := [22]) (by kernel_rfl) (by simp) ?_
        refine AllReadyH.cons rfl (fun K hK => ?_) AllReadyH.nil
        try simp only [Act.put, List.setIfInBounds_toArray, List.set_cons_zero, List.set_cons_succ, List.getElem_toArray, List.getElem_cons_zero, List.getElem_cons_succ]
        go_simp
        refine hK.out _ _ (HSS.out _ ((Keeps.refl _ W6).alloc (.cells #[.int .i64 x.a.b, .int .u8 x.a.p, .int .u32 x.a.c, .int .i64 x.z.b, .int .u8 x.z.p, .int .u32 x.z.c, .bool x.up] 61 (0, 0)))) (fun hHeld => ?_)
        clear hK K
        try simp only [Act.put, List.setIfInBounds_toArray, List.set_cons_zero, List.set_cons_succ, List.getElem_toArray, List.getElem_cons_zero, List.getElem_cons_succ]
        refine wpAnyH_ready (rs := [23]) (by kernel_rfl) (by simp) ?_
        refine AllReadyH.cons rfl (fun K hK => ?_) AllReadyH.nil
        try simp only [Act.put, List.setIfInBounds_toArray, List.set_cons_zero, List.set_cons_succ, List.getElem_toArray, List.getElem_cons_zero, List.getElem_cons_succ]
        have hba := alloc_block W6 (.cells #[.int .i64 x.a.b, .int .u8 x.a.p, .int .u32 x.a.c, .int .i64 x.z.b, .int .u8 x.z.p, .int .u32 x.z.c, .bool x.up] 61 (0, 0))
        have hs7 : w.heap.size ≤ (W6.alloc (.cells #[.int .i64 x.a.b, .int .u8 x.a.p, .int .u32 x.a.c, .int .i64 x.z.b, .int .u8 x.z.p, .int .u32 x.z.c, .bool x.up] 61 (0, 0))).heap.size := by simp; omega
        have HOWNX := ownsRow_keep HOWN6.out ((Keeps.refl Nil W6).alloc (.cells #[.int .i64 x.a.b, .int .u8 x.a.p, .int .u32 x.a.c, .int .i64 x.z.b, .int .u8 x.z.p, .int .u32 x.z.c, .bool x.up] 61 (0, 0))) (fun _ _ e => e)
        rw [if_pos (by rfl)]
        refine wp_append_lies _ (.tmp 23) (.tmp 45) 31 ?_ w.heap.size 61 i0 (.agg #[.int .i64 0, .int .u8 0, .int .u32 0, .int .i64 0, .int .u8 0, .int .u32 0, .bool false]) 7 40 Try.underlying31 hi0 hz0 hz1 hz2 ?_ ?_ (.slice p7 k c7) k (flatL (L.take k)) ?_ ?_ ⟨W6.heap.size, 0, Option.none⟩ 1 1 (lcells x) ?_ ?_ ?_ ?_ ?_ ?_ ?_ ?_ _ rfl ?_
        · rfl
        · rfl
        · decide
        · rfl
        · exact HOWNX
        · rfl
        · rfl
        · exact (World.news_of_block (cs := #[.int .i64 x.a.b, .int .u8 x.a.p, .int .u32 x.a.c, .int .i64 x.z.b, .int .u8 x.z.p, .int .u32 x.z.c, .bool x.up]) (t := 61) (fr := (0, 0)) hba)
        · simp [Value.oneCell']
        · decide
        · unfold maxLen; omega
        · omega
        · omega
        intro g7 cap7 w7 own7 hgrow7 hat7 hlt7
        have k7 : Keeps (fun g => some g = (Value.slice p7 k c7).ownBlock) W6 w7 := ((Keeps.refl _ W6).alloc (.cells #[.int .i64 x.a.b, .int .u8 x.a.p, .int .u32 x.a.c, .int .i64 x.z.b, .int .u8 x.z.p, .int .u32 x.z.c, .bool x.up] 61 (0, 0))).grown hgrow7 (fun g e _ => e.symm)
        refine hK.out _ _ (HSS.out _ k7) (fun hHeld => ?_)
        clear hK K
        try simp only [Act.put, List.setIfInBounds_toArray, List.set_cons_zero, List.set_cons_succ, List.getElem_toArray, List.getElem_cons_zero, List.getElem_cons_succ]
        refine wpAnyH_take (i := 24) (v := ?_) rfl (by kernel_rfl) (by kernel_rfl) (by kernel_rfl) (fun _ _ _ h => h) (Or.inl ⟨by rfl, ?_⟩) (by assumption) ?_
        rotate_left
        · (intro W hSw; (try dsimp only at hSw); go_simp <;> with_reducible rfl)
        try simp only [Act.put, List.setIfInBounds_toArray, List.set_cons_zero, List.set_cons_succ, List.getElem_toArray, List.getElem_cons_zero, List.getElem_cons_succ]
        refine wpAnyH_done (by kernel_rfl) ?_ _
        have OWN7 := hid own7
        have kw7 := hid k7
        clear own7 k7 hgrow7 hat7 hlt7 hHeld q0 q1 q2 q3 q4 q5 q6
        go_wp2
        go_roundw
        case rel => exact ⟨k + 1, _, _, by omega, by go_num, rfl, hid (by
            rw [show L.take (k + 1) = L.take k ++ [x] from by rw [List.take_add_one, HX.out]; rfl, flatL_append]
            simpa [flatL] using OWN7.out), hid ((HKQ.out.trans KK6.out).trans' kw7.out (fun y hy e => by have h1 : w.heap.size ≤ y := own_ge HOWN.out e.symm; omega))⟩
        case measure => simp [intOf]; omega
    · have hkk : k = nl := by omega
      subst hkk
      go_wp2
      go_ret
      rw [List.take_of_length_le (by omega)] at HOWN
      exact ⟨_, _, rfl, HOWN.out, HKQ.out⟩
end Go.Proofs.Ythnkeppkhdceoaa
