/-
  Graphs: does a link of the tree lead from one hop to the next one (over)? Conditions: the rows lie so.
-/
import Derived.Test.YthnkeppkhdceoaaTops
import Derived.BigRegion
namespace Go.Proofs.Ythnkeppkhdceoaa
open Go.RowKit
set_option linter.unusedVariables false
set_option linter.unusedSimpArgs false
set_option maxRecDepth 8000
/-- Does link x, seen from e, lead from A to B? -/
def leads (e f : En) (A B : Hp) : Prop := ((e.b = A.b ∧ e.p = A.o) ∧ f.b = B.b) ∧ f.p = B.i
instance (e f : En) (A B : Hp) : Decidable (leads e f A B) := by unfold leads; exact inferInstance
set_option maxHeartbeats 16000000 in
theorem over_any {w : World} {n₀ cl nl gI : Nat} {pl : Option Addr} {L : List Lk} {In : Nat → Bool} {A B : Hp} (hL : LSl n₀ w pl cl L) (hn0 : n₀ ≤ w.heap.size) (hnl : L.length = nl) (hl : nl ≤ 50) (hne : A.b ≠ B.b)
    (hu : ∀ e ∈ ends L, 0 ≤ e.p ∧ e.p < 256) (hI : w.heap[gI]? = some (.cells ((List.range nl).map (fun k => Value.bool (In k))).toArray 4 (0, 0))) :
    Calls Try.prog 12 #[.slice pl nl cl, .slice (some ⟨gI, 0, Option.none⟩) nl nl, .agg #[.int .i64 A.b, .int .i64 A.i, .int .i64 A.o], .agg #[.int .i64 B.b, .int .i64 B.i, .int .i64 B.o]] w fun e w' =>
      ∃ r, e = .returned (.bool r) ∧ Keeps Nil w w' ∧ (r = true ∨ ∀ k x, L[k]? = some x → In k = true → leads x.a x.z A B ∨ leads x.z x.a A B → False) := by
  have hne' : ¬ B.b = A.b := fun e => hne e.symm
  have HL := hid hL
  have HI := hid hI
  have HU := hid hu
  have k0 : Keeps Nil w ((w.alloc (.cells #[.int .i64 A.b, .int .i64 A.i, .int .i64 A.o] 45 (0, 0))).alloc (.cells #[.int .i64 B.b, .int .i64 B.i, .int .i64 B.o] 45 (0, 0))) := ((Keeps.refl Nil w).alloc _).alloc _
  have hab := two_allocs w (.cells #[.int .i64 A.b, .int .i64 A.i, .int .i64 A.o] 45 (0, 0)) (.cells #[.int .i64 B.b, .int .i64 B.i, .int .i64 B.o] 45 (0, 0))
  have HB1 := hid hab.1
  have HB2 := hid hab.2
  have K0 := hid k0
  clear hL hI hu hab k0
  go_enter Try.func12, Try.ntmps12
  go_wp2
  go_loopw [9] (fun s9 wq => ∃ (k : Nat), k ≤ nl ∧ s9 = .int .i64 k ∧ Hid (Keeps Nil ((w.alloc (.cells #[.int .i64 A.b, .int .i64 A.i, .int .i64 A.o] 45 (0, 0))).alloc (.cells #[.int .i64 B.b, .int .i64 B.i, .int .i64 B.o] 45 (0, 0))) wq) ∧ Hid (∀ j x, j < k → L[j]? = some x → In j = true → leads x.a x.z A B ∨ leads x.z x.a A B → False)) (fun s9 _ => nl - (intOf s9).toNat)
  case atStart => exact ⟨0, Nat.zero_le _, rfl, hid (Keeps.refl _ _), hid (fun j x hj => by omega)⟩
  case round =>
    obtain ⟨k, hk, rfl, HKR, HNO⟩ := hrel
    have HKQ := hid (K0.out.trans HKR.out)
    by_cases hkl : k < nl
    · obtain ⟨x, hx⟩ : ∃ x, L[k]? = some x := ⟨_, List.getElem?_eq_getElem (by omega)⟩
      obtain ⟨lb, lo, hlp, hlb, hlr⟩ := HL.out.2 (fun e => by rw [e] at hx; simp at hx)
      subst hlp
      have hncl : nl ≤ cl := by have := HL.out.1; omega
      obtain ⟨hlx, c0, c1, c2, c3, c4, c5, c6⟩ : lb < wr.heap.size ∧ _ := ⟨Nat.lt_of_lt_of_le (Nat.lt_of_lt_of_le hlb hn0) HKQ.out.size, (hlr.below (HKQ.out.below (fun _ _ e => e)) (Nat.lt_of_lt_of_le hlb hn0)) k x hx⟩
      have HAB := hid (show ∀ X, Keeps Nil w X → Keeps Nil ((w.alloc (.cells #[.int .i64 A.b, .int .i64 A.i, .int .i64 A.o] 45 (0, 0))).alloc (.cells #[.int .i64 B.b, .int .i64 B.i, .int .i64 B.o] 45 (0, 0))) X → X.cell? ⟨w.heap.size, 0, Option.none⟩ = some (.int .i64 A.b) ∧ X.cell? ⟨w.heap.size, 2, Option.none⟩ = some (.int .i64 A.o) ∧ X.cell? ⟨w.heap.size + 1, 0, Option.none⟩ = some (.int .i64 B.b) ∧ X.cell? ⟨w.heap.size + 1, 1, Option.none⟩ = some (.int .i64 B.i) ∧
          X.cell? ⟨gI, k, Option.none⟩ = some (.bool (In k)) ∧ w.heap.size < X.heap.size ∧ w.heap.size + 1 < X.heap.size ∧ gI < X.heap.size from fun X kX kY => by
        have h1 := (kY.block _ (lt_of_block HB1.out) (fun e => e)).trans HB1.out
        have h2 := (kY.block _ (lt_of_block HB2.out) (fun e => e)).trans HB2.out
        have h3 := (kX.block _ (lt_of_block HI.out) (fun e => e)).trans HI.out
        exact ⟨cellOf h1 rfl, cellOf h1 rfl, cellOf h2 rfl, cellOf h2 rfl, cellOf h3 (by simp [hkl]), lt_of_block h1, lt_of_block h2, lt_of_block h3⟩)
      have hua := HU.out x.a (ends_mem (List.mem_of_getElem? hx)).1
      have huz := HU.out x.z (ends_mem (List.mem_of_getElem? hx)).2
      have hwa : IntKind.i64.wrap x.a.p = x.a.p := by rw [IntKind.wrap_i64]; omega
      have hwz : IntKind.i64.wrap x.z.p = x.z.p := by rw [IntKind.wrap_i64]; omega
      have HX := hid hx
      clear hx hlr
      go_wp2
      go_region
      · have k2 : Keeps Nil wr (((wr.alloc (.cells #[.int .i64 x.a.b, .int .u8 x.a.p, .int .u32 x.a.c] 55 (0, 0))).alloc (.cells #[.int .i64 x.z.b, .int .u8 x.z.p, .int .u32 x.z.c] 55 (0, 0))).drew) := (((Keeps.refl Nil wr).alloc _).alloc _).drew
        have hab := two_allocs wr (.cells #[.int .i64 x.a.b, .int .u8 x.a.p, .int .u32 x.a.c] 55 (0, 0)) (.cells #[.int .i64 x.z.b, .int .u8 x.z.p, .int .u32 x.z.c] 55 (0, 0))
        obtain ⟨W5, hW5⟩ : ∃ W5, ((wr.alloc (.cells #[.int .i64 x.a.b, .int .u8 x.a.p, .int .u32 x.a.c] 55 (0, 0))).alloc (.cells #[.int .i64 x.z.b, .int .u8 x.z.p, .int .u32 x.z.c] 55 (0, 0))).drew = W5 := ⟨_, rfl⟩
        have hbA : W5.heap[wr.heap.size]? = some (.cells #[.int .i64 x.a.b, .int .u8 x.a.p, .int .u32 x.a.c] 55 (0, 0)) := by rw [← hW5]; exact hab.1
        have hbZ : W5.heap[wr.heap.size + 1]? = some (.cells #[.int .i64 x.z.b, .int .u8 x.z.p, .int .u32 x.z.c] 55 (0, 0)) := by rw [← hW5]; exact hab.2
        rw [hW5] at k2 ⊢
        clear hW5 hab
        have a0 := cellOf (i := 0) (v := .int .i64 x.a.b) hbA rfl
        have a1 := cellOf (i := 1) (v := .int .u8 x.a.p) hbA rfl
        have z0 := cellOf (i := 0) (v := .int .i64 x.z.b) hbZ rfl
        have z1 := cellOf (i := 1) (v := .int .u8 x.z.p) hbZ rfl
        have lA := lt_of_block hbA
        have lZ := lt_of_block hbZ
        obtain ⟨e0, e2, f0, f1, gc, l1, l2, l3⟩ := HAB.out W5 (HKQ.out.trans k2) (HKR.out.trans k2)
        have HK5 := hid (HKQ.out.trans k2)
        have HR5 := hid (HKR.out.trans k2)
        clear HAB HB1 HB2 HKQ HKR
        clear hbA hbZ k2 c0 c1 c2 c3 c4 c5 c6
        generalize hin : In k = ink at *
        cases ink
        all_goals
          go_wp2
          all_goals first
            | (go_ret; exact ⟨_, rfl, HK5.out, .inl rfl⟩)
            | (go_roundw
               case rel =>
                 refine ⟨k + 1, by omega, by go_num, hid HR5.out, hid (fun j y hj hy hi hle => ?_)⟩
                 by_cases hjk : j = k
                 · subst hjk
                   rw [HX.out] at hy
                   cases hy
                   first
                     | (rw [hin] at hi; exact absurd hi (by decide))
                     | (unfold leads at hle; clear HNO HL HI HU K0 HK5 HR5 a0 a1 z0 z1 e0 e2 f0 f1 gc HX; simp only [beq_eq_false_iff_ne, ne_eq, beq_iff_eq] at *; omega)
                 · exact HNO.out j y (by omega) hy hi hle
               case measure => simp [intOf]; omega)
      · have k2 : Keeps Nil wr (((wr.alloc (.cells #[.int .i64 x.z.b, .int .u8 x.z.p, .int .u32 x.z.c] 55 (0, 0))).alloc (.cells #[.int .i64 x.a.b, .int .u8 x.a.p, .int .u32 x.a.c] 55 (0, 0))).drew) := (((Keeps.refl Nil wr).alloc _).alloc _).drew
        have hab := two_allocs wr (.cells #[.int .i64 x.z.b, .int .u8 x.z.p, .int .u32 x.z.c] 55 (0, 0)) (.cells #[.int .i64 x.a.b, .int .u8 x.a.p, .int .u32 x.a.c] 55 (0, 0))
        obtain ⟨W5, hW5⟩ : ∃ W5, ((wr.alloc (.cells #[.int .i64 x.z.b, .int .u8 x.z.p, .int .u32 x.z.c] 55 (0, 0))).alloc (.cells #[.int .i64 x.a.b, .int .u8 x.a.p, .int .u32 x.a.c] 55 (0, 0))).drew = W5 := ⟨_, rfl⟩
        have hbA : W5.heap[wr.heap.size + 1]? = some (.cells #[.int .i64 x.a.b, .int .u8 x.a.p, .int .u32 x.a.c] 55 (0, 0)) := by rw [← hW5]; exact hab.2
        have hbZ : W5.heap[wr.heap.size]? = some (.cells #[.int .i64 x.z.b, .int .u8 x.z.p, .int .u32 x.z.c] 55 (0, 0)) := by rw [← hW5]; exact hab.1
        rw [hW5] at k2 ⊢
        clear hW5 hab
        have a0 := cellOf (i := 0) (v := .int .i64 x.a.b) hbA rfl
        have a1 := cellOf (i := 1) (v := .int .u8 x.a.p) hbA rfl
        have z0 := cellOf (i := 0) (v := .int .i64 x.z.b) hbZ rfl
        have z1 := cellOf (i := 1) (v := .int .u8 x.z.p) hbZ rfl
        have lA := lt_of_block hbA
        have lZ := lt_of_block hbZ
        obtain ⟨e0, e2, f0, f1, gc, l1, l2, l3⟩ := HAB.out W5 (HKQ.out.trans k2) (HKR.out.trans k2)
        have HK5 := hid (HKQ.out.trans k2)
        have HR5 := hid (HKR.out.trans k2)
        clear HAB HB1 HB2 HKQ HKR
        clear hbA hbZ k2 c0 c1 c2 c3 c4 c5 c6
        generalize hin : In k = ink at *
        cases ink
        all_goals
          go_wp2
          all_goals first
            | (go_ret; exact ⟨_, rfl, HK5.out, .inl rfl⟩)
            | (go_roundw
               case rel =>
                 refine ⟨k + 1, by omega, by go_num, hid HR5.out, hid (fun j y hj hy hi hle => ?_)⟩
                 by_cases hjk : j = k
                 · subst hjk
                   rw [HX.out] at hy
                   cases hy
                   first
                     | (rw [hin] at hi; exact absurd hi (by decide))
                     | (unfold leads at hle; clear HNO HL HI HU K0 HK5 HR5 a0 a1 z0 z1 e0 e2 f0 f1 gc HX; simp only [beq_eq_false_iff_ne, ne_eq, beq_iff_eq] at *; omega)
                 · exact HNO.out j y (by omega) hy hi hle
               case measure => simp [intOf]; omega)
    · have hkk : k = nl := by omega
      subst hkk
      go_wp2
      go_ret
      exact ⟨_, rfl, HKQ.out, .inr (fun j x hx => HNO.out j x (by have := (List.getElem?_eq_some_iff.1 hx).1; omega) hx)⟩
end Go.Proofs.Ythnkeppkhdceoaa
