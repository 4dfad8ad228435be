/-
  Vectors: slices.Values over a slice of vectors: its iterator. Conditions: the slice lies so.
-/
import Derived.Test.YtndhccdknloinaaSort0
import Derived.RangeFuncNested
import Derived.RangeFuncBound
import Derived.RangeFuncCalls
import Derived.RangeFuncLeaves
import Derived.RangeFuncBox
import Derived.Shelf.Abstract
import Derived.Shelf.RegionOpen
import Derived.WalkKit
import Derived.OwnWalkIn
import Derived.TacticsInMore
import Derived.LoopNIn
import Derived.LoopIn
import Derived.Maps.AppendAt
namespace Go.Proofs.Ytndhccdknloinaa
open Go.RowKit Go.Shelf
set_option linter.unusedVariables false
attribute [local go_sem] Oper.semAt_some

/-- A vector's four numbers. -/
abbrev V4 := Int × Int × Int × Int
abbrev vcells (x : V4) : List Value := [.int .u64 x.1, .int .u32 x.2.1, .int .u64 x.2.2.1, .int .u8 x.2.2.2]
def flatV (L : List V4) : List Value := L.flatMap vcells
theorem flatV_append (L R : List V4) : flatV (L ++ R) = flatV L ++ flatV R := by simp [flatV]
theorem flatV_len (L : List V4) : (flatV L).length = L.length * 4 := by
  induction L with
  | nil => rfl
  | cons x L ih => rw [show flatV (x :: L) = vcells x ++ flatV L from rfl, List.length_append, ih, List.length_cons]; simp; omega
/-- Vectors in a row of cells. -/
def RowV (w : World) (b off : Nat) (L : List V4) : Prop := ∀ j x, L[j]? = some x →
  w.cell? ⟨b, off + j * 4, Option.none⟩ = some (.int .u64 x.1) ∧ w.cell? ⟨b, off + j * 4 + 1, Option.none⟩ = some (.int .u32 x.2.1) ∧ w.cell? ⟨b, off + j * 4 + 2, Option.none⟩ = some (.int .u64 x.2.2.1) ∧ w.cell? ⟨b, off + j * 4 + 3, Option.none⟩ = some (.int .u8 x.2.2.2)
theorem RowV.below {n₀ b off : Nat} {L : List V4} {A B : World} (h : RowV A b off L) (k : Below n₀ A B) (hb : b < n₀) : RowV B b off L := fun j x hx => by
  obtain ⟨h0, h1, h2, h3⟩ := h j x hx
  exact ⟨(k.cell (p := ⟨b, _, Option.none⟩) hb).trans h0, (k.cell (p := ⟨b, _, Option.none⟩) hb).trans h1, (k.cell (p := ⟨b, _, Option.none⟩) hb).trans h2, (k.cell (p := ⟨b, _, Option.none⟩) hb).trans h3⟩

set_option maxRecDepth 100000 in
set_option maxHeartbeats 2000000 in
theorem values1_in (F : Fence) (n : Nat) (h30 : F.fn 30) (hro : F.round = Option.none) (hn : 1 ≤ n) (l Bs n₀ b off cap : Nat) (L : List V4) (hreach : L.length ≤ 1000) (hb : b < n₀) (hcap : L.length ≤ cap) (J Jx : List V4 → World → Prop)
    (W : World) (hn₀ : n₀ ≤ W.heap.size) (hJ : AbidesFrom W.heap.size J)
    (hY : ∀ pre x W, J pre W → pre.length < L.length → YieldAt F (n - 1) Try.prog l #[.agg #[.int .u64 x.1, .int .u32 x.2.1, .int .u64 x.2.2.1, .int .u8 x.2.2.2]] W fun e W' =>
      (e = .returned (.bool true) ∧ J (pre ++ [x]) W' ∧ Below n₀ W W') ∨ (e = .returned (.bool false) ∧ Jx (pre ++ [x]) W'))
    (hBs : W.cell? ⟨Bs, 0, Option.none⟩ = some (.slice (some ⟨b, off, Option.none⟩) L.length cap)) (hc : RowV W b off L) (h0 : J [] W) :
    CallsIn F n Try.prog 30 #[.func (.yield l) #[] #[], .pointer (some ⟨Bs, 0, Option.none⟩)] W fun e W' => (∃ v, e = .returned v) ∧
      ((∃ ys, ys = L ∧ J ys W') ∨ (∃ pre, (∃ k, k ≤ L.length ∧ pre = L.take k) ∧ Jx pre W')) := by
  refine callsIn_of_wp Try.func30 rfl h30 ?_ hro
  simp only [Try.ntmps30, List.size_toArray, List.length_cons, List.length_nil, Nat.reduceAdd, Nat.reduceSub, Array.replicate_succ, Array.replicate_zero, List.push_toArray, List.append_toArray, List.nil_append, List.cons_append]
  gi_wp2
  gi_loopw [7] (fun i wr => ∃ k : Nat, k ≤ L.length ∧ i = .int .i64 k ∧ J (L.take k) wr ∧ Below n₀ W wr)
    (fun i _ => L.length - (intOf i).toNat)
  case atStart => exact ⟨0, Nat.zero_le _, rfl, h0, Below.refl _ _⟩
  case round =>
    obtain ⟨k, hk, rfl, hJs, hnx⟩ := hrel
    by_cases hlt : k < L.length
    · obtain ⟨x, hx⟩ : ∃ x, L[k]? = some x := ⟨_, List.getElem?_eq_getElem hlt⟩
      have hbl : b < wr.heap.size := Nat.lt_of_lt_of_le hb (Nat.le_trans hn₀ hnx.size)
      obtain ⟨c0, c1, c2, c3⟩ := (hc.below hnx hb) k x hx
      have hJ2 : J (L.take k) (wr.alloc (.cells #[.int .u64 x.1, .int .u32 x.2.1, .int .u64 x.2.2.1, .int .u8 x.2.2.2] 27 (0, 0))) := hJ _ wr _ Option.none hJs (World.grownBy_alloc wr _ Option.none) (fun r e => by cases e)
      have hk2 : Below n₀ wr (wr.alloc (.cells #[.int .u64 x.1, .int .u32 x.2.1, .int .u64 x.2.2.1, .int .u8 x.2.2.2] 27 (0, 0))) := (Below.refl _ _).alloc (Nat.le_trans hn₀ hnx.size) _
      obtain ⟨fn, tmps, assign, body, hy, hR⟩ := hY _ x _ hJ2 (by simp; omega)
      have hts : L.take k ++ [x] = L.take (k + 1) := by
        rw [List.take_succ_eq_append_getElem hlt]
        rw [List.getElem?_eq_getElem hlt] at hx
        injection hx with hx
        rw [hx]
      have HTS := hid hts
      have HNX := hid hnx
      have HJ2 := hid hJ2
      have HK2 := hid hk2
      clear hts hx hJ2 hk2 hnx hJs
      gi_wp2
      refine hR.mono ?_
      rintro e W3 (⟨rfl, hJ3, hk3⟩ | ⟨rfl, hJx3⟩)
      · gi_wp2
        go_roundw
        case rel => exact ⟨k + 1, by omega, by simp, by rw [← HTS.out]; exact hJ3, (HNX.out.trans HK2.out).trans hk3⟩
        case measure => simp [intOf]; omega
      · gi_wp2
        refine bodyPost_ret (results_none rfl _ _ _) rfl ?_
        exact ⟨⟨_, rfl⟩, .inr ⟨_, ⟨k + 1, by omega, HTS.out⟩, hJx3⟩⟩
    · obtain rfl : k = L.length := by omega
      gi_wp2
      go_end0
      exact ⟨⟨_, rfl⟩, .inl ⟨_, List.take_length, hJs⟩⟩
set_option maxRecDepth 100000 in
set_option maxHeartbeats 1000000 in
theorem values1_nil_in (F : Fence) (n : Nat) (h30 : F.fn 30) (hro : F.round = Option.none) (l Bs cap : Nat) (p : Option Addr) (J : List V4 → World → Prop) (W : World) (hBs : W.cell? ⟨Bs, 0, Option.none⟩ = some (.slice p 0 cap)) (h0 : J [] W) :
    CallsIn F n Try.prog 30 #[.func (.yield l) #[] #[], .pointer (some ⟨Bs, 0, Option.none⟩)] W fun e W' => (∃ v, e = .returned v) ∧ J [] W' := by
  refine callsIn_of_wp Try.func30 rfl h30 ?_ hro
  simp only [Try.ntmps30, List.size_toArray, List.length_cons, List.length_nil, Nat.reduceAdd, Nat.reduceSub, Array.replicate_succ, Array.replicate_zero, List.push_toArray, List.append_toArray, List.nil_append, List.cons_append]
  gi_wp2
  gi_loopw [7] (fun i wr => i = .int .i64 0 ∧ J [] wr) (fun _ _ => 0)
  case atStart => exact ⟨rfl, h0⟩
  case round =>
    obtain ⟨rfl, hJs⟩ := hrel
    gi_wp2
    go_end0
    exact ⟨⟨_, rfl⟩, hJs⟩
set_option maxHeartbeats 1000000 in
theorem values_in (F : Fence) (n : Nat) (h23 : F.fn 23) (hro : F.round = Option.none) (a : Option Addr) (len cap : Nat) (w : World) :
    CallsIn F n Try.prog 23 #[.slice a len cap] w fun e w' => e = .returned (.func (.func 30) #[] #[.pointer (some ⟨w.heap.size, 0, Option.none⟩)]) ∧ w' = w.alloc (.cells #[.slice a len cap] 48) := by
  refine callsIn_of_wp Try.func23 rfl h23 ?_ hro
  simp only [Try.ntmps23, List.size_toArray, List.length_cons, List.length_nil, Nat.reduceAdd, Nat.reduceSub, Array.replicate_succ, Array.replicate_zero, List.push_toArray, List.append_toArray, List.nil_append, List.cons_append]
  gi_wp2
  go_ret
  exact ⟨rfl, rfl⟩
/-- A slice of vectors, below n₀. -/
def VSl (n₀ : Nat) (W : World) (p : Option Addr) (cap : Nat) (L : List V4) : Prop := L.length ≤ cap ∧ (L ≠ [] → ∃ b off, p = some ⟨b, off, Option.none⟩ ∧ b < n₀ ∧ RowV W b off L)
theorem values_stops (F : Fence) (n : Nat) (h30 : F.fn 30) (hro : F.round = Option.none) (hn : 1 ≤ n) (Bs n₀ cap : Nat) (p : Option Addr) (L : List V4) (hreach : L.length ≤ 1000) (w : World) (hBs : Bs < w.heap.size) (hn₀ : n₀ ≤ w.heap.size)
    (hc : w.cell? ⟨Bs, 0, Option.none⟩ = some (.slice p L.length cap)) (hI : VSl n₀ w p cap L) :
    SeqStopsK F n Try.prog 30 #[.pointer (some ⟨Bs, 0, Option.none⟩)] (fun x : V4 => #[Value.agg #[.int .u64 x.1, .int .u32 x.2.1, .int .u64 x.2.2.1, .int .u8 x.2.2.2]]) (Below n₀) (fun ys => ys = L) (fun pre => pre <+: L) L.length w := fun l J Jx W hW hJ hJx hY h0 => by
  have hc' := (hW.cell (p := ⟨Bs, 0, Option.none⟩) hBs).trans hc
  by_cases hL : L = []
  · subst hL
    exact (values1_nil_in F n h30 hro l Bs cap p J W hc' h0).mono fun e W' ⟨he, hj⟩ => ⟨he, .inl ⟨_, rfl, hj⟩⟩
  · obtain ⟨b, off, rfl, hb, hr⟩ := hI.2 hL
    refine (values1_in F n h30 hro hn l Bs n₀ b off cap L hreach hb hI.1 J Jx W (Nat.le_trans hn₀ hW.size) hJ hY hc' (hr.below (hW.mono hn₀) hb) h0).mono ?_
    rintro e W' ⟨he, ⟨ys, rfl, hj⟩ | ⟨pre, ⟨k, hk, rfl⟩, hj⟩⟩
    · exact ⟨he, .inl ⟨_, rfl, hj⟩⟩
    · exact ⟨he, .inr ⟨_, List.take_prefix _ _, hj⟩⟩
end Go.Proofs.Ytndhccdknloinaa
