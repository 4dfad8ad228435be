/-
  Vectors: slices.AppendSeq, Collect over slices.Values; SortedFunc; vector.Sort. Conditions: the slice lies so.
-/
import Derived.Test.YtndhccdknloinaaIter
namespace Go.Proofs.Ytndhccdknloinaa
open Go.RowKit Go.Shelf
set_option linter.unusedVariables false
attribute [local go_sem] Oper.semAt_some

theorem info27 : (Try.prog.info? 27).map (fun i => (i.zero, i.size, i.bytes)) = some (some (.agg #[.int .u64 0, .int .u32 0, .int .u64 0, .int .u8 0]), 4, 32) := by kernel_rfl
theorem parts27 {P : Program} {e : TypeId} {z : Value} {s b : Nat} (h : (P.info? e).map (fun i => (i.zero, i.size, i.bytes)) = some (some z, s, b)) :
    ∃ i, P.info? e = some i ∧ i.zero = some z ∧ i.size = s ∧ i.bytes = b := by
  cases hi : P.info? e with
  | none => rw [hi] at h; cases h
  | some i => rw [hi] at h; simp at h; exact ⟨i, rfl, h.1, h.2.1, h.2.2⟩
/-- A block of one vector. -/
def Box4 (W : World) (B : Nat) (x : V4) : Prop := W.heap[B]? = some (.cells #[.int .u64 x.1, .int .u32 x.2.1, .int .u64 x.2.2.1, .int .u8 x.2.2.2] 27 (0, 0))
theorem Box4.cells {W : World} {B : Nat} {x : V4} (h : Box4 W B x) : W.cell? ⟨B, 0, Option.none⟩ = some (.int .u64 x.1) ∧ W.cell? ⟨B, 1, Option.none⟩ = some (.int .u32 x.2.1) ∧ W.cell? ⟨B, 2, Option.none⟩ = some (.int .u64 x.2.2.1) ∧ W.cell? ⟨B, 3, Option.none⟩ = some (.int .u8 x.2.2.2) := by
  unfold Box4 at h
  simp [World.cell?, h]
theorem box4_own (B : Nat) (x : V4) : Own (fun (_ : Unit) W => Box4 W B x) := fun s X Y row hs hg hrow => by
  have hs' : X.heap[B]? = _ := hs
  refine (hg.block B (Array.getElem?_eq_some_iff.1 hs').1 (fun e' => ?_)).trans hs'
  obtain ⟨o, ho, hc⟩ := hrow B e'.symm
  rw [hs'] at ho; cases ho; cases hc
theorem new4 (W : World) (x : V4) : ∀ (j : Nat) (u : Value), (vcells x)[j]? = some u → (W.alloc (.cells #[.int .u64 x.1, .int .u32 x.2.1, .int .u64 x.2.2.1, .int .u8 x.2.2.2] 27 (0, 0))).cell? ((⟨W.heap.size, 0, Option.none⟩ : Addr).add j) = some u := by
  intro j u hu
  have hb := alloc_block W (.cells #[.int .u64 x.1, .int .u32 x.2.1, .int .u64 x.2.2.1, .int .u8 x.2.2.2] 27 (0, 0))
  have e1 : (⟨W.heap.size, 0, Option.none⟩ : Addr).add j = ⟨W.heap.size, j, Option.none⟩ := by unfold Addr.add; split <;> simp_all
  rw [e1]
  have : (#[.int .u64 x.1, .int .u32 x.2.1, .int .u64 x.2.2.1, .int .u8 x.2.2.2] : Array Value)[j]? = some u := by simpa using hu
  simp only [World.cell?]
  rw [hb]
  exact this

set_option maxRecDepth 100000 in
set_option maxHeartbeats 2000000 in
theorem appendseq_in (F : Fence) (n : Nat) (h31 : F.fn 31) (h30 : F.fn 30) (hro : F.round = Option.none) (hn : 3 ≤ n) (Bs cap : Nat) (p : Option Addr) (L : List V4) (hreach : L.length ≤ 1000) (w : World) (hBs : Bs < w.heap.size)
    (hc : w.cell? ⟨Bs, 0, Option.none⟩ = some (.slice p L.length cap)) (hI : VSl w.heap.size w p cap L) :
    CallsIn F n Try.prog 31 #[.slice Option.none 0 0, .func (.func 30) #[] #[.pointer (some ⟨Bs, 0, Option.none⟩)]] w fun e W' => ∃ v, e = .returned v ∧ W'.ownsRow w.heap.size 27 4 v L.length (flatV L) ∧ Below w.heap.size w W' := by
  have h1 : 1 ≤ n := by omega
  obtain ⟨i0, hi, hz0, hz1, hz2⟩ := parts27 info27
  refine callsIn_of_wp_marks Try.func31 rfl h31 ?_ hro
  simp only [Try.ntmps31, List.size_toArray, List.length_cons, List.length_nil, Nat.reduceAdd, Nat.reduceSub, Array.replicate_succ, Array.replicate_zero, List.push_toArray, List.append_toArray, List.nil_append, List.cons_append]
  gi_wp2
  have bO := Boxed.new w 48 (.slice Option.none 0 0)
  have hB0 : Below w.heap.size w (w.alloc (.cells #[.slice Option.none 0 0] 48)) := (Below.refl _ w).alloc (Nat.le_refl _) _
  have hsz : (w.alloc (.cells #[.slice Option.none 0 0] 48)).heap.size = w.heap.size + 1 := by simp
  have hc0 : (w.alloc (.cells #[.slice Option.none 0 0] 48)).cell? ⟨Bs, 0, Option.none⟩ = some (.slice p L.length cap) := (hB0.cell (p := ⟨Bs, 0, Option.none⟩) hBs).trans hc
  have hI0 : VSl w.heap.size (w.alloc (.cells #[.slice Option.none 0 0] 48)) p cap L := ⟨hI.1, fun h => by obtain ⟨b, off, e, hb, hr⟩ := hI.2 h; exact ⟨b, off, e, hb, hr.below hB0 hb⟩⟩
  obtain ⟨W0, hW0⟩ : ∃ W0, w.alloc (.cells #[.slice Option.none 0 0] 48) = W0 := ⟨_, rfl⟩
  rw [hW0] at bO hB0 hsz hc0 hI0 ⊢
  clear hW0
  refine wpIn_rangeFunc_ownH hro h1 (gf := 30) (lb := #[.pointer (some ⟨Bs, 0, Option.none⟩)]) rfl h30 (enters_of Try.func30 (by kernel_rfl) rfl)
    (values_stops F (n - 1) h30 hro (by omega) Bs w.heap.size cap p L hreach W0 (by omega) (by omega) hc0 hI0) belowK_t (belowK_b (by omega)) (Below.refl _ _) (fun _ => rfl)
    (fun pre W => (∃ v, Boxed W w.heap.size 48 v ∧ W.ownsRow w.heap.size 27 4 v pre.length (flatV pre) ∧ True) ∧ Below w.heap.size w W)
    (fun _ _ _ => False)
    (OwnFrom.and (Own.from (holdsRow_own w.heap.size w.heap.size 48 27 4 (fun pre => pre.length) (fun pre => flatV pre) (fun pre v => True)) _) (ownFrom_below (Nat.le_refl _) (by omega)))
    (fun _ _ _ _ _ hs _ _ => hs)
    ⟨⟨_, bO, World.ownsRow_nil _ _ _ _, trivial⟩, hB0⟩
    (fun x a' W => ∃ Bx, w.heap.size + 1 ≤ Bx ∧ Box4 W Bx x ∧ a' = { tmps := #[.slice Option.none 0 0, .func (.func 30) #[] #[.pointer (some ⟨Bs, 0, Option.none⟩)], .pointer (some ⟨w.heap.size, 0, Option.none⟩), undef, .slice Option.none 0 0, .pointer (some ⟨Bx, 0, Option.none⟩), .func (.func 30) #[] #[.pointer (some ⟨Bs, 0, Option.none⟩)], .agg #[.int .u64 x.1, .int .u32 x.2.1, .int .u64 x.2.2.1, .int .u8 x.2.2.2], undef, undef, undef, undef, undef], defers := [] })
    (fun x a' _ X Y row hs hg hr => by obtain ⟨Bx, h1, h2, h3⟩ := hs; exact ⟨Bx, h1, box4_own Bx x () X Y row h2 hg (fun r e => (hr r e).2), h3⟩)
    ?assign ?body ?done ?stop
  case assign =>
    rintro l pre x W K ⟨⟨v, hv, hrow, -⟩, hB⟩ hK
    gi_wp2
    exact hK _ _ ((KeepsOthers.alloc _ _).from _) ((Below.refl _ W).alloc hB.size _) ⟨⟨v, hv.alloc _, hrow.alloc _, trivial⟩, hB.alloc hB.size _⟩ ⟨W.heap.size, hv.lt, alloc_block W _, rfl⟩
  case body =>
    rintro l pre x a' W hl hr ⟨⟨v, hv, hrow, -⟩, hB⟩ ⟨Bx, hBx, bX, rfl⟩ hlt
    have hcv := hv.cell
    obtain ⟨x0, x1, x2, x3⟩ := bX.cells
    have hbl := (Array.getElem?_eq_some_iff.1 (show W.heap[Bx]? = _ from bX)).1
    gi_wp2_with (gi_at_builtin; refine wpListIn_append_own _ rfl _ _ 48 rfl w.heap.size 27 i0 (.agg #[.int .u64 0, .int .u32 0, .int .u64 0, .int .u8 0]) 4 32 Try.underlying48 hi hz0 hz1 hz2 rfl (by decide) _ _ _ rfl (hrow.alloc _) ⟨W.heap.size, 0, Option.none⟩ 1 1 (vcells x) rfl rfl (new4 W x) (by simp [Value.oneCell']) (by unfold maxLen; omega) (by omega) (by have := hB.size; simp; omega) ?_; intro v' w1 hown' hgrow _; obtain ⟨g', cap', rfl⟩ := ownsRow_succ hown'; obtain ⟨hv1, hv2, hr2, hk2, hb2⟩ := hv.appended (by decide) hrow hB.size (Nat.le_refl _) hown' hgrow; have hc1 := hv1.cell; have hf1 := hv1.frozen)
    exact ⟨hk2.from _, hb2, ⟨_, hv2, by rw [flatV_append]; simpa [flatV] using hr2, trivial⟩, hB.trans hb2⟩
  case done =>
    rintro D ys W hD rfl ⟨⟨v, hv, hrow, -⟩, hB⟩ hK
    have hcv := hv.cell
    gi_wp2
    refine ⟨by simp, .inl ⟨_, _, rfl, run_takeDeferred hK, ?_⟩⟩
    exact ⟨_, results_tmp rfl _ _ _, v, rfl, ownsRow_putObj hrow _ hK rfl, hB.trans (belowK_b (w := w) (Nat.le_refl _) W D _ _ (by omega) hK rfl rfl)⟩
  case stop =>
    rintro D c pre W _ _ h _
    exact h.elim
end Go.Proofs.Ytndhccdknloinaa
