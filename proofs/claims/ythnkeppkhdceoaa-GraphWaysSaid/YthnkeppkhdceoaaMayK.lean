/-
  Graphs: a set of numbers in a map; whether there may be such a graph, plainly. No condition.
-/
import Derived.Test.YthnkeppkhdceoaaTreeing
import Derived.Maps.OwnSet
import Derived.Maps.Views
import Derived.DeepKeys4
namespace Go.Proofs.Ythnkeppkhdceoaa
open Go.RowKit Go.Maps Go.ChangeShapes Go.WideShapes
set_option linter.unusedVariables false
set_option linter.unusedSimpArgs false
set_option maxRecDepth 8000

theorem wf64 {n : Int} (h : 0 ≤ n ∧ n < 18446744073709551616) : (Lit.int .u64 n).wf = true := by
  have e1 : IntKind.u64.min = 0 := by decide
  have e2 : IntKind.u64.max = 18446744073709551615 := by decide
  simp [Lit.wf, e1, e2]; omega
theorem law36 : Keyed Try.prog 36 := int_keyed Try.underlying36
theorem key36 {v : Int} (h : 0 ≤ v ∧ v < 18446744073709551616) : keyOf Try.prog 36 (.int .u64 v) = some (.int .u64 v) := keyOf_int_mk Try.underlying36 (wf64 h)
theorem zero4 (w : World) : (zeroValue 4).run Try.prog w = .ok (.bool false) w := by kernel_rfl
theorem plainElem_bool_inv {v : Value} {z : DataW Unit × List MemPlace} (h : plainElem Try.prog 4 v = some z) : ∃ a, v = .bool a ∧ z = (.lit (.bool a), []) := by
  unfold plainElem at h
  rw [Try.underlying4] at h
  cases v <;> simp at h
  exact ⟨_, rfl, h.symm⟩
/-- Block mb is a map that holds these numbers. -/
def MapU (w : World) (mb : Nat) (S : List Int) : Prop :=
  ∃ D : DataW Unit, w.ownsMap Try.prog 36 (plainElem Try.prog 4) mb (Maps.size D) D ∧ Maps.size D = S.length ∧ ∀ v : Int, 0 ≤ v ∧ v < 18446744073709551616 → Maps.has D (.int .u64 v) = decide (v ∈ S) ∧ (v ∈ S → D.atKey (.int .u64 v) (.lit (.bool false)) = .lit (.bool true))
theorem own_tightU {w : World} {b n : Nat} {D : DataW Unit} (h : w.ownsMap Try.prog 36 (plainElem Try.prog 4) b n D) : w.ownsMap Try.prog 36 (plainElem Try.prog 4) b (Maps.size D) D := by
  obtain ⟨es, clock, hb, F, hs, hD⟩ := h
  refine ⟨es, clock, hb, F, ?_, hD⟩
  rw [hD]
  simp [Maps.size, length_sorted]
theorem MapU.made (w : World) : MapU (w.alloc (.map #[] 0)) w.heap.size [] :=
  ⟨.map [], World.ownsMap_made w _ _ _, rfl, fun v _ => ⟨rfl, fun h => by cases h⟩⟩
theorem MapU.lt {w : World} {mb : Nat} {S : List Int} (h : MapU w mb S) : mb < w.heap.size := by
  obtain ⟨D, h, _⟩ := h; exact h.lt
theorem MapU.keep {T : Nat → Prop} {w w' : World} {mb : Nat} {S : List Int} (h : MapU w mb S) (k : Keeps T w w') (hT : ¬ T mb) : MapU w' mb S := by
  have hl := h.lt
  obtain ⟨D, ⟨es, clock, hb, r⟩, r'⟩ := h
  exact ⟨D, ⟨es, clock, (k.block mb hl hT).trans hb, r⟩, r'⟩
theorem MapU.look {w : World} {mb : Nat} {S : List Int} (h : MapU w mb S) {v : Int} (hv : 0 ≤ v ∧ v < 18446744073709551616) :
    (Instr.lookup 77 (.map (some mb)) (.int .u64 v) false).run Try.prog w = .ok (.bool (decide (v ∈ S))) w := by
  obtain ⟨D, hown, hs, hat⟩ := h
  obtain ⟨x, ps, hrun, hx⟩ := hown.lookup law36 Try.underlying77 (zero4 w) (plainElem_bool Try.underlying4 false) (key36 hv)
  obtain ⟨c, rfl, hc⟩ := plainElem_bool_inv hx
  have h1 := congrArg Prod.fst hc
  simp only at h1
  have hcc : c = decide (v ∈ S) := by
    by_cases hm : v ∈ S
    · have h2 := (hat v hv).2 hm
      rw [h2] at h1
      simpa [hm] using h1.symm
    · have h3 := (hat v hv).1
      rw [decide_eq_false hm] at h3
      have h2 := Maps.atKey_of_not_has h3 (DataW.lit (Lit.bool false) : DataW Unit)
      rw [h2] at h1
      simpa [hm] using h1.symm
  rw [← hcc]
  exact hrun
theorem turned_keeps {w w' : World} {mb : Nat} (h : w.mapTurned w' mb) : Keeps (At mb) w w' := by
  have g := h.grown
  exact ⟨g.os, g.tape, g.output, g.size, fun k hk hs => g.block k hk (fun e => hs (by injection e))⟩
theorem MapU.put {w : World} {mb : Nat} {S : List Int} (h : MapU w mb S) {v : Int} (hv : 0 ≤ v ∧ v < 18446744073709551616) (hn : v ∉ S) (hl : S.length < 1000) :
    ∃ w', (Instr.mapUpdate 77 (.map (some mb)) (.int .u64 v) (.bool true)).run Try.prog w = .ok () w' ∧ MapU w' mb (S ++ [v]) ∧ Keeps (At mb) w w' := by
  obtain ⟨D, hown, hs, hat⟩ := h
  obtain ⟨w', hrun, hown', ht⟩ := hown.store law36 Try.underlying77 (by unfold maxLen; omega) (key36 hv) (plainElem_bool Try.underlying4 true)
  have hT := hown.tidy law36
  have hk : WideAt.IsKeyLit (Lit.int .u64 v) := trivial
  refine ⟨w', hrun, ⟨_, own_tightU hown', ?_, fun q hq => ?_⟩, turned_keeps ht⟩
  · rw [Maps.size_put hT, (hat v hv).1, hs]; simp [hn]
  · by_cases e : q = v
    · subst e
      refine ⟨by rw [Maps.has_put_same hT.isMap hk]; simp, fun _ => Maps.atKey_put_same hT.isMap hk _ _⟩
    · have hne : (Lit.int .u64 q) ≠ (Lit.int .u64 v) := fun h => e (by cases h; rfl)
      refine ⟨by rw [Maps.has_put_other hne]; rw [(hat q hq).1]; simp [e], fun hm => ?_⟩
      rw [Maps.atKey_put_other hne]
      refine (hat q hq).2 ?_
      simpa [e] using hm

/-- May an end be? -/
def okE (n : Nat) (e : En) : Prop := (0 ≤ e.b ∧ e.b < n) ∧ e.p < 8 ∧ 0 < e.c ∧ e.c < 65536
instance (n : Nat) (e : En) : Decidable (okE n e) := by unfold okE; exact inferInstance
def ends (L : List Lk) : List En := L.flatMap (fun l => [l.a, l.z])
def Dist (E : List En) : Prop := ∀ (i j : Nat) (x y : En), i < j → E[i]? = some x → E[j]? = some y → ¬ (x.b = y.b ∧ x.p = y.p)
/-- May there be such a graph? -/
structure MayG (ids : List Int) (L : List Lk) : Prop where
  n1 : 1 ≤ ids.length
  n8 : ids.length ≤ 8
  once : ids.Nodup
  ok : ∀ e ∈ ends L, okE ids.length e
  dist : Dist (ends L)
/-- Numbers in their types. -/
structure InT (ids : List Int) (L : List Lk) : Prop where
  id : ∀ x ∈ ids, 0 ≤ x ∧ x < 18446744073709551616
  e : ∀ e ∈ ends L, (0 ≤ e.p ∧ e.p < 256) ∧ (0 ≤ e.c ∧ e.c < 4294967296)
theorem ends_mem {L : List Lk} {l : Lk} (h : l ∈ L) : l.a ∈ ends L ∧ l.z ∈ ends L := ⟨List.mem_flatMap.2 ⟨l, h, by simp⟩, List.mem_flatMap.2 ⟨l, h, by simp⟩⟩
theorem MayG.gok {ids : List Int} {L : List Lk} (h : MayG ids L) (ht : InT ids L) (hl : L.length ≤ 1000) : GOk ids ids.length (sidesOf L) where
  len := rfl
  n1 := h.n1
  n8 := h.n8
  inj := h.once
  pos0 x hx := (ht.id x hx).1
  side s hs := by
    obtain ⟨i, l, hli, hk, _, _, he⟩ := side_link (j := 0) hs
    have hm := ends_mem (List.mem_of_getElem? hli)
    have h1 := h.ok _ hm.1
    have h2 := h.ok _ hm.2
    have t1 := ht.e _ hm.1
    have t2 := ht.e _ hm.2
    have hil : i < L.length := (List.getElem?_eq_some_iff.1 hli).1
    unfold okE at h1 h2
    rcases he with rfl | rfl <;> dsimp only <;> omega
theorem ends_at {L : List Lk} {i : Nat} {l : Lk} (h : L[i]? = some l) : (ends L)[2 * i]? = some l.a ∧ (ends L)[2 * i + 1]? = some l.z := by
  induction L generalizing i with
  | nil => simp at h
  | cons x L ih =>
    rw [show ends (x :: L) = x.a :: x.z :: ends L from rfl]
    cases i with
    | zero => simp at h; subst h; exact ⟨rfl, rfl⟩
    | succ i =>
      have := ih (i := i) (by simpa using h)
      rw [show 2 * (i + 1) = 2 * i + 2 by omega, show 2 * i + 2 + 1 = 2 * i + 1 + 2 by omega]
      exact this
theorem MayG.apart {ids : List Int} {L : List Lk} (h : MayG ids L) : Apart L := by
  intro s hs t ht hb hp
  obtain ⟨i, l, hli, hk, _, hne, he⟩ := side_link (j := 0) hs
  obtain ⟨i', l', hli', hk', _, hne', he'⟩ := side_link (j := 0) ht
  rw [Nat.zero_add] at he he'
  have a1 := ends_at hli
  have a2 := ends_at hli'
  have hd := h.dist
  have key : ∀ (m m' : Nat) (x y : En), (ends L)[m]? = some x → (ends L)[m']? = some y → x.b = y.b → x.p = y.p → m = m' := fun m m' x y hx hy h1 h2 => by
    rcases Nat.lt_trichotomy m m' with h | h | h
    · exact absurd ⟨h1, h2⟩ (hd m m' x y h hx hy)
    · exact h
    · exact absurd ⟨h1.symm, h2.symm⟩ (hd m' m y x h hy hx)
  rcases he with rfl | rfl <;> rcases he' with rfl | rfl <;> dsimp only at hb hp
  · have := key _ _ _ _ a1.1 a2.1 hb hp
    have : i = i' := by omega
    subst this; rw [hli] at hli'; cases hli'; rfl
  · have := key _ _ _ _ a1.1 a2.2 hb hp; omega
  · have := key _ _ _ _ a1.2 a2.1 hb hp; omega
  · have := key _ _ _ _ a1.2 a2.2 hb hp
    have : i = i' := by omega
    subst this; rw [hli] at hli'; cases hli'; rfl
end Go.Proofs.Ythnkeppkhdceoaa
