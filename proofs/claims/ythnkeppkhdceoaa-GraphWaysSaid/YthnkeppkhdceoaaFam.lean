/-
  Graphs: the paths that are offered to each bridge (rows of a row). Conditions: as each lemma says.
-/
import Derived.Test.YthnkeppkhdceoaaNodes
namespace Go.Proofs.Ythnkeppkhdceoaa
open Go.RowKit Go.Shelf
set_option linter.unusedVariables false
set_option linter.unusedSimpArgs false

/-- What is no cells lies as it lay. -/
theorem kf_of {S : Nat → Prop} {A B : World} (k : Keeps S A B) (hS : ∀ g, S g → g < A.heap.size → ∃ cs T fz, A.heap[g]? = some (.cells cs T fz)) : ∀ B', KeepsFrom B' A B := fun B' => KeepsOthers.from ⟨k.size, fun i o hi ho => (k.block i (lt_of_block hi) (fun e => by
  obtain ⟨cs, T, fz, h⟩ := hS i e (lt_of_block hi)
  rw [h] at hi; cases hi; cases ho)).trans hi⟩ B'
theorem k61_of {S : Nat → Prop} {A B : World} {n₀ : Nat} (k : Keeps S A B) (hn : n₀ ≤ A.heap.size) (hS : ∀ g, S g → g < A.heap.size → n₀ ≤ g ∧ ∃ cs T fz, A.heap[g]? = some (.cells cs T fz) ∧ T ≠ 61) : K61 n₀ A B := by
  refine ⟨⟨k.os, k.tape, k.output, k.size, fun g hg => k.block g (by omega) (fun e => by have := (hS g e (by omega)).1; omega)⟩, fun g cs fz hg => ?_⟩
  by_cases e : S g
  · obtain ⟨_, cs', T, fz', h, hT⟩ := hS g e (lt_of_block hg)
    rw [h] at hg
    injection hg with hg
    injection hg with _ hg _
    exact absurd hg hT
  · exact (k.block g (lt_of_block hg) e).trans hg
theorem KeepsFrom.trans' {B : Nat} {X Y Z : World} (h : KeepsFrom B X Y) (k : KeepsFrom B Y Z) : KeepsFrom B X Z := ⟨Nat.le_trans h.size k.size, fun i o hb hi ho => k.same i o hb (h.same i o hb hi ho) ho⟩

/-- Rows of paths, one for each bridge. -/
structure Fam (w : World) (b base n : Nat) (PS : Nat → List Pth) (vs : List Value) : Prop where
  blk : w.heap[b]? = some (.cells vs.toArray 96 (0, 0))
  len : vs.length = n
  row : ∀ (i : Nat) (v : Value), vs[i]? = some v → w.ownsRow base 91 5 v (PS i).length (pc (PS i))
  apart : ∀ (i j : Nat) (u v : Value) (k : Nat), i ≠ j → vs[i]? = some u → vs[j]? = some v → u.ownBlock = some k → v.ownBlock ≠ some k
theorem Fam.start {w : World} {b base n : Nat} (h : w.heap[b]? = some (.cells (Array.replicate n (.slice Option.none 0 0)) 96 (0, 0))) : Fam w b base n (fun _ => []) (List.replicate n (.slice Option.none 0 0)) where
  blk := by rw [h]; simp
  len := by simp
  row i v hv := by
    have := List.eq_of_mem_replicate (List.mem_of_getElem? hv)
    subst this
    exact World.ownsRow_nil _ _ _ _
  apart i j u v k _ hu _ hk := by
    have := List.eq_of_mem_replicate (List.mem_of_getElem? hu)
    subst this
    cases hk
theorem own_block {w : World} {base e sz n : Nat} {v : Value} {xs : List Value} (h : w.ownsRow base e sz v n xs) {k : Nat} (hk : v.ownBlock = some k) : base ≤ k ∧ ∃ cs, w.heap[k]? = some (.cells cs e (0, 0)) := by
  rcases h.2 with ⟨rfl, _⟩ | ⟨g, cap, cur, rfl, hb, hg, _⟩
  · cases hk
  · have : g = k := by simpa [Value.ownBlock] using hk
    subst this
    exact ⟨hb, cur, hg⟩
theorem own_apartV {X : Nat → Prop} {w w' : World} {B e sz n : Nat} {v : Value} {xs : List Value} (h : w.ownsRow B e sz v n xs) (k : Keeps X w w') (hX : ∀ g, v.ownBlock = some g → ¬ X g) : w'.ownsRow B e sz v n xs := by
  refine ⟨h.1, ?_⟩
  rcases h.2 with h1 | ⟨g, cap, cur, hv, hb, hg, r⟩
  · exact .inl h1
  · exact .inr ⟨g, cap, cur, hv, hb, (k.block g (lt_of_block hg) (hX g (by rw [hv]; rfl))).trans hg, r⟩
theorem Fam.keep {S : Nat → Prop} {w w' : World} {b base n : Nat} {PS : Nat → List Pth} {vs : List Value} (h : Fam w b base n PS vs) (k : Keeps S w w') (hS : ∀ g cs T, S g → w.heap[g]? = some (.cells cs T (0, 0)) → T ≠ 91 ∧ T ≠ 96) : Fam w' b base n PS vs where
  blk := (k.block b (lt_of_block h.blk) (fun e => (hS b _ _ e h.blk).2 rfl)).trans h.blk
  len := h.len
  row i v hv := by
    refine own_apartV (h.row i v hv) k (fun g hg e => ?_)
    obtain ⟨_, cs, hc⟩ := own_block (h.row i v hv) hg
    exact (hS g _ _ e hc).1 rfl
  apart := h.apart
theorem Fam.own {b base n : Nat} {PS : Nat → List Pth} {vs : List Value} : Own (fun (_ : Unit) W => Fam W b base n PS vs) := fun s X Y row hs hg hr => by
  refine hs.keep (S := fun k => some k = row) ⟨hg.os, hg.tape, hg.output, hg.size, fun k hk h => hg.block k hk h⟩ (fun g cs T e hgb => ?_)
  obtain ⟨o, ho, hc⟩ := hr g e.symm
  rw [hgb] at ho; cases ho; cases hc
/-- One more path in row i: the row has grown, its slice is stored. -/
theorem Fam.step {w w1 : World} {b base n i g cap : Nat} {PS PS' : Nat → List Pth} {vs : List Value} {v : Value} {x : Pth} {tmp : Obj} (h : Fam w b base n PS vs) (hv : vs[i]? = some v)
    (hown : w1.ownsRow base 91 5 (.slice (some ⟨g, 0, Option.none⟩) ((PS i).length + 1) cap) ((PS i).length + 1) (pc (PS i) ++ (pcells x).toList)) (hgrow : (w.alloc tmp).grownBy w1 v.ownBlock) (hat : v.ownBlock = some g ∨ w.heap.size ≤ g)
    (hi : PS' i = PS i ++ [x]) (hj : ∀ j, j ≠ i → PS' j = PS j) :
    Fam (w1.setCell ⟨b, i, Option.none⟩ (.slice (some ⟨g, 0, Option.none⟩) ((PS i).length + 1) cap)) b base n PS' (vs.set i (.slice (some ⟨g, 0, Option.none⟩) ((PS i).length + 1) cap)) := by
  have hin : i < vs.length := (List.getElem?_eq_some_iff.1 hv).1
  have kA : Keeps (fun k => some k = v.ownBlock) w w1 := ((Keeps.refl _ w).alloc tmp).grown hgrow (fun k e _ => e.symm)
  have hbne : ∀ k, v.ownBlock = some k → b ≠ k := fun k hk e => by
    subst e
    obtain ⟨_, cs, hc⟩ := own_block (h.row i v hv) hk
    rw [h.blk] at hc; cases hc
  have hb1 : w1.heap[b]? = some (.cells vs.toArray 96 (0, 0)) := (kA.block b (lt_of_block h.blk) (fun e => hbne b e.symm rfl)).trans h.blk
  obtain ⟨_, gcs, hgc⟩ := own_block (k := g) hown rfl
  have hgb : g ≠ b := fun e => by subst e; rw [hb1] at hgc; cases hgc
  refine ⟨?_, by simp [h.len], fun j u hu => ?_, fun j l u z k hne hu hz hk => ?_⟩
  · have := setCell_block hb1 i (.slice (some ⟨g, 0, Option.none⟩) ((PS i).length + 1) cap)
    simpa using this
  · by_cases e : j = i
    · subst e
      rw [List.getElem?_set_self hin] at hu
      injection hu with hu
      subst hu
      rw [hi, List.length_append, pc_snoc]
      exact own_apartV (X := At b) hown ((Keeps.refl (At b) _).set b _ (at_self b) _) (fun k hk e => by
        have h1 : g = k := by simpa [Value.ownBlock] using hk
        have h2 : k = b := e
        omega)
    · rw [List.getElem?_set_ne (fun h => e h.symm)] at hu
      rw [hj j e]
      have hr := own_apartV (h.row j u hu) kA (fun k hk e2 => h.apart j i u v k e hu hv hk e2.symm)
      refine own_apartV (X := At b) hr ((Keeps.refl (At b) _).set b _ (at_self b) _) (fun k hk e2 => ?_)
      have e2 : k = b := e2
      subst e2
      obtain ⟨_, cs, hc⟩ := own_block (h.row j u hu) hk
      rw [h.blk] at hc; cases hc
  · have old : ∀ (m : Nat) (y : Value) (k : Nat), m ≠ i → vs[m]? = some y → y.ownBlock = some k → k ≠ g := fun m y k hm hy hk e => by
      subst e
      rcases hat with h1 | h1
      · exact h.apart m i y v k hm hy hv hk h1
      · obtain ⟨_, cs, hc⟩ := own_block (h.row m y hy) hk
        have := lt_of_block hc; omega
    by_cases e1 : j = i
    · subst e1
      rw [List.getElem?_set_self hin] at hu
      injection hu with hu
      subst hu
      have hg : g = k := by simpa [Value.ownBlock] using hk
      subst hg
      rw [List.getElem?_set_ne hne] at hz
      exact fun hk' => old l z g (fun e => hne e.symm) hz hk' rfl
    · rw [List.getElem?_set_ne (fun h => e1 h.symm)] at hu
      by_cases e2 : l = i
      · subst e2
        rw [List.getElem?_set_self hin] at hz
        injection hz with hz
        subst hz
        intro hk'
        have hg : g = k := by simpa [Value.ownBlock] using hk'
        exact old j u k e1 hu hk hg.symm
      · rw [List.getElem?_set_ne (fun h => e2 h.symm)] at hz
        exact h.apart j l u z k hne hu hz hk
/-- The path that a side offers. -/
def pv (ids : List Int) (N : List Nd) (s : Sd) : Pth := ((valOf N s.f.b).1, (valOf N s.f.b).2 + s.n.c, idOf ids s.f.b, s.f.p, s.n.p)
/-- The paths that are offered to a bridge. -/
def offers (ids : List Int) (N : List Nd) (l : List Sd) (i : Nat) : List Pth := (l.filter (fun s => s.n.b = (i : Int))).map (pv ids N)
theorem offers_snoc (ids : List Int) (N : List Nd) (l : List Sd) (s : Sd) {i : Nat} (h : s.n.b = (i : Int)) : offers ids N (l ++ [s]) i = offers ids N l i ++ [pv ids N s] ∧ ∀ j, j ≠ i → offers ids N (l ++ [s]) j = offers ids N l j := by
  constructor
  · simp [offers, List.filter_append, h]
  · intro j hj
    have : ¬ s.n.b = (j : Int) := by omega
    simp [offers, List.filter_append, this]
/-- A bridge's root port. -/
def portOf (ids : List Int) (N : List Nd) (l : List Sd) (i : Nat) (x : Nd) : Nd :=
  match offers ids N l i with
  | [] => x
  | p :: ps => if x.r ≠ idOf ids i then { x with q := (best p ps).2.2.2.2 } else x
def ported (f : Nat → Nd → Nd) (k : Nat) (N : List Nd) : List Nd := N.mapIdx (fun i x => if i < k then f i x else x)
theorem ported_zero (f : Nat → Nd → Nd) (N : List Nd) : ported f 0 N = N := by
  apply List.ext_getElem?
  intro i
  simp [ported]
theorem ported_at {f : Nat → Nd → Nd} {k : Nat} {N : List Nd} {x : Nd} (h : N[k]? = some x) : (ported f k N)[k]? = some x := by simp [ported, h]
theorem ported_succ {f : Nat → Nd → Nd} {k : Nat} {N : List Nd} {x : Nd} (h : N[k]? = some x) : (ported f k N).set k (f k x) = ported f (k + 1) N := by
  have hk : k < N.length := (List.getElem?_eq_some_iff.1 h).1
  apply List.ext_getElem?
  intro i
  by_cases e : i = k
  · subst e
    rw [List.getElem?_set_self (by simpa [ported] using hk)]
    simp [ported, h]
  · rw [List.getElem?_set_ne (fun h => e h.symm)]
    have : (i < k + 1) ↔ (i < k) := by omega
    simp [ported, this]
theorem ported_len (f : Nat → Nd → Nd) (k : Nat) (N : List Nd) : (ported f k N).length = N.length := by simp [ported]
end Go.Proofs.Ythnkeppkhdceoaa
