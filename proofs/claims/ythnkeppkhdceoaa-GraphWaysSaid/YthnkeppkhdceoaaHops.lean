/-
  Graphs, plain: what a walk's hops say; the tree of a graph that may be is such a tree. Condition: the graph may be.
-/
import Derived.Test.YthnkeppkhdceoaaWays
namespace Go.Proofs.Ythnkeppkhdceoaa
open Go.RowKit
set_option linter.unusedVariables false
set_option linter.unusedSimpArgs false

def hopsE : Int → Int → List Sd → Int → List Hp
  | a, p, [], o => [⟨a, p, o⟩]
  | a, p, s :: l, o => ⟨a, p, s.n.p⟩ :: hopsE s.f.b s.f.p l o
theorem hopsE_len (l : List Sd) : ∀ (a p o : Int), (hopsE a p l o).length = l.length + 1 := by
  induction l with
  | nil => intro a p o; rfl
  | cons s l ih => intro a p o; simp [hopsE, ih]
theorem hopsE_snoc (t : Sd) (l : List Sd) : ∀ (a p o : Int), hopsE a p (l ++ [t]) o = hopsE a p l t.n.p ++ [⟨t.f.b, t.f.p, o⟩] := by
  induction l with
  | nil => intro a p o; rfl
  | cons s l ih => intro a p o; simp [hopsE, ih]
def swapH (x : Hp) : Hp := ⟨x.b, x.o, x.i⟩
variable {S : List Sd} {In : Nat → Bool} {q c r : Int → Int}
theorem hopsE_back {b p' : Int} : ∀ (l : List Sd) {a p : Int} (o : Int), Wz S In a p l b p' → ((hopsE a p l o).map swapH).reverse = hopsE b o (l.reverse.map revS) p := by
  intro l
  induction l with
  | nil => intro a p o w; obtain ⟨e, _⟩ := w.inv_nil; subst e; rfl
  | cons s l ih =>
    intro a p o w
    obtain ⟨hs, hi, hp, hb, hw⟩ := w.inv_cons
    subst hb
    rw [List.reverse_cons, List.map_append, List.map_singleton, hopsE_snoc]
    simp only [hopsE, List.map_cons, List.reverse_cons]
    rw [ih o hw]
    rfl
theorem wk_wz {t a p : Int} {hs : List Hp} (h : Wk S In t a p hs) : ∃ l p', Wz S In a p l t p' ∧ hs = hopsE a p l (-1) := by
  induction h with
  | nil p => exact ⟨[], p, .nil _ _, rfl⟩
  | cons s p l hs hi hp hb _ ih =>
    obtain ⟨l', p', w, e⟩ := ih
    exact ⟨s :: l', p', .cons s p l' _ _ hs hi hp w, by rw [e]; rfl⟩
theorem wz_wk (h : Tr S In q c r) {t p' : Int} : ∀ (l : List Sd) {a p : Int}, Wz S In a p l t p' → Wk S In t a p (hopsE a p l (-1)) := by
  intro l
  induction l with
  | nil => intro a p w; obtain ⟨e, _⟩ := w.inv_nil; subst e; exact .nil p
  | cons s l ih =>
    intro a p w
    obtain ⟨hs, hi, hp, hb, hw⟩ := w.inv_cons
    subst hb
    refine .cons s p _ hs hi hp (fun e => ?_) (ih hw)
    have := Wz.closed h _ (s :: l) (Nat.le_refl _) (e ▸ w)
    cases this
theorem hopsE_split {b p' : Int} : ∀ (l1 : List Sd) {l2 : List Sd} {a p : Int} (o : Int), Wz S In a p (l1 ++ l2) b p' → ∃ m pm, Wz S In a p l1 m pm ∧ Wz S In m pm l2 b p' ∧ ∀ i, (hopsE a p (l1 ++ l2) o)[l1.length + i]? = (hopsE m pm l2 o)[i]? := by
  intro l1
  induction l1 with
  | nil => intro l2 a p o w; exact ⟨a, p, .nil _ _, w, fun i => by simp⟩
  | cons s l1 ih =>
    intro l2 a p o w
    obtain ⟨hs, hi, hp, hb, hw⟩ := w.inv_cons
    subst hb
    obtain ⟨m, pm, w1, w2, hg⟩ := ih o hw
    refine ⟨m, pm, .cons s p _ _ _ hs hi hp w1, w2, fun i => ?_⟩
    rw [← hg i, List.cons_append, List.length_cons, show l1.length + 1 + i = (l1.length + i) + 1 by omega]
    rfl
/-- What the hops of a way say. -/
structure WayIs (S : List Sd) (In : Nat → Bool) (a b : Int) (P : List Hp) : Prop where
  len : 0 < P.length
  first : ∀ x, P[0]? = some x → x.b = a ∧ x.i = -1
  last : ∀ x, P[P.length - 1]? = some x → x.b = b ∧ x.o = -1
  once : ∀ (k i : Nat) (x y : Hp), k < i → P[k]? = some x → P[i]? = some y → x.b ≠ y.b
  over : ∀ (i : Nat) (x y : Hp), P[i]? = some x → P[i + 1]? = some y → ∃ s ∈ S, In s.k.toNat = true ∧ s.n.b = x.b ∧ s.n.p = x.o ∧ s.f.b = y.b ∧ s.f.p = y.i
theorem hops_zero (a p o : Int) (l : List Sd) : ∃ x, (hopsE a p l o)[0]? = some x ∧ x.b = a ∧ x.i = p := by
  cases l <;> exact ⟨_, rfl, rfl, rfl⟩
theorem hops_is (h : Tr S In q c r) {a b p' : Int} {l : List Sd} (w : Wz S In a (-1) l b p') : WayIs S In a b (hopsE a (-1) l (-1)) := by
  refine ⟨by rw [hopsE_len]; omega, fun x hx => ?_, fun x hx => ?_, fun k i x y hki hx hy => ?_, fun i x y hx hy => ?_⟩
  · obtain ⟨z, hz, h1, h2⟩ := hops_zero a (-1) (-1) l
    rw [hz] at hx; cases hx; exact ⟨h1, h2⟩
  · obtain ⟨m, pm, w1, w2, hg⟩ := hopsE_split l (l2 := []) (-1) (by rw [List.append_nil]; exact w)
    rw [List.append_nil] at hg
    have := hg 0
    rw [hopsE_len] at hx
    rw [show l.length + 1 - 1 = l.length + 0 by omega, this] at hx
    obtain ⟨e, _⟩ := w2.inv_nil
    simp [hopsE] at hx
    subst hx
    exact ⟨e.symm, rfl⟩
  · have hil : i < l.length + 1 := by have := (List.getElem?_eq_some_iff.1 hy).1; rwa [hopsE_len] at this
    obtain ⟨m, pm, w1, w2, hg⟩ := hopsE_split (l.take k) (l2 := l.drop k) (-1) (by rw [List.take_append_drop]; exact w)
    rw [List.take_append_drop] at hg
    have hk : (l.take k).length = k := by rw [List.length_take]; omega
    rw [hk] at hg
    obtain ⟨m2, pm2, w3, w4, hg2⟩ := hopsE_split ((l.drop k).take (i - k)) (l2 := (l.drop k).drop (i - k)) (-1) (by rw [List.take_append_drop]; exact w2)
    rw [List.take_append_drop] at hg2
    have hk2 : ((l.drop k).take (i - k)).length = i - k := by rw [List.length_take, List.length_drop]; omega
    rw [hk2] at hg2
    obtain ⟨z1, hz1, b1, _⟩ := hops_zero m pm (-1) (l.drop k)
    obtain ⟨z2, hz2, b2, _⟩ := hops_zero m2 pm2 (-1) ((l.drop k).drop (i - k))
    have e1 := hg 0
    rw [Nat.add_zero, hx, hz1] at e1
    have e2 := hg2 0
    have e3 := hg (i - k)
    rw [Nat.add_zero, hz2] at e2
    rw [show k + (i - k) = i by omega, hy, e2] at e3
    injection e1 with e1
    injection e3 with e3
    subst e1 e3
    rw [b1, b2]
    intro e
    subst e
    have := Wz.closed h _ _ (Nat.le_refl _) w3
    have h0 : ((l.drop k).take (i - k)).length = 0 := by rw [this]; rfl
    omega
  · have hil : i + 1 < l.length + 1 := by have := (List.getElem?_eq_some_iff.1 hy).1; rwa [hopsE_len] at this
    obtain ⟨m, pm, w1, w2, hg⟩ := hopsE_split (l.take i) (l2 := l.drop i) (-1) (by rw [List.take_append_drop]; exact w)
    rw [List.take_append_drop] at hg
    have hk : (l.take i).length = i := by rw [List.length_take]; omega
    rw [hk] at hg
    obtain ⟨s, l2, hl2⟩ : ∃ s l2, l.drop i = s :: l2 := by
      cases hd : l.drop i with
      | nil => have := List.length_drop (l := l) (i := i); rw [hd] at this; simp at this; omega
      | cons s l2 => exact ⟨s, l2, rfl⟩
    rw [hl2] at w2 hg
    obtain ⟨hs, hi, hp, hb, hw⟩ := w2.inv_cons
    obtain ⟨z, hz, b1, b2⟩ := hops_zero s.f.b s.f.p (-1) l2
    have e1 := hg 0
    have e2 := hg 1
    rw [Nat.add_zero, hx] at e1
    rw [hy] at e2
    simp only [hopsE] at e1 e2
    rw [show ((⟨m, pm, s.n.p⟩ : Hp) :: hopsE s.f.b s.f.p l2 (-1))[1]? = (hopsE s.f.b s.f.p l2 (-1))[0]? from rfl, hz] at e2
    rw [show ((⟨m, pm, s.n.p⟩ : Hp) :: hopsE s.f.b s.f.p l2 (-1))[0]? = some ⟨m, pm, s.n.p⟩ from rfl] at e1
    injection e1 with e1
    injection e2 with e2
    subst e1 e2
    exact ⟨s, hs, hi, hb, rfl, b1.symm, b2.symm⟩
/-- Both ways: there and back. -/
theorem ways_same (h : Tr S In q c r) {a b : Int} {P Q : List Hp} (hP : Wk S In b a (-1) P) (hQ : Wk S In a b (-1) Q) : WayIs S In a b P ∧ Q.length = P.length ∧ ∀ (i : Nat) (x : Hp), P[i]? = some x → Q[Q.length - 1 - i]? = some ⟨x.b, x.o, x.i⟩ := by
  obtain ⟨l, p', w, rfl⟩ := wk_wz hP
  obtain ⟨l', p'', w', rfl⟩ := wk_wz hQ
  have e : l' = l.reverse.map revS := Wz.unique h _ _ _ (Nat.le_refl _) w' (Wz.back h w)
  subst e
  have hb := hopsE_back l (-1) w
  refine ⟨hops_is h w, by simp [hopsE_len], fun i x hx => ?_⟩
  rw [← hb]
  have hil : i < (hopsE a (-1) l (-1)).length := (List.getElem?_eq_some_iff.1 hx).1
  have hl : ((hopsE a (-1) l (-1)).map swapH).length = (hopsE a (-1) l (-1)).length := by simp
  rw [List.getElem?_reverse (by simp; omega)]
  rw [List.length_reverse, hl, show (hopsE a (-1) l (-1)).length - 1 - ((hopsE a (-1) l (-1)).length - 1 - i) = i by omega, List.getElem?_map, hx]
  rfl
end Go.Proofs.Ythnkeppkhdceoaa
