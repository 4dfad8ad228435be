/-
  Layer 16: the document's table as it lies, by value, and its plain data. No condition.
-/
import Derived.Test.YtbgijlfdgfhceaaMep
namespace Go.Proofs.Ytbgijlfdgfhceaa
open Go.RowKit
set_option linter.unusedVariables false
set_option linter.unusedSimpArgs false

/-- Is it at a port, in a VLAN? -/
def isM (p v : Int) (m : Mi) : Bool := decide (m.port = p) && decide (m.vid = v)
theorem isM_iff {p v : Int} {m : Mi} : isM p v m = true ↔ m.port = p ∧ m.vid = v := by simp [isM]
/-- The document's row of middle points tells what the program's list tells; no more than k. -/
structure Mat (k : Nat) (M : List (Pl × Int)) (R : List Mi) : Prop where
  tells : ∀ p v, sget M ⟨p, v⟩ = (R.find? (isM p v)).map Mi.lv
  once : R.Pairwise (fun a b => ¬(a.port = b.port ∧ a.vid = b.vid))
  len : R.length ≤ k
theorem Mat.start : Mat 0 [] [] := ⟨fun p v => rfl, .nil, Nat.le_refl _⟩
theorem Mat.more {k : Nat} {M : List (Pl × Int)} {R : List Mi} (h : Mat k M R) : Mat (k + 1) M R := ⟨h.tells, h.once, Nat.le_succ_of_le h.len⟩
theorem Mat.some_iff {k : Nat} {M : List (Pl × Int)} {R : List Mi} (h : Mat k M R) (p v : Int) : (sget M ⟨p, v⟩).isSome = R.any (isM p v) := by
  rw [h.tells, Option.isSome_map, Bool.eq_iff_iff]
  simp
/-- What is told of a place is a member of the row. -/
theorem Mat.mem {k : Nat} {M : List (Pl × Int)} {R : List Mi} (h : Mat k M R) {m : Mi} (hm : m ∈ R) : sget M ⟨m.port, m.vid⟩ = some m.lv := by
  rw [h.tells]
  have key : ∀ R : List Mi, R.Pairwise (fun a b => ¬(a.port = b.port ∧ a.vid = b.vid)) → m ∈ R → R.find? (isM m.port m.vid) = some m := by
    intro R
    induction R with
    | nil => intro _ h; cases h
    | cons x r ih =>
      intro hp hx
      rw [List.pairwise_cons] at hp
      rcases List.mem_cons.1 hx with rfl | hx
      · simp [isM]
      · have hn := hp.1 m hx
        have : isM m.port m.vid x = false := by
          cases hb : isM m.port m.vid x with
          | false => rfl
          | true => exact absurd (isM_iff.1 hb) hn
        rw [List.find?_cons, this]
        exact ih hp.2 hx
  rw [key R h.once hm]; rfl
theorem Mat.put {k : Nat} {M : List (Pl × Int)} {R : List Mi} (h : Mat k M R) {m : Mi} (hn : sget M ⟨m.port, m.vid⟩ = none) : Mat (k + 1) (sput M ⟨m.port, m.vid⟩ m.lv) (R ++ [m]) := by
  have hno : R.any (isM m.port m.vid) = false := by rw [← h.some_iff, hn]; rfl
  refine ⟨fun p v => ?_, List.pairwise_append.2 ⟨h.once, by simp, fun a ha b hb => ?_⟩, by simp; exact h.len⟩
  · rw [sget_put, List.find?_append]
    by_cases e : (⟨m.port, m.vid⟩ : Pl) = ⟨p, v⟩
    · rw [if_pos e]
      injection e with e1 e2
      subst e1 e2
      have : R.find? (isM m.port m.vid) = none := by
        rw [List.find?_eq_none]
        intro x hx hb
        rw [List.any_eq_false] at hno
        exact hno x hx hb
      rw [this]
      simp [isM]
    · rw [if_neg e, h.tells]
      have : isM p v m = false := by
        cases hb : isM p v m with
        | false => rfl
        | true => obtain ⟨h1, h2⟩ := isM_iff.1 hb; subst h1 h2; exact absurd rfl e
      simp [this]
  · simp at hb
    subst hb
    intro e
    rw [List.any_eq_false] at hno
    exact hno a ha (isM_iff.2 e)
def nM (p v : Int) (m : Mi) : Bool := !isM p v m
theorem Mat.del {k : Nat} {M : List (Pl × Int)} {R : List Mi} (h : Mat k M R) (p v : Int) : Mat k (sdel M ⟨p, v⟩) (R.filter (nM p v)) := by
  refine ⟨fun q u => ?_, h.once.filter _, Nat.le_trans (List.length_filter_le _ _) h.len⟩
  rw [sget_del, h.tells]
  have key : ∀ R : List Mi, (if (⟨p, v⟩ : Pl) = ⟨q, u⟩ then none else (R.find? (isM q u)).map Mi.lv) = ((R.filter (nM p v)).find? (isM q u)).map Mi.lv := by
    intro R
    induction R with
    | nil => simp
    | cons x r ih =>
      rw [List.filter_cons, List.find?_cons]
      cases hx : isM p v x with
      | true =>
        simp only [nM, hx, Bool.not_true, Bool.false_eq_true, if_false]
        rw [← ih]
        obtain ⟨e1, e2⟩ := isM_iff.1 hx
        by_cases e : (⟨p, v⟩ : Pl) = ⟨q, u⟩
        · rw [if_pos e, if_pos e]
        · rw [if_neg e, if_neg e]
          have : isM q u x = false := by
            cases hb : isM q u x with
            | false => rfl
            | true => obtain ⟨h1, h2⟩ := isM_iff.1 hb; exact absurd (by rw [← e1, ← e2, h1, h2]) e
          rw [this]
      | false =>
        simp only [nM, hx, Bool.not_false, if_true, List.find?_cons]
        cases hq : isM q u x with
        | true =>
          obtain ⟨h1, h2⟩ := isM_iff.1 hq
          have e : ¬ (⟨p, v⟩ : Pl) = ⟨q, u⟩ := fun e => by
            injection e with a b
            rw [← a, ← b] at hq
            rw [hq] at hx; cases hx
          rw [if_neg e]
        | false => exact ih
  exact key R
theorem filt_same {α : Type} (f : α → Bool) (L : List α) : ((L.filter f).length = L.length) = (L.any (fun x => !f x) = false) := by
  rw [List.length_filter_eq_length_iff]
  simp

/-- The document's table by value. -/
abbrev rtab (n : Int) (pA : Option Addr) (nA cA : Nat) (pE : Option Addr) (nE cE : Nat) (pM : Option Addr) (nM cM : Nat) : Value := .agg #[.int .i64 n, .slice pA nA cA, .slice pE nE cE, .slice pM nM cM]
structure RTAt (w0 w : World) (k : Nat) (τ : CT) (pA : Option Addr) (cA : Nat) (pE : Option Addr) (cE : Nat) (pM : Option Addr) (cM : Nat) (L : List As) (R : List Mi) : Prop where
  base : Keeps Nil w0 w
  ownA : w.ownsRow 0 37 6 (.slice pA L.length cA) L.length (flatA L)
  bare : L.map As.bare = τ.A
  nums : ∀ x ∈ L, MsV w0 0 x
  ownE : w.ownsRow 0 39 4 (.slice pE τ.E.length cE) τ.E.length (flatE τ.E)
  ownM : w.ownsRow 0 41 3 (.slice pM R.length cM) R.length (flatM R)
  mat : Mat k τ.M R
def RV (w0 w : World) (k : Nat) (τ : CT) (v : Value) : Prop := ∃ pA cA pE cE pM cM L R, v = rtab τ.n pA L.length cA pE τ.E.length cE pM R.length cM ∧ RTAt w0 w k τ pA cA pE cE pM cM L R
theorem own_keepT {X : Nat → Prop} {w w' : World} {B T sz n : Nat} {v : Value} {xs : List Value} (h : w.ownsRow B T sz v n xs) (k : Keeps X w w') (hX : NotT w T X) : w'.ownsRow B T sz v n xs := by
  refine ⟨h.1, ?_⟩
  rcases h.2 with h1 | ⟨g, cap, cur, hv, hb, hg, r⟩
  · exact .inl h1
  · exact .inr ⟨g, cap, cur, hv, hb, (k.block g (lt_of_block hg) (fun e => hX g _ _ e hg)).trans hg, r⟩
section
variable {w0 w w' : World} {k : Nat} {τ : CT} {pA pE pM : Option Addr} {cA cE cM : Nat} {L : List As} {R : List Mi}
theorem RTAt.rowA (h : RTAt w0 w k τ pA cA pE cE pM cM L R) : WV w 0 6 pA L.length cA (flatA L) := WV.of_own h.ownA
theorem RTAt.rowE (h : RTAt w0 w k τ pA cA pE cE pM cM L R) : WV w 0 4 pE τ.E.length cE (flatE τ.E) := WV.of_own h.ownE
theorem RTAt.rowM (h : RTAt w0 w k τ pA cA pE cE pM cM L R) : WV w 0 3 pM R.length cM (flatM R) := WV.of_own h.ownM
theorem RTAt.numsW (h : RTAt w0 w k τ pA cA pE cE pM cM L R) : ∀ x ∈ L, MsV w 0 x := fun x hx => (h.nums x hx).keepN h.base
theorem own_keepN {B T sz n : Nat} {v : Value} {xs : List Value} (h : w.ownsRow B T sz v n xs) (k : Keeps Nil w w') : w'.ownsRow B T sz v n xs := ownsRow_keep h k (fun _ _ e => e)
theorem RTAt.keepN (h : RTAt w0 w k τ pA cA pE cE pM cM L R) (kk : Keeps Nil w w') : RTAt w0 w' k τ pA cA pE cE pM cM L R :=
  ⟨h.base.trans kk, own_keepN h.ownA kk, h.bare, h.nums, own_keepN h.ownE kk, own_keepN h.ownM kk, h.mat⟩
/-- A block of another type turns, that was made since. -/
theorem RTAt.keepT {X : Nat → Prop} (h : RTAt w0 w k τ pA cA pE cE pM cM L R) (kk : Keeps X w w') (h1 : NotT w 37 X) (h2 : NotT w 39 X) (h3 : NotT w 41 X) (hn : ∀ g, X g → w0.heap.size ≤ g) : RTAt w0 w' k τ pA cA pE cE pM cM L R :=
  ⟨h.base.thenOwn kk hn, own_keepT h.ownA kk h1, h.bare, h.nums, own_keepT h.ownE kk h2, own_keepT h.ownM kk h3, h.mat⟩
theorem RTAt.more (h : RTAt w0 w k τ pA cA pE cE pM cM L R) : RTAt w0 w (k + 1) τ pA cA pE cE pM cM L R := ⟨h.base, h.ownA, h.bare, h.nums, h.ownE, h.ownM, h.mat.more⟩
theorem RV.keepN {v : Value} (h : RV w0 w k τ v) (kk : Keeps Nil w w') : RV w0 w' k τ v := by
  obtain ⟨a, b, c, d, e, f, L, R, hv, h⟩ := h
  exact ⟨a, b, c, d, e, f, L, R, hv, h.keepN kk⟩
theorem RV.more {v : Value} (h : RV w0 w k τ v) : RV w0 w (k + 1) τ v := by
  obtain ⟨a, b, c, d, e, f, L, R, hv, h⟩ := h
  exact ⟨a, b, c, d, e, f, L, R, hv, h.more⟩
theorem RV.base {v : Value} (h : RV w0 w k τ v) : Keeps Nil w0 w := by
  obtain ⟨a, b, c, d, e, f, L, R, hv, h⟩ := h
  exact h.base
theorem RTAt.rv (h : RTAt w0 w k τ pA cA pE cE pM cM L R) : RV w0 w k τ (rtab τ.n pA L.length cA pE τ.E.length cE pM R.length cM) := ⟨_, _, _, _, _, _, _, _, rfl, h⟩
theorem RTAt.lenA (h : RTAt w0 w k τ pA cA pE cE pM cM L R) : L.length = τ.A.length := by rw [← h.bare, List.length_map]
theorem RTAt.getA (h : RTAt w0 w k τ pA cA pE cE pM cM L R) (i : Nat) : τ.A[i]? = (L[i]?).map As.bare := by rw [← h.bare, List.getElem?_map]
theorem RTAt.ms (h : RTAt w0 w k τ pA cA pE cE pM cM L R) (g : τ.Good) {x : As} (hx : x ∈ L) : x.ms.length ≤ 8 ∧ (0 ≤ x.lv ∧ x.lv ≤ 7) := by
  have : x.bare ∈ τ.A := by rw [← h.bare]; exact List.mem_map.2 ⟨x, hx, rfl⟩
  have h1 := g.may _ this
  have h2 := mayA_ms h1.1
  exact ⟨h2.1, h1.2.1, h2.2⟩
/-- The association of an end point. -/
theorem RTAt.ofE (h : RTAt w0 w k τ pA cA pE cE pM cM L R) (g : τ.Good) {x : Me} (hx : x ∈ τ.E) : ∃ (i : Nat) (y : As), x.ai = i ∧ L[i]? = some y ∧ i < L.length ∧ (τ.of x).vid = y.vid ∧ (τ.of x).lv = y.lv ∧ τ.of x = y.bare := by
  have he := g.ent x hx
  obtain ⟨y, hy⟩ : ∃ y, L[x.ai.toNat]? = some y := ⟨_, List.getElem?_eq_getElem (by have := h.lenA; omega)⟩
  have e : τ.of x = y.bare := by
    unfold CT.of
    rw [List.getD, h.getA, hy]; rfl
  exact ⟨x.ai.toNat, y, by omega, hy, (List.getElem?_eq_some_iff.1 hy).1, by rw [e]; rfl, by rw [e]; rfl, e⟩
theorem RTAt.nil (n : Int) (w : World) : RTAt w w 0 ⟨n, [], [], []⟩ Option.none 0 Option.none 0 Option.none 0 [] [] := ⟨Keeps.refl _ _, World.ownsRow_nil _ _ _ _, rfl, (fun _ h => by cases h), World.ownsRow_nil _ _ _ _, World.ownsRow_nil _ _ _ _, Mat.start⟩
end
theorem free_block {w : World} {b : Nat} {c : Array Value} {T : TypeId} (h : w.heap[b]? = some (.cells c T (0, 0))) (q : Nat) : w.frozen? ⟨b, q, Option.none⟩ = false := by simp [World.frozen?, h]
theorem four_free {w : World} {b : Nat} {c : Array Value} {T : TypeId} (h : w.heap[b]? = some (.cells c T (0, 0))) :
    w.frozen? ⟨b, 0, Option.none⟩ = false ∧ w.frozen? ⟨b, 1, Option.none⟩ = false ∧ w.frozen? ⟨b, 2, Option.none⟩ = false ∧ w.frozen? ⟨b, 3, Option.none⟩ = false := by
  simp [World.frozen?, h]
theorem set4 {w : World} {b : Nat} {T : TypeId} {x0 x1 x2 x3 : Value} (h : w.heap[b]? = some (.cells #[x0, x1, x2, x3] T (0, 0))) (u0 u1 u2 u3 : Value) :
    ∃ w2, ((((w.setCell ⟨b, 0, Option.none⟩ u0).setCell ⟨b, 1, Option.none⟩ u1).setCell ⟨b, 2, Option.none⟩ u2).setCell ⟨b, 3, Option.none⟩ u3) = w2 ∧ w2.heap[b]? = some (.cells #[u0, u1, u2, u3] T (0, 0)) ∧ Keeps (At b) w w2 :=
  ⟨_, rfl, setCell_block (setCell_block (setCell_block (setCell_block h 0 u0) 1 u1) 2 u2) 3 u3, ((((Keeps.refl _ _).set _ _ (at_self _) _).set _ _ (at_self _) _).set _ _ (at_self _) _).set _ _ (at_self _) _⟩
theorem Keeps.lies {S : Nat → Prop} {w w' : World} {b : Nat} {o : Obj} (k : Keeps S w w') (h : w.heap[b]? = some o) (hb : ¬ S b := by exact fun e => e) : w'.heap[b]? = some o := (k.block b (lt_of_block h) hb).trans h
theorem two_alloc (w : World) (A B : Obj) : ((w.alloc A).alloc B).heap[w.heap.size]? = some A ∧ ((w.alloc A).alloc B).heap[w.heap.size + 1]? = some B := by
  have k : Keeps Nil (w.alloc A) ((w.alloc A).alloc B) := (Keeps.refl _ _).alloc _
  refine ⟨k.lies (alloc_block w A), ?_⟩
  have := alloc_block (w.alloc A) B
  rwa [show (w.alloc A).heap.size = w.heap.size + 1 from by simp] at this
theorem three_alloc (w : World) (A B C : Obj) : (((w.alloc A).alloc B).alloc C).heap[w.heap.size]? = some A ∧ (((w.alloc A).alloc B).alloc C).heap[w.heap.size + 1]? = some B ∧ (((w.alloc A).alloc B).alloc C).heap[w.heap.size + 1 + 1]? = some C := by
  obtain ⟨h1, h2⟩ := two_alloc w A B
  obtain ⟨_, h3⟩ := two_alloc (w.alloc A) B C
  rw [show (w.alloc A).heap.size = w.heap.size + 1 from by simp] at h3
  have k : Keeps Nil ((w.alloc A).alloc B) (((w.alloc A).alloc B).alloc C) := (Keeps.refl _ _).alloc _
  exact ⟨k.lies h1, k.lies h2, h3⟩
end Go.Proofs.Ytbgijlfdgfhceaa
