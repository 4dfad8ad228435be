/-
  Small words of my own for memory: which blocks may have turned. No condition.
-/
import Derived.WalkKit
import Derived.WalkSpells
import Derived.WalkLawsBesides
import Derived.Handy
import Derived.Deep.QuietTactic
import Derived.BigQuiet
import Derived.Deep.Cut
namespace Go.Proofs.Ythnkeppkhdceoaa
set_option linter.unusedVariables false
set_option linter.unusedSimpArgs false
open Go.RowKit

theorem hid {p : Prop} (h : p) : Hid p := h

/-- Of the blocks that were there, only those of S may have turned. -/
structure Keeps (S : Nat → Prop) (w w' : World) : Prop where
  os : w'.os = w.os
  tape : w'.tape = w.tape
  output : w'.output = w.output
  size : w.heap.size ≤ w'.heap.size
  block : ∀ k, k < w.heap.size → ¬ S k → w'.heap[k]? = w.heap[k]?

/-- One block alone. -/
def At (b : Nat) : Nat → Prop := fun k => k = b
theorem at_self (b : Nat) : At b b := rfl
/-- None. -/
def Nil : Nat → Prop := fun _ => False

theorem Keeps.refl (S : Nat → Prop) (w : World) : Keeps S w w := ⟨rfl, rfl, rfl, Nat.le_refl _, fun _ _ _ => rfl⟩
theorem Keeps.trans {S : Nat → Prop} {a b c : World} (h : Keeps S a b) (k : Keeps S b c) : Keeps S a c :=
  ⟨k.os.trans h.os, k.tape.trans h.tape, k.output.trans h.output, Nat.le_trans h.size k.size,
   fun i hi hs => (k.block i (Nat.lt_of_lt_of_le hi h.size) hs).trans (h.block i hi hs)⟩
theorem Keeps.mono {S S' : Nat → Prop} {w w' : World} (h : Keeps S w w') (hS : ∀ k, S k → S' k) : Keeps S' w w' :=
  ⟨h.os, h.tape, h.output, h.size, fun k hk hs => h.block k hk (fun x => hs (hS k x))⟩
/-- What was made since may turn as it likes. -/
theorem Keeps.trans' {S S' : Nat → Prop} {a b c : World} (h : Keeps S a b) (k : Keeps S' b c) (hS : ∀ x, x < a.heap.size → S' x → S x) : Keeps S a c :=
  ⟨k.os.trans h.os, k.tape.trans h.tape, k.output.trans h.output, Nat.le_trans h.size k.size,
   fun i hi hs => (k.block i (Nat.lt_of_lt_of_le hi h.size) (fun x => hs (hS i hi x))).trans (h.block i hi hs)⟩
theorem Keeps.drew {S : Nat → Prop} {a w : World} (h : Keeps S a w) : Keeps S a w.drew := ⟨h.os, h.tape, h.output, h.size, h.block⟩
theorem Keeps.drewN (w : World) (n : Nat) : Keeps Nil w (w.drewN n) := ⟨rfl, rfl, rfl, Nat.le_refl _, fun _ _ _ => rfl⟩
theorem Keeps.alloc {S : Nat → Prop} {a w : World} (h : Keeps S a w) (o : Obj) : Keeps S a (w.alloc o) :=
  h.trans ⟨rfl, rfl, rfl, by simp, fun k hk _ => Below.heap_alloc _ _ _ (by omega)⟩
theorem Keeps.setCell {S : Nat → Prop} {a w : World} (h : Keeps S a w) {p : Addr} (hp : p.block < a.heap.size → S p.block) (u : Value) : Keeps S a (w.setCell p u) :=
  h.trans' (S' := fun k => k = p.block) ⟨rfl, rfl, rfl, by simp [World.setCell], fun k _ hk => Below.heap_setCell _ _ _ _ hk⟩ (fun x hx e => by subst e; exact hp hx)
theorem Keeps.set {S : Nat → Prop} {a w : World} (h : Keeps S a w) (b i : Nat) (hb : S b) (u : Value) : Keeps S a (w.setCell ⟨b, i, Option.none⟩ u) :=
  h.setCell (p := ⟨b, i, Option.none⟩) (fun _ => hb) u
theorem Keeps.below {S : Nat → Prop} {w w' : World} (h : Keeps S w w') (hS : ∀ k, k < w.heap.size → ¬ S k) : Below w.heap.size w w' :=
  ⟨h.os, h.tape, h.output, h.size, fun k hk => h.block k hk (hS k hk)⟩
theorem Keeps.of_below {w w' : World} (h : Below w.heap.size w w') (S : Nat → Prop) : Keeps S w w' :=
  ⟨h.os, h.tape, h.output, h.size, fun k hk _ => h.block k hk⟩
theorem Keeps.belowN {S : Nat → Prop} {B : Nat} {w w' : World} (h : Keeps S w w') (hB : B ≤ w.heap.size) (hS : ∀ k, k < B → ¬ S k) : Below B w w' :=
  ⟨h.os, h.tape, h.output, h.size, fun k hk => h.block k (by omega) (hS k hk)⟩
theorem Keeps.cell {S : Nat → Prop} {w w' : World} (h : Keeps S w w') {p : Addr} (hp : p.block < w.heap.size) (hs : ¬ S p.block) : w'.cell? p = w.cell? p :=
  World.cell?_of_block (w := w) (h.block p.block hp hs)
theorem Keeps.frozen {S : Nat → Prop} {w w' : World} (h : Keeps S w w') {p : Addr} (hp : p.block < w.heap.size) (hs : ¬ S p.block) : w'.frozen? p = w.frozen? p :=
  World.frozen?_of_block (w := w) (h.block p.block hp hs)

theorem Keeps.thenAt {S : Nat → Prop} {a w w' : World} {c : Nat} (h : Keeps S a w) (k : Keeps (At c) w w') (hc : a.heap.size ≤ c) : Keeps S a w' :=
  h.trans' k (fun x hx e => by rw [show x = c from e] at hx; omega)
theorem Keeps.ofNil {S : Nat → Prop} {w w' : World} (h : Keeps Nil w w') : Keeps S w w' := h.mono (fun _ e => e.elim)
theorem Keeps.thenNil {S : Nat → Prop} {a w w' : World} (h : Keeps S a w) (k : Keeps Nil w w') : Keeps S a w' := h.trans k.ofNil
theorem Keeps.thenOwn {S : Nat → Prop} {a w w' : World} {p : Nat → Prop} (h : Keeps S a w) (k : Keeps p w w') (hp : ∀ g, p g → a.heap.size ≤ g) : Keeps S a w' :=
  h.trans' k (fun x hx e => by have := hp x e; omega)
theorem Keeps.grown {S : Nat → Prop} {a w w' : World} {row : Option Nat} (h : Keeps S a w) (hg : w.grownBy w' row) (hr : ∀ k, row = some k → k < a.heap.size → S k) : Keeps S a w' :=
  h.trans' (S' := fun k => some k = row) ⟨hg.os, hg.tape, hg.output, hg.size, fun k hk hs => hg.block k hk hs⟩ (fun x hx e => hr x e.symm hx)
theorem ownsRow_keep {S : Nat → Prop} {w w' : World} {base : Nat} {e : TypeId} {size : Nat} {v : Value} {n : Nat} {xs : List Value} (h : w.ownsRow base e size v n xs) (k : Keeps S w w') (hS : ∀ g, base ≤ g → ¬ S g) : w'.ownsRow base e size v n xs := by
  refine ⟨h.1, ?_⟩
  rcases h.2 with hn | ⟨g, cap, cur, rfl, hb, hgg, rest⟩
  · exact .inl hn
  · exact .inr ⟨g, cap, cur, rfl, hb, (k.block g (Array.getElem?_eq_some_iff.1 hgg).1 (hS g hb)).trans hgg, rest⟩
/-- The cells of a row that the call owns (elements of one cell). -/
theorem ownsRow_read {w : World} {base : Nat} {e : TypeId} {v : Value} {n : Nat} {xs : List Value} (h : w.ownsRow base e 1 v n xs) :
    (v = .slice Option.none 0 0 ∧ n = 0 ∧ xs = []) ∨ ∃ g cap, v = .slice (some ⟨g, 0, Option.none⟩) n cap ∧ base ≤ g ∧ g < w.heap.size ∧ n ≤ cap ∧ xs.length = n ∧ ∀ j u, xs[j]? = some u → w.cell? ⟨g, j, Option.none⟩ = some u := by
  have hl := h.1
  rcases h.2 with ⟨rfl, rfl⟩ | ⟨g, cap, cur, rfl, hb, hgg, hn, rest⟩
  · exact .inl ⟨rfl, rfl, List.eq_nil_of_length_eq_zero (by simpa using hl)⟩
  · refine .inr ⟨g, cap, rfl, hb, (Array.getElem?_eq_some_iff.1 hgg).1, hn, by omega, fun j u hu => ?_⟩
    have := h.cells (g := g) rfl j u hu
    rwa [show (⟨g, 0, Option.none⟩ : Addr).add j = ⟨g, j, Option.none⟩ from by unfold Addr.add; split <;> simp_all] at this

theorem own_shape {w : World} {base : Nat} {e : TypeId} {size : Nat} {v : Value} {n : Nat} {xs : List Value} (h : w.ownsRow base e size v n xs) : ∃ p c, v = .slice p n c := by
  rcases h.2 with ⟨rfl, rfl⟩ | ⟨g, cap, cur, rfl, _⟩
  · exact ⟨Option.none, 0, rfl⟩
  · exact ⟨_, _, rfl⟩

theorem own_at {w : World} {base : Nat} {e : TypeId} {p : Option Addr} {n c j : Nat} {xs : List Value} {u : Value} (h : w.ownsRow base e 1 (.slice p n c) n xs) (hj : xs[j]? = some u) :
    ∃ g, p = some ⟨g, 0, Option.none⟩ ∧ base ≤ g ∧ g < w.heap.size ∧ n ≤ c ∧ w.cell? ⟨g, j, Option.none⟩ = some u := by
  rcases ownsRow_read h with ⟨_, _, rfl⟩ | ⟨g, cap, hv, hb, hl, hn, _, hc⟩
  · simp at hj
  · injection hv with h1 h2 h3
    subst h3
    exact ⟨g, h1, hb, hl, hn, hc j u hj⟩

theorem quiet_left {P : Program} {f : FuncId} {args : Array Value} {w : World} {n : Nat} {v : Value}
    (h : Calls P f args (w.drewN n) fun e w' => e = .returned v ∧ w.drewN n = w') : Calls P f args (w.drewN n) fun e w'' => e = .returned v ∧ ∃ m, w'' = w.drewN m :=
  h.mono fun _ _ ⟨he, hm⟩ => ⟨he, n, hm.symm⟩

theorem lt_of_block {w : World} {b : Nat} {o : Obj} (h : w.heap[b]? = some o) : b < w.heap.size := by
  rcases Nat.lt_or_ge b w.heap.size with h' | h'
  · exact h'
  · simp [Array.getElem?_eq_none h'] at h

theorem setCell_block {w : World} {b : Nat} {c : Array Value} {t : TypeId} {fz : Nat × Nat} (h : w.heap[b]? = some (.cells c t fz)) (i : Nat) (v : Value) :
    (w.setCell ⟨b, i, Option.none⟩ v).heap[b]? = some (.cells (c.setIfInBounds i v) t fz) := by
  have hlt := lt_of_block h
  have h' : w.heap[b] = .cells c t fz := by simpa [Array.getElem?_eq_getElem hlt] using h
  show (w.heap.modify b _)[b]? = _
  rw [Array.getElem?_eq_getElem (by simpa using hlt), Array.getElem_modify_self, h']
  rfl
theorem alloc_block (w : World) (o : Obj) : (w.alloc o).heap[w.heap.size]? = some o := by
  show (w.heap.push o)[w.heap.size]? = _
  simp


theorem modify_modify (h : Array Obj) (b : Nat) (f g : Obj → Obj) : (h.modify b f).modify b g = h.modify b (fun o => g (f o)) := by
  apply Array.ext_getElem?
  intro i
  simp only [Array.getElem?_modify]
  by_cases hb : b = i
  · simp only [hb, if_true]; cases h[i]? <;> rfl
  · simp only [hb, if_false]

/-- A cell that is written twice holds what was written last. -/
@[go_sem] theorem setCell_over (w : World) (b i : Nat) (u v : Value) : (w.setCell ⟨b, i, Option.none⟩ u).setCell ⟨b, i, Option.none⟩ v = w.setCell ⟨b, i, Option.none⟩ v := by
  simp only [World.setCell, modify_modify]
  congr 1
  congr 1
  funext o
  cases o <;> simp
/-- Stores into one block stand in the order of its cells. -/
@[go_sem] theorem setCell_order (w : World) (b i j : Nat) (u v : Value) (h : Nat.blt i j = true) :
    (w.setCell ⟨b, j, Option.none⟩ u).setCell ⟨b, i, Option.none⟩ v = (w.setCell ⟨b, i, Option.none⟩ v).setCell ⟨b, j, Option.none⟩ u := by
  have h' : i < j := by simpa [Nat.blt_eq] using h
  simp only [World.setCell, modify_modify]
  congr 1
  congr 1
  funext o
  cases o <;> simp
  rename_i c _ _
  rw [Array.setIfInBounds_comm _ _ (by omega)]

end Go.Proofs.Ythnkeppkhdceoaa
