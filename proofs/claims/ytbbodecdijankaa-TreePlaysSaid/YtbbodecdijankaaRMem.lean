/-
  Layer 9: the document's machine in memory. No condition.
-/
import Derived.Test.YtbbodecdijankaaMem
import Derived.Test.YtbbodecdijankaaBits
import Derived.Test.YtbbodecdijankaaOk
namespace Go.Proofs.Ytbbodecdijankaa
open Go.RowKit
set_option linter.unusedVariables false
set_option linter.unusedSimpArgs false

/-- Its own cells. -/
def rcl (τ : TM) (g c f : Nat) : Array Value := #[.int .u64 τ.id, .slice (some ⟨g, 0, Option.none⟩) τ.P.length c, .int .u64 τ.root, .int .u32 τ.cost, .int .i64 τ.port, .int .u8 τ.hops, .int .u64 τ.ver, .slice (some ⟨f, 0, Option.none⟩) τ.P.length τ.P.length]
/-- The document's machine at m, its ports at g, its row of Bools at f. -/
structure RMach (w : World) (m g c f : Nat) (τ : TM) : Prop where
  head : w.heap[m]? = some (.cells (rcl τ g c f) 50 (0, 0))
  row : Row w 92 g c τ.P
  fl : ∃ F : List Bool, F.length = τ.P.length ∧ w.heap[f]? = some (.cells (F.map Value.bool).toArray 4 (0, 0)) ∧ setOf F = τ.fl
/-- These three blocks alone. -/
def Om (m g f : Nat) : Nat → Prop := fun k => k = m ∨ k = g ∨ k = f
section
variable {w w' : World} {m g c f i : Nat} {τ τ' : TM} {x x' : Pt}
theorem RMach.mg (h : RMach w m g c f τ) : m ≠ g := by
  rintro rfl
  obtain ⟨cur, hb, _⟩ := h.row
  have := h.head
  rw [hb] at this
  injection this with this
  injection this with _ this
  exact absurd this (by decide)
theorem RMach.mf (h : RMach w m g c f τ) : m ≠ f := by
  rintro rfl
  obtain ⟨F, _, hb, _⟩ := h.fl
  have := h.head
  rw [hb] at this
  injection this with this
  injection this with _ this
  exact absurd this (by decide)
theorem RMach.gf (h : RMach w m g c f τ) : g ≠ f := by
  rintro rfl
  obtain ⟨F, _, hb, _⟩ := h.fl
  obtain ⟨cur, hb2, _⟩ := h.row
  rw [hb] at hb2
  injection hb2 with this
  injection this with _ this
  exact absurd this (by decide)
theorem RMach.keep {S : Nat → Prop} (h : RMach w m g c f τ) (k : Keeps S w w') (hm : ¬ S m) (hg : ¬ S g) (hf : ¬ S f) : RMach w' m g c f τ :=
  ⟨(k.block m (lt_of_block h.head) hm).trans h.head, h.row.keep k hg, by
    obtain ⟨F, h1, hb, h2⟩ := h.fl
    exact ⟨F, h1, (k.block f (lt_of_block hb) hf).trans hb, h2⟩⟩
theorem RMach.keepN (h : RMach w m g c f τ) (k : Keeps Nil w w') : RMach w' m g c f τ := h.keep k (fun e => e) (fun e => e) (fun e => e)
theorem RMach.alloc (h : RMach w m g c f τ) (o : Obj) : RMach (w.alloc o) m g c f τ := h.keepN ((Keeps.refl _ _).alloc o)
theorem RMach.drewN (h : RMach w m g c f τ) (n : Nat) : RMach (w.drewN n) m g c f τ := h.keepN (Keeps.drewN _ _)
theorem RMach.drew (h : RMach w m g c f τ) : RMach w.drew m g c f τ := h.keepN (Keeps.refl _ _).drew
theorem RMach.lt (h : RMach w m g c f τ) : m < w.heap.size ∧ g < w.heap.size ∧ f < w.heap.size := ⟨lt_of_block h.head, h.row.lt, by obtain ⟨F, _, hb, _⟩ := h.fl; exact lt_of_block hb⟩
theorem RMach.cells (h : RMach w m g c f τ) : (w.cell? ⟨m, 0, Option.none⟩ = some (.int .u64 τ.id) ∧ w.cell? ⟨m, 1, Option.none⟩ = some (.slice (some ⟨g, 0, Option.none⟩) τ.P.length c) ∧ w.cell? ⟨m, 2, Option.none⟩ = some (.int .u64 τ.root) ∧ w.cell? ⟨m, 3, Option.none⟩ = some (.int .u32 τ.cost) ∧
    w.cell? ⟨m, 4, Option.none⟩ = some (.int .i64 τ.port) ∧ w.cell? ⟨m, 5, Option.none⟩ = some (.int .u8 τ.hops) ∧ w.cell? ⟨m, 6, Option.none⟩ = some (.int .u64 τ.ver) ∧ w.cell? ⟨m, 7, Option.none⟩ = some (.slice (some ⟨f, 0, Option.none⟩) τ.P.length τ.P.length)) ∧ ∀ q, w.frozen? ⟨m, q, Option.none⟩ = false := by
  have hb := h.head
  refine ⟨?_, fun q => by simp [World.frozen?, hb]⟩
  simp [World.cell?, hb, rcl]
/-- A cell of its own turned. -/
theorem RMach.set (h : RMach w m g c f τ) (q : Nat) {v : Value} (hP : τ'.P = τ.P) (hf : τ'.fl = τ.fl) (hc : rcl τ' g c f = (rcl τ g c f).setIfInBounds q v) : RMach (w.setCell ⟨m, q, Option.none⟩ v) m g c f τ' :=
  ⟨by rw [hc]; exact setCell_block h.head q v, by rw [hP]; exact h.row.of_block (Below.heap_setCell _ _ _ _ (Ne.symm h.mg)), by
    obtain ⟨F, h1, hb, h2⟩ := h.fl
    exact ⟨F, by rw [hP]; exact h1, (Below.heap_setCell _ _ _ _ (Ne.symm h.mf)).trans hb, by rw [hf]; exact h2⟩⟩
/-- A cell of a port turned. -/
theorem RMach.put (h : RMach w m g c f τ) (q : Nat) (hq : q < 16) {v : Value} (hx : τ.P[i]? = some x) (hc : pcl x' = (pcl x).set q v) : RMach (w.setCell ⟨g, i * 16 + q, Option.none⟩ v) m g c f { τ with P := τ.P.set i x' } :=
  ⟨by
    have : rcl { τ with P := τ.P.set i x' } g c f = rcl τ g c f := by simp [rcl]
    rw [this]
    exact (Below.heap_setCell _ _ _ _ h.mg).trans h.head, h.row.put q hq hx hc, by
    obtain ⟨F, h1, hb, h2⟩ := h.fl
    exact ⟨F, by simpa using h1, (Below.heap_setCell _ _ _ _ (Ne.symm h.gf)).trans hb, h2⟩⟩
theorem RMach.putRange (h : RMach w m g c f τ) (o : Nat) (vs : List Value) (ho : o + vs.length ≤ 16) (hx : τ.P[i]? = some x) (hc : ∀ q, q < 16 → (pcl x')[q]? = if o ≤ q ∧ q < o + vs.length then vs[q - o]? else (pcl x)[q]?) :
    RMach (w.setCells g (i * 16 + o) vs) m g c f { τ with P := τ.P.set i x' } ∧ Keeps (At g) w (w.setCells g (i * 16 + o) vs) := by
  obtain ⟨hr, k⟩ := h.row.putRange o vs ho hx hc
  refine ⟨⟨?_, hr, ?_⟩, k⟩
  · have : rcl { τ with P := τ.P.set i x' } g c f = rcl τ g c f := by simp [rcl]
    rw [this]
    exact (k.block m h.lt.1 h.mg).trans h.head
  · obtain ⟨F, h1, hb, h2⟩ := h.fl
    exact ⟨F, by simpa using h1, (k.block f (lt_of_block hb) (Ne.symm h.gf)).trans hb, h2⟩
/-- A bit read. -/
theorem RMach.bit (h : RMach w m g c f τ) (hi : i < τ.P.length) : (∃ b, w.cell? ⟨f, i, Option.none⟩ = some (.bool b)) ∧ w.frozen? ⟨f, i, Option.none⟩ = false := by
  obtain ⟨F, h1, hb, h2⟩ := h.fl
  refine ⟨⟨F[i]'(by omega), ?_⟩, by simp [World.frozen?, hb]⟩
  simp [World.cell?, hb]
/-- A bit put in. -/
theorem RMach.flag (h : RMach w m g c f τ) (hi : i < τ.P.length) (h8 : τ.P.length ≤ 8) : RMach (w.setCell ⟨f, i, Option.none⟩ (.bool true)) m g c f { τ with fl := bor τ.fl i } := by
  refine ⟨(Below.heap_setCell _ _ _ _ h.mf).trans h.head, h.row.of_block (Below.heap_setCell _ _ _ _ h.gf), ?_⟩
  obtain ⟨F, h1, hb, h2⟩ := h.fl
  refine ⟨F.set i true, by simpa using h1, ?_, ?_⟩
  · rw [setCell_block hb i (.bool true)]
    congr 2
    simp
  · show setOf (F.set i true) = bor τ.fl i
    rw [← h2, bor_set (by omega) (by omega)]
end
theorem Keeps.mM {a w : World} {m g f : Nat} (k : Keeps (Om m g f) a w) (i : Nat) (u : Value) : Keeps (Om m g f) a (w.setCell ⟨m, i, Option.none⟩ u) := k.set m i (Or.inl rfl) u
theorem Keeps.mG {a w : World} {m g f : Nat} (k : Keeps (Om m g f) a w) (i : Nat) (u : Value) : Keeps (Om m g f) a (w.setCell ⟨g, i, Option.none⟩ u) := k.set g i (Or.inr (Or.inl rfl)) u
theorem Keeps.mF {a w : World} {m g f : Nat} (k : Keeps (Om m g f) a w) (i : Nat) (u : Value) : Keeps (Om m g f) a (w.setCell ⟨f, i, Option.none⟩ u) := k.set f i (Or.inr (Or.inr rfl)) u
theorem Keeps.omG {w w' : World} {m g f : Nat} (k : Keeps (At g) w w') : Keeps (Om m g f) w w' := k.mono (fun _ e => Or.inr (Or.inl e))
end Go.Proofs.Ytbbodecdijankaa
