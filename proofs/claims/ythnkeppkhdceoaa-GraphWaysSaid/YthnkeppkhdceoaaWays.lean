/-
  Graphs, plain: the tree's links lead from each bridge to its parent; a walk along them that does not turn back is the only one, goes through no bridge twice, and back it is the same. Condition: the graph may be.
-/
import Derived.Test.YthnkeppkhdceoaaWay
namespace Go.Proofs.Ythnkeppkhdceoaa
open Go.RowKit
set_option linter.unusedVariables false
set_option linter.unusedSimpArgs false

/-- What is known of the tree's links: near's root port, or far's; costs grow away from the root. -/
structure Tr (S : List Sd) (In : Nat → Bool) (q : Int → Int) (c : Int → Int) (r : Int → Int) : Prop where
  rev : ∀ s ∈ S, (⟨s.k, s.f, s.n⟩ : Sd) ∈ S
  uniq : ∀ s ∈ S, ∀ t ∈ S, s.n.b = t.n.b → s.n.p = t.n.p → s = t
  isin : ∀ s ∈ S, (In s.k.toNat = true ↔ q s.n.b = s.n.p ∨ q s.f.b = s.f.p)
  up : ∀ s ∈ S, q s.n.b = s.n.p → c s.f.b < c s.n.b ∧ r s.f.b = r s.n.b
  nonneg : ∀ s ∈ S, 0 ≤ c s.n.b
  port : ∀ s ∈ S, 0 ≤ s.n.p

variable {S : List Sd} {In : Nat → Bool} {q c r : Int → Int}

/-- Either the near end's root port leads up, or the far end's leads down. -/
theorem Tr.way (h : Tr S In q c r) {s : Sd} (hs : s ∈ S) (hi : In s.k.toNat = true) : (q s.n.b = s.n.p ∧ q s.f.b ≠ s.f.p ∧ c s.f.b < c s.n.b) ∨ (q s.f.b = s.f.p ∧ q s.n.b ≠ s.n.p ∧ c s.n.b < c s.f.b) := by
  have h1 := h.up s hs
  have h2 := h.up _ (h.rev s hs)
  dsimp only at h2
  rcases (h.isin s hs).1 hi with e | e
  · refine .inl ⟨e, fun e2 => ?_, (h1 e).1⟩
    have := (h1 e).1; have := (h2 e2).1; omega
  · refine .inr ⟨e, fun e2 => ?_, (h2 e).1⟩
    have := (h1 e2).1; have := (h2 e).1; omega
theorem Tr.root (h : Tr S In q c r) {s : Sd} (hs : s ∈ S) (hi : In s.k.toNat = true) : r s.f.b = r s.n.b := by
  rcases (h.isin s hs).1 hi with e | e
  · exact (h.up s hs e).2
  · exact ((h.up _ (h.rev s hs) e).2).symm
/-- So far from an end is a walk that came in by this port. -/
def muOf (q c : Int → Int) (a p : Int) : Nat := if q a = p ∧ 0 ≤ p then (33554432 - c a).toNat else (33554432 + c a).toNat
theorem Tr.mu (h : Tr S In q c r) (hc : ∀ s ∈ S, c s.n.b ≤ 1000000) {s : Sd} (hs : s ∈ S) (hi : In s.k.toNat = true) (p : Int) (hp : s.n.p ≠ p) : muOf q c s.f.b s.f.p < muOf q c s.n.b p := by
  have n1 := h.nonneg s hs
  have n2 := h.nonneg _ (h.rev s hs)
  have m1 := hc s hs
  have m2 := hc _ (h.rev s hs)
  have p2 := h.port _ (h.rev s hs)
  dsimp only at n2 m2 p2
  unfold muOf
  rcases h.way hs hi with ⟨e1, e2, e3⟩ | ⟨e1, e2, e3⟩
  · rw [if_neg (fun x => e2 x.1), if_neg (fun x => by rw [e1] at x; exact hp x.1)]
    omega
  · rw [if_pos ⟨e1, p2⟩]
    split <;> omega
theorem mu_le (q c : Int → Int) (a p : Int) (h0 : 0 ≤ c a) (h1 : c a ≤ 1000000) : muOf q c a p ≤ 100000000 := by
  unfold muOf; split <;> omega

/-- The walk's steps alone: sides in a row. -/
inductive Wz (S : List Sd) (In : Nat → Bool) : Int → Int → List Sd → Int → Int → Prop
  | nil (a p : Int) : Wz S In a p [] a p
  | cons (s : Sd) (p : Int) (l : List Sd) (b p' : Int) : s ∈ S → In s.k.toNat = true → s.n.p ≠ p → Wz S In s.f.b s.f.p l b p' → Wz S In s.n.b p (s :: l) b p'
theorem Wz.inv_nil {a p b p' : Int} (w : Wz S In a p [] b p') : b = a ∧ p' = p := by cases w; exact ⟨rfl, rfl⟩
theorem Wz.inv_cons {a p b p' : Int} {s : Sd} {l : List Sd} (w : Wz S In a p (s :: l) b p') : s ∈ S ∧ In s.k.toNat = true ∧ s.n.p ≠ p ∧ s.n.b = a ∧ Wz S In s.f.b s.f.p l b p' := by
  cases w with
  | cons _ _ _ _ _ hs hi hp hw => exact ⟨hs, hi, hp, rfl, hw⟩
theorem Wz.snoc {a p b p' : Int} {l : List Sd} (h : Wz S In a p l b p') {s : Sd} (hs : s ∈ S) (hi : In s.k.toNat = true) (hb : s.n.b = b) (hp : s.n.p ≠ p') : Wz S In a p (l ++ [s]) s.f.b s.f.p := by
  induction h with
  | nil a p => subst hb; exact .cons s p [] _ _ hs hi hp (.nil _ _)
  | cons t p l b p' ht hti htp _ ih => exact .cons t p _ _ _ ht hti htp (ih hb hp)
/-- Once down, only down. -/
theorem Wz.down (h : Tr S In q c r) {a p b p' : Int} {l : List Sd} (w : Wz S In a p l b p') (hd : q a = p ∧ 0 ≤ p) : (l ≠ [] → c a < c b) ∧ c a ≤ c b ∧ q b = p' ∧ 0 ≤ p' := by
  induction w with
  | nil a p => exact ⟨fun h => absurd rfl h, Int.le_refl _, hd⟩
  | cons s p l b p' hs hi hp hw ih =>
    rcases h.way hs hi with ⟨e1, e2, e3⟩ | ⟨e1, e2, e3⟩
    · exact absurd (e1.symm.trans hd.1) hp
    · have := ih ⟨e1, h.port _ (h.rev s hs)⟩
      exact ⟨fun _ => by omega, by omega, this.2.2⟩
/-- A walk that ends no deeper than it began begins upward. -/
theorem Wz.first (h : Tr S In q c r) {b p' : Int} {s : Sd} {l : List Sd} (hs : s ∈ S) (hi : In s.k.toNat = true) (w : Wz S In s.f.b s.f.p l b p') (hc : c b ≤ c s.n.b) : q s.n.b = s.n.p := by
  rcases h.way hs hi with ⟨e1, e2, e3⟩ | ⟨e1, e2, e3⟩
  · exact e1
  · have := (Wz.down h w ⟨e1, h.port _ (h.rev s hs)⟩).2.1
    omega
theorem Wz.split : ∀ (l1 : List Sd) {l2 : List Sd} {a p b p' : Int}, Wz S In a p (l1 ++ l2) b p' → ∃ m pm, Wz S In a p l1 m pm ∧ Wz S In m pm l2 b p' := by
  intro l1
  induction l1 with
  | nil => intro l2 a p b p' w; exact ⟨a, p, .nil _ _, w⟩
  | cons s l1 ih =>
    intro l2 a p b p' w
    obtain ⟨hs, hi, hp, rfl, hw⟩ := w.inv_cons
    obtain ⟨m, pm, w1, w2⟩ := ih hw
    exact ⟨m, pm, .cons s p _ _ _ hs hi hp w1, w2⟩
theorem Wz.one {a p b p' : Int} {t : Sd} (w : Wz S In a p [t] b p') : t ∈ S ∧ In t.k.toNat = true ∧ t.n.p ≠ p ∧ t.n.b = a ∧ t.f.b = b ∧ t.f.p = p' := by
  obtain ⟨hs, hi, hp, hb, hw⟩ := w.inv_cons
  obtain ⟨e1, e2⟩ := hw.inv_nil
  exact ⟨hs, hi, hp, hb, e1.symm, e2.symm⟩
theorem Wz.lastUp (h : Tr S In q c r) {t : Sd} : ∀ (l : List Sd) {a p b p' : Int}, Wz S In a p l t.n.b p' → t ∈ S → In t.k.toNat = true → t.n.p ≠ p' → q t.n.b = t.n.p → c t.n.b ≤ c a := by
  intro l
  induction l with
  | nil => intro a p b p' w ht hi hp hq; rw [w.inv_nil.1]; exact Int.le_refl _
  | cons s l ih =>
    intro a p b p' w ht hi hp hq
    obtain ⟨hs, hsi, hsp, rfl, hw⟩ := w.inv_cons
    rcases h.way hs hsi with ⟨e1, e2, e3⟩ | ⟨e1, e2, e3⟩
    · have := ih (b := b) hw ht hi hp hq; omega
    · have := Wz.down h hw ⟨e1, h.port _ (h.rev s hs)⟩
      exact absurd (hq.symm.trans this.2.2.1) hp
theorem exists_snoc {α : Type} (l : List α) (h : l ≠ []) : ∃ l' x, l = l' ++ [x] := ⟨l.dropLast, l.getLast h, (List.dropLast_concat_getLast h).symm⟩
/-- The last step of a walk that ends deeper than it began leads down. -/
theorem Wz.last (h : Tr S In q c r) {a p b p' : Int} {l : List Sd} {t : Sd} (w : Wz S In a p (l ++ [t]) b p') (hc : c a ≤ c b) : q t.f.b = t.f.p ∧ t.f.b = b ∧ t ∈ S ∧ In t.k.toNat = true ∧ ∃ pm, t.n.p ≠ pm ∧ Wz S In a p l t.n.b pm := by
  obtain ⟨m, pm, w1, w2⟩ := Wz.split l w
  obtain ⟨ht, hi, hp, rfl, rfl, rfl⟩ := w2.one
  refine ⟨?_, rfl, ht, hi, pm, hp, w1⟩
  rcases h.way ht hi with ⟨e1, e2, e3⟩ | ⟨e1, e2, e3⟩
  · have := Wz.lastUp h l (b := 0) w1 ht hi hp e1
    omega
  · exact e1
/-- No walk comes back. -/
theorem Wz.closed (h : Tr S In q c r) : ∀ (n : Nat) (l : List Sd) {a p p' : Int}, l.length ≤ n → Wz S In a p l a p' → l = [] := by
  intro n
  induction n with
  | zero => intro l a p p' hn _; exact List.eq_nil_of_length_eq_zero (by omega)
  | succ n ih =>
    intro l a p p' hn w
    cases l with
    | nil => rfl
    | cons s l =>
      exfalso
      obtain ⟨hs, hi, hp, rfl, hw⟩ := w.inv_cons
      have hq := Wz.first h hs hi hw (Int.le_refl _)
      have hu := (h.up s hs hq).1
      have hne : l ≠ [] := fun e => by subst e; have := hw.inv_nil.1; rw [this] at hu; omega
      obtain ⟨l2, t, rfl⟩ := exists_snoc l hne
      obtain ⟨h1, h2, ht, hti, pm, hpm, hw2⟩ := Wz.last h hw (by omega)
      have e : (⟨t.k, t.f, t.n⟩ : Sd) = s := h.uniq _ (h.rev t ht) s hs h2 (by show t.f.p = s.n.p; rw [← h1, h2]; exact hq)
      subst e
      dsimp only at hw2 hpm h2
      have := ih l2 (by simp at hn; omega) hw2
      subst this
      exact hpm hw2.inv_nil.2.symm
/-- The walk is the only one. -/
theorem Wz.unique (h : Tr S In q c r) : ∀ (n : Nat) (l l' : List Sd) {a b p p' p'' : Int}, l.length + l'.length ≤ n → Wz S In a p l b p' → Wz S In a p l' b p'' → l = l' := by
  intro n
  induction n with
  | zero => intro l l' a b p p' p'' hn _ _; rw [List.eq_nil_of_length_eq_zero (show l.length = 0 by omega), List.eq_nil_of_length_eq_zero (show l'.length = 0 by omega)]
  | succ n ih =>
    intro l l' a b p p' p'' hn w w'
    by_cases hl : l = []
    · subst hl
      obtain ⟨e1, e2⟩ := w.inv_nil
      subst e1
      exact (Wz.closed h _ l' (Nat.le_refl _) w').symm
    · by_cases hl' : l' = []
      · subst hl'
        obtain ⟨e1, e2⟩ := w'.inv_nil
        subst e1
        exact Wz.closed h _ l (Nat.le_refl _) w
      · by_cases hc : c b ≤ c a
        · obtain ⟨s, l1, rfl⟩ : ∃ s l1, l = s :: l1 := by cases l with
            | nil => exact absurd rfl hl
            | cons s l => exact ⟨s, l, rfl⟩
          obtain ⟨s', l1', rfl⟩ : ∃ s l1, l' = s :: l1 := by cases l' with
            | nil => exact absurd rfl hl'
            | cons s l => exact ⟨s, l, rfl⟩
          obtain ⟨hs, hi, hp, hsa, hw⟩ := w.inv_cons
          obtain ⟨hs', hi', hp', hsa', hw'⟩ := w'.inv_cons
          have e1 := Wz.first h hs hi hw (by rw [hsa]; exact hc)
          have e2 := Wz.first h hs' hi' hw' (by rw [hsa']; exact hc)
          have e : s = s' := h.uniq s hs s' hs' (hsa.trans hsa'.symm) (by rw [← e1, ← e2, hsa, hsa'])
          subst e
          rw [ih l1 l1' (by simp at hn; omega) hw hw']
        · obtain ⟨l1, t, rfl⟩ := exists_snoc l hl
          obtain ⟨l1', t', rfl⟩ := exists_snoc l' hl'
          obtain ⟨e1, b1, ht, hti, pm, hpm, hw⟩ := Wz.last h w (by omega)
          obtain ⟨e2, b2, ht', hti', pm', hpm', hw'⟩ := Wz.last h w' (by omega)
          have e : (⟨t.k, t.f, t.n⟩ : Sd) = ⟨t'.k, t'.f, t'.n⟩ := h.uniq _ (h.rev t ht) _ (h.rev t' ht') (by rw [b1, b2]) (by show t.f.p = t'.f.p; rw [← e1, ← e2, b1, b2])
          have e' : t = t' := by
            obtain ⟨k1, n1, f1⟩ := t
            obtain ⟨k2, n2, f2⟩ := t'
            injection e with a1 a2 a3
            subst a1 a2 a3
            rfl
          subst e'
          rw [ih l1 l1' (by simp at hn; omega) hw hw']
def revS (s : Sd) : Sd := ⟨s.k, s.f, s.n⟩
def headP : List Sd → Int
  | [] => -1
  | s :: _ => s.n.p
/-- Back it is a walk too. -/
theorem Wz.back (h : Tr S In q c r) {a p b p' : Int} {l : List Sd} (w : Wz S In a p l b p') : Wz S In b (-1) (l.reverse.map revS) a (headP l) := by
  induction w with
  | nil a p => exact .nil _ _
  | cons s p l b p' hs hi hp hw ih =>
    rw [List.reverse_cons, List.map_append]
    refine Wz.snoc ih (s := revS s) (h.rev s hs) hi rfl ?_
    show s.f.p ≠ headP l
    cases l with
    | nil => intro e; have := h.port _ (h.rev s hs); simp [headP] at e; dsimp only at this; omega
    | cons t l => intro e; exact hw.inv_cons.2.2.1 e.symm
theorem Wz.root (h : Tr S In q c r) {a p b p' : Int} {l : List Sd} (w : Wz S In a p l b p') : r b = r a := by
  induction w with
  | nil => rfl
  | cons s p l b p' hs hi hp hw ih => rw [ih, h.root hs hi]
theorem Wz.port {a p p2 b p' : Int} {l : List Sd} (w : Wz S In a p l b p') (hp : headP l ≠ p2 ∨ l = []) : ∃ p3, Wz S In a p2 l b p3 := by
  cases w with
  | nil => exact ⟨_, .nil _ _⟩
  | cons s _ l b p' hs hi hsp hw =>
    refine ⟨_, .cons s p2 l b p' hs hi ?_ hw⟩
    rcases hp with hp | hp
    · exact hp
    · cases hp
/-- Who is joined has a walk. -/
theorem Wz.exists (h : Tr S In q c r) (V : Int → Prop) (hV : ∀ s ∈ S, V s.n.b) (hn : ∀ x, V x → 0 ≤ c x) (hpar : ∀ x, V x → (c x = 0 ∧ ∀ y, V y → c y = 0 → r x = r y → x = y) ∨ ∃ s ∈ S, s.n.b = x ∧ q x = s.n.p) :
    ∀ (n : Nat) (a b : Int), V a → V b → r a = r b → (c a + c b).toNat ≤ n → ∃ l p', Wz S In a (-1) l b p' := by
  have hin : ∀ s ∈ S, q s.n.b = s.n.p → In s.k.toNat = true := fun s hs e => (h.isin s hs).2 (.inl e)
  intro n
  induction n with
  | zero =>
    intro a b ha hb hr hm
    have h1 := hn a ha
    have h2 := hn b hb
    rcases hpar a ha with ⟨_, hu⟩ | ⟨s, hs, rfl, hq⟩
    · exact ⟨[], -1, hu b hb (by omega) hr ▸ .nil _ _⟩
    · have := (h.up s hs hq).1
      have := h.nonneg _ (h.rev s hs)
      dsimp only at this
      omega
  | succ n ih =>
    intro a b ha hb hr hm
    have h1 := hn a ha
    have h2 := hn b hb
    by_cases hab : a = b
    · subst hab; exact ⟨[], -1, .nil _ _⟩
    · by_cases hc : c b ≤ c a
      · rcases hpar a ha with ⟨h0, hu⟩ | ⟨s, hs, rfl, hq⟩
        · exact absurd (hu b hb (by omega) hr) hab
        · have hup := h.up s hs hq
          obtain ⟨l, p', w⟩ := ih s.f.b b (hV _ (h.rev s hs)) hb (hup.2.trans hr) (by omega)
          have hport : headP l ≠ s.f.p ∨ l = [] := by
            cases l with
            | nil => exact .inr rfl
            | cons t l1 =>
              refine .inl (fun e => ?_)
              obtain ⟨ht, hti, htp, htb, hw⟩ := w.inv_cons
              have et : t = ⟨s.k, s.f, s.n⟩ := h.uniq t ht _ (h.rev s hs) htb e
              subst et
              have hd := Wz.down h hw ⟨hq, h.port s hs⟩
              dsimp only at hd
              have := hd.2.1
              by_cases hl : l1 = []
              · subst hl; exact hab hw.inv_nil.1.symm
              · have := hd.1 hl; omega
          obtain ⟨p3, w3⟩ := w.port hport
          exact ⟨s :: l, _, .cons s (-1) l _ _ hs (hin s hs hq) (by have := h.port s hs; omega) w3⟩
      · rcases hpar b hb with ⟨h0, hu⟩ | ⟨s, hs, rfl, hq⟩
        · omega
        · have hup := h.up s hs hq
          obtain ⟨l, p', w⟩ := ih a s.f.b ha (hV _ (h.rev s hs)) (hr.trans hup.2.symm) (by omega)
          refine ⟨l ++ [revS s], _, w.snoc (s := revS s) (h.rev s hs) (hin s hs hq) rfl ?_⟩
          show s.f.p ≠ p'
          intro e
          by_cases hl : l = []
          · subst hl
            have h3 := w.inv_nil.2
            have := h.port _ (h.rev s hs)
            dsimp only at this
            omega
          · obtain ⟨l1, t, rfl⟩ := exists_snoc l hl
            obtain ⟨m, pm, w1, w2⟩ := Wz.split l1 w
            obtain ⟨ht, hti, hp, hm', hb', hp'⟩ := w2.one
            have et : (⟨t.k, t.f, t.n⟩ : Sd) = ⟨s.k, s.f, s.n⟩ := h.uniq _ (h.rev t ht) _ (h.rev s hs) hb' (by show t.f.p = s.f.p; omega)
            have et' : t = s := by
              obtain ⟨k1, n1, f1⟩ := t
              obtain ⟨k2, n2, f2⟩ := s
              injection et with a1 a2 a3
              subst a1 a2 a3
              rfl
            subst et'
            subst hm'
            have := Wz.lastUp h l1 (b := 0) w1 ht hti hp hq
            omega
end Go.Proofs.Ythnkeppkhdceoaa
