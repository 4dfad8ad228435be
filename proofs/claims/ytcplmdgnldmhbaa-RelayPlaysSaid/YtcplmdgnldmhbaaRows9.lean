/-
  Layer 8: rows of entries in memory. No condition.
-/
import Derived.Test.YtcplmdgnldmhbaaEnt
import Derived.Laws.AppendOwn
namespace Go.Proofs.Ytcplmdgnldmhbaa
open Go.RowKit
set_option linter.unusedVariables false

abbrev En.cells (x : En) : List Value := [.int .u16 x.p.v, .int .u8 x.p.a, .int .u8 x.p.b, .int .u8 x.p.c, .int .u8 x.p.d, .int .u8 x.p.e, .int .u8 x.p.f, .int .u8 x.port, .int .i64 x.age]
def flat (L : List En) : List Value := L.flatMap En.cells
theorem flat_nil : flat [] = [] := rfl
theorem flat_cons (x : En) (L : List En) : flat (x :: L) = x.cells ++ flat L := rfl
theorem flat_len (L : List En) : (flat L).length = L.length * 9 := by
  induction L with
  | nil => rfl
  | cons x L ih => rw [flat_cons, List.length_append, ih, List.length_cons]; simp; omega
theorem flat_append (L M : List En) : flat (L ++ M) = flat L ++ flat M := by simp [flat]
theorem flat_get (L : List En) : ∀ (i q : Nat), q < 9 → (flat L)[i * 9 + q]? = (L[i]?).bind (fun x => x.cells[q]?) := by
  induction L with
  | nil => intro i q hq; simp [flat]
  | cons x L ih =>
    intro i q hq
    rw [flat_cons]
    cases i with
    | zero =>
      rw [Nat.zero_mul, Nat.zero_add, List.getElem?_append_left (by simpa using hq)]
      rfl
    | succ i =>
      rw [List.getElem?_append_right (by simp; omega)]
      have : (i + 1) * 9 + q - x.cells.length = i * 9 + q := by simp; omega
      rw [this, ih i q hq]
      rfl
theorem flat_one (L : List En) : ∀ u ∈ flat L, u.oneCell' = true := by
  intro u hu
  obtain ⟨x, _, hx⟩ := List.mem_flatMap.1 hu
  simp [En.cells] at hx
  rcases hx with rfl | rfl | rfl | rfl | rfl | rfl | rfl | rfl | rfl <;> rfl

/-- The i-th entry's cells. -/
def EAt (cur : Array Value) (i : Nat) (x : En) : Prop := ∀ q v, x.cells[q]? = some v → cur[i * 9 + q]? = some v
/-- Block g is a row of entries. -/
def Row (w : World) (g c : Nat) (L : List En) : Prop :=
  ∃ cur, w.heap[g]? = some (.cells cur 95 (0, 0)) ∧ cur.size = c * 9 ∧ c ≤ maxLen ∧ L.length ≤ c ∧ ∀ i x, L[i]? = some x → EAt cur i x
theorem Row.lt {w : World} {g c : Nat} {L : List En} (h : Row w g c L) : g < w.heap.size := by
  obtain ⟨cur, h, _⟩ := h; exact lt_of_block h
theorem Row.keep {S : Nat → Prop} {w w' : World} {g c : Nat} {L : List En} (h : Row w g c L) (k : Keeps S w w') (hS : ¬ S g) : Row w' g c L := by
  have hl := h.lt
  obtain ⟨cur, h, r⟩ := h; exact ⟨cur, (k.block g hl hS).trans h, r⟩
theorem Row.read {w : World} {g c : Nat} {L : List En} (h : Row w g c L) {i : Nat} {x : En} (hx : L[i]? = some x) :
    (w.cell? ⟨g, i * 9, Option.none⟩ = some (.int .u16 x.p.v) ∧ w.cell? ⟨g, i * 9 + 1, Option.none⟩ = some (.int .u8 x.p.a) ∧ w.cell? ⟨g, i * 9 + 2, Option.none⟩ = some (.int .u8 x.p.b) ∧ w.cell? ⟨g, i * 9 + 3, Option.none⟩ = some (.int .u8 x.p.c) ∧
    w.cell? ⟨g, i * 9 + 4, Option.none⟩ = some (.int .u8 x.p.d) ∧ w.cell? ⟨g, i * 9 + 5, Option.none⟩ = some (.int .u8 x.p.e) ∧ w.cell? ⟨g, i * 9 + 6, Option.none⟩ = some (.int .u8 x.p.f) ∧ w.cell? ⟨g, i * 9 + 7, Option.none⟩ = some (.int .u8 x.port) ∧
    w.cell? ⟨g, i * 9 + 8, Option.none⟩ = some (.int .i64 x.age)) ∧ ∀ q, w.frozen? ⟨g, q, Option.none⟩ = false := by
  obtain ⟨cur, hb, _, _, _, hat⟩ := h
  have H := hat i x hx
  have C : ∀ q v, x.cells[q]? = some v → w.cell? ⟨g, i * 9 + q, Option.none⟩ = some v := fun q v hv => by
    have := H q v hv
    simp [World.cell?, hb, this]
  refine ⟨⟨?_, C 1 _ rfl, C 2 _ rfl, C 3 _ rfl, C 4 _ rfl, C 5 _ rfl, C 6 _ rfl, C 7 _ rfl, C 8 _ rfl⟩, fun q => by simp [World.frozen?, hb]⟩
  have := C 0 _ rfl
  simpa using this

theorem Row.own {w : World} {B g c : Nat} {L : List En} (h : Row w g c L) (hB : B ≤ g) : w.ownsRow B 95 9 (.slice (some ⟨g, 0, Option.none⟩) L.length c) L.length (flat L) := by
  obtain ⟨cur, hb, hs, hm, hl, hat⟩ := h
  refine ⟨flat_len L, .inr ⟨g, c, cur, rfl, hB, hb, hl, hm, hs, ?_⟩⟩
  apply List.ext_getElem?
  intro k
  rw [List.getElem?_take]
  by_cases hk : k < L.length * 9
  · rw [if_pos hk]
    have e : k = (k / 9) * 9 + k % 9 := by omega
    obtain ⟨x, hx⟩ : ∃ x, L[k / 9]? = some x := ⟨_, List.getElem?_eq_getElem (by omega)⟩
    have hq : k % 9 < 9 := Nat.mod_lt _ (by omega)
    obtain ⟨v, hv⟩ : ∃ v, x.cells[k % 9]? = some v := ⟨_, List.getElem?_eq_getElem (by simpa using hq)⟩
    have h1 := hat _ x hx _ v hv
    have h2 := flat_get L (k / 9) (k % 9) hq
    rw [hx] at h2
    simp only [Option.bind_some, hv] at h2
    rw [← e] at h1 h2
    rw [h2]
    simpa using h1
  · rw [if_neg hk, List.getElem?_eq_none (by rw [flat_len]; omega)]
theorem Row.of_own {w : World} {B n c : Nat} {p : Option Addr} {L : List En} (h : w.ownsRow B 95 9 (.slice p n c) n (flat L)) : L.length = n ∧ ((p = Option.none ∧ n = 0 ∧ c = 0) ∨ ∃ g, p = some ⟨g, 0, Option.none⟩ ∧ B ≤ g ∧ Row w g c L) := by
  obtain ⟨hl, h⟩ := h
  rw [flat_len] at hl
  have hn : L.length = n := by omega
  refine ⟨hn, ?_⟩
  rcases h with ⟨hv, hz⟩ | ⟨g, cap, cur, hv, hB, hb, hle, hm, hs, ht⟩
  · injection hv with h1 h2 h3
    exact .inl ⟨h1, hz, h3⟩
  · injection hv with h1 h2 h3
    subst h3
    refine .inr ⟨g, h1, hB, cur, hb, hs, hm, by omega, fun i x hx q v hv => ?_⟩
    have hi : i < L.length := (List.getElem?_eq_some_iff.1 hx).1
    have hq : q < 9 := by have := (List.getElem?_eq_some_iff.1 hv).1; simpa using this
    have h2 := flat_get L i q hq
    rw [hx] at h2
    simp only [Option.bind_some, hv] at h2
    rw [← ht, List.getElem?_take, if_pos (by omega)] at h2
    simpa using h2

/-- The place of the first that fits; -1: none does. -/
def idx (P : En → Bool) : List En → Int
  | [] => -1
  | x :: r => if P x then 0 else if idx P r < 0 then -1 else idx P r + 1
theorem idx_ge (P : En → Bool) (L : List En) : -1 ≤ idx P L := by
  induction L with
  | nil => simp [idx]
  | cons x r ih =>
    simp only [idx]
    split
    · omega
    · split <;> omega
theorem idx_hit (P : En → Bool) : ∀ (L : List En) (k : Nat) (x : En), L[k]? = some x → P x = true → (∀ (j : Nat) (y : En), j < k → L[j]? = some y → P y = false) → idx P L = k
  | [], k, x, h, _, _ => by simp at h
  | y :: r, 0, x, h, hp, _ => by simp at h; subst h; simp [idx, hp]
  | y :: r, k + 1, x, h, hp, ha => by
    have h0 : P y = false := ha 0 y (by omega) rfl
    have := idx_hit P r k x (by simpa using h) hp (fun j z hj hz => ha (j + 1) z (by omega) (by simpa using hz))
    simp only [idx, h0, this]
    rw [if_neg (by simp), if_neg (by omega)]
    push_cast
    rfl
theorem idx_miss (P : En → Bool) : ∀ (L : List En), (∀ (j : Nat) (y : En), L[j]? = some y → P y = false) → idx P L = -1
  | [], _ => rfl
  | y :: r, ha => by
    have h0 : P y = false := ha 0 y rfl
    have := idx_miss P r (fun j z hz => ha (j + 1) z (by simpa using hz))
    simp [idx, h0, this]
end Go.Proofs.Ytcplmdgnldmhbaa
