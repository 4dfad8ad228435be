/-
  Layer 16: end points, associations, middle points, numbers: as they lie in rows. No condition.
-/
import Derived.Test.YtbgijlfdgfhceaaWV
import Derived.Test.YtbgijlfdgfhceaaMapP
namespace Go.Proofs.Ytbgijlfdgfhceaa
open Go.RowKit
set_option linter.unusedVariables false
set_option linter.unusedSimpArgs false

/-- An end point. -/
structure Me where
  ai : Int
  id : Int
  port : Int
  up : Bool
  deriving DecidableEq
/-- A middle point. -/
structure Mi where
  port : Int
  vid : Int
  lv : Int
  deriving DecidableEq
/-- An association, and where its numbers lie. -/
structure As where
  lv : Int
  dom : ByteArray
  own : ByteArray
  vid : Int
  iv : Int
  ms : List Int
  p : Option Addr
  c : Nat
theorem slice_one (p : Option Addr) (n c : Nat) : (Value.slice p n c).oneCell' = true := rfl

abbrev cellsE (x : Me) : List Value := [.int .i64 x.ai, .int .u16 x.id, .int .u8 x.port, .bool x.up]
def flatE (L : List Me) : List Value := L.flatMap cellsE
theorem flatE_cons (x : Me) (L : List Me) : flatE (x :: L) = cellsE x ++ flatE L := rfl
theorem flatE_append (L R : List Me) : flatE (L ++ R) = flatE L ++ flatE R := by simp [flatE]
theorem flatE_len (L : List Me) : (flatE L).length = L.length * 4 := by
  induction L with
  | nil => rfl
  | cons x L ih => rw [flatE_cons, List.length_append, ih, List.length_cons]; simp; omega
theorem flatE_get (L : List Me) : ∀ (i q : Nat), q < 4 → (flatE L)[i * 4 + q]? = (L[i]?).bind (fun x => (cellsE x)[q]?) := by
  induction L with
  | nil => intro i q hq; simp [flatE]
  | cons x L ih =>
    intro i q hq
    rw [flatE_cons]
    cases i with
    | zero =>
      rw [Nat.zero_mul, Nat.zero_add, List.getElem?_append_left (by simpa using hq)]
      rfl
    | succ i =>
      rw [List.getElem?_append_right (by simp; omega)]
      have : (i + 1) * 4 + q - (cellsE x).length = i * 4 + q := by simp; omega
      rw [this, ih i q hq]
      rfl
theorem flatE_one (L : List Me) : ∀ u ∈ flatE L, u.oneCell' = true := by
  intro u hu
  obtain ⟨x, _, hx⟩ := List.mem_flatMap.1 hu
  simp [cellsE] at hx
  rcases hx with rfl | rfl | rfl | rfl <;> rfl
theorem WV.atE {w : World} {B c n : Nat} {p : Option Addr} {L : List Me} (h : WV w B 4 p n c (flatE L)) {i : Nat} {x : Me} (hx : L[i]? = some x) : ∃ g off, p = some ⟨g, off, Option.none⟩ ∧ B ≤ g ∧ g < w.heap.size ∧ i < n ∧
    (w.cell? ⟨g, off + i * 4, Option.none⟩ = some (.int .i64 x.ai) ∧ w.cell? ⟨g, off + i * 4 + 1, Option.none⟩ = some (.int .u16 x.id) ∧ w.cell? ⟨g, off + i * 4 + 2, Option.none⟩ = some (.int .u8 x.port) ∧ w.cell? ⟨g, off + i * 4 + 3, Option.none⟩ = some (.bool x.up)) := by
  have hi := (List.getElem?_eq_some_iff.1 hx).1
  have hl := h.1
  rw [flatE_len] at hl
  obtain ⟨g, off, e, hb, hg, hc⟩ := h.2.2 (by omega)
  have C : ∀ q v, (cellsE x)[q]? = some v → w.cell? ⟨g, off + i * 4 + q, Option.none⟩ = some v := fun q v hv => by
    have hq : q < 4 := by have := (List.getElem?_eq_some_iff.1 hv).1; simpa using this
    have h2 := flatE_get L i q hq
    rw [hx] at h2
    simp only [Option.bind_some, hv] at h2
    rw [Nat.add_assoc]
    exact hc _ _ h2
  exact ⟨g, off, e, hb, hg, by omega, C 0 _ rfl, C 1 _ rfl, C 2 _ rfl, C 3 _ rfl⟩
theorem ownE_len {w : World} {B n T : Nat} {v : Value} {L : List Me} (h : w.ownsRow B T 4 v n (flatE L)) : L.length = n := by
  have := h.1
  rw [flatE_len] at this
  omega

abbrev cellsA (x : As) : List Value := [.int .u8 x.lv, .string x.dom, .string x.own, .int .u16 x.vid, .int .u8 x.iv, .slice x.p x.ms.length x.c]
def flatA (L : List As) : List Value := L.flatMap cellsA
theorem flatA_cons (x : As) (L : List As) : flatA (x :: L) = cellsA x ++ flatA L := rfl
theorem flatA_append (L R : List As) : flatA (L ++ R) = flatA L ++ flatA R := by simp [flatA]
theorem flatA_len (L : List As) : (flatA L).length = L.length * 6 := by
  induction L with
  | nil => rfl
  | cons x L ih => rw [flatA_cons, List.length_append, ih, List.length_cons]; simp; omega
theorem flatA_get (L : List As) : ∀ (i q : Nat), q < 6 → (flatA L)[i * 6 + q]? = (L[i]?).bind (fun x => (cellsA x)[q]?) := by
  induction L with
  | nil => intro i q hq; simp [flatA]
  | cons x L ih =>
    intro i q hq
    rw [flatA_cons]
    cases i with
    | zero =>
      rw [Nat.zero_mul, Nat.zero_add, List.getElem?_append_left (by simpa using hq)]
      rfl
    | succ i =>
      rw [List.getElem?_append_right (by simp; omega)]
      have : (i + 1) * 6 + q - (cellsA x).length = i * 6 + q := by simp; omega
      rw [this, ih i q hq]
      rfl
theorem flatA_one (L : List As) : ∀ u ∈ flatA L, u.oneCell' = true := by
  intro u hu
  obtain ⟨x, _, hx⟩ := List.mem_flatMap.1 hu
  simp [cellsA] at hx
  rcases hx with rfl | rfl | rfl | rfl | rfl | rfl <;> rfl
theorem WV.atA {w : World} {B c n : Nat} {p : Option Addr} {L : List As} (h : WV w B 6 p n c (flatA L)) {i : Nat} {x : As} (hx : L[i]? = some x) : ∃ g off, p = some ⟨g, off, Option.none⟩ ∧ B ≤ g ∧ g < w.heap.size ∧ i < n ∧
    (w.cell? ⟨g, off + i * 6, Option.none⟩ = some (.int .u8 x.lv) ∧ w.cell? ⟨g, off + i * 6 + 1, Option.none⟩ = some (.string x.dom) ∧ w.cell? ⟨g, off + i * 6 + 2, Option.none⟩ = some (.string x.own) ∧ w.cell? ⟨g, off + i * 6 + 3, Option.none⟩ = some (.int .u16 x.vid) ∧ w.cell? ⟨g, off + i * 6 + 4, Option.none⟩ = some (.int .u8 x.iv) ∧ w.cell? ⟨g, off + i * 6 + 5, Option.none⟩ = some (.slice x.p x.ms.length x.c)) := by
  have hi := (List.getElem?_eq_some_iff.1 hx).1
  have hl := h.1
  rw [flatA_len] at hl
  obtain ⟨g, off, e, hb, hg, hc⟩ := h.2.2 (by omega)
  have C : ∀ q v, (cellsA x)[q]? = some v → w.cell? ⟨g, off + i * 6 + q, Option.none⟩ = some v := fun q v hv => by
    have hq : q < 6 := by have := (List.getElem?_eq_some_iff.1 hv).1; simpa using this
    have h2 := flatA_get L i q hq
    rw [hx] at h2
    simp only [Option.bind_some, hv] at h2
    rw [Nat.add_assoc]
    exact hc _ _ h2
  exact ⟨g, off, e, hb, hg, by omega, C 0 _ rfl, C 1 _ rfl, C 2 _ rfl, C 3 _ rfl, C 4 _ rfl, C 5 _ rfl⟩
theorem ownA_len {w : World} {B n T : Nat} {v : Value} {L : List As} (h : w.ownsRow B T 6 v n (flatA L)) : L.length = n := by
  have := h.1
  rw [flatA_len] at this
  omega

abbrev cellsM (x : Mi) : List Value := [.int .u8 x.port, .int .u16 x.vid, .int .u8 x.lv]
def flatM (L : List Mi) : List Value := L.flatMap cellsM
theorem flatM_cons (x : Mi) (L : List Mi) : flatM (x :: L) = cellsM x ++ flatM L := rfl
theorem flatM_append (L R : List Mi) : flatM (L ++ R) = flatM L ++ flatM R := by simp [flatM]
theorem flatM_len (L : List Mi) : (flatM L).length = L.length * 3 := by
  induction L with
  | nil => rfl
  | cons x L ih => rw [flatM_cons, List.length_append, ih, List.length_cons]; simp; omega
theorem flatM_get (L : List Mi) : ∀ (i q : Nat), q < 3 → (flatM L)[i * 3 + q]? = (L[i]?).bind (fun x => (cellsM x)[q]?) := by
  induction L with
  | nil => intro i q hq; simp [flatM]
  | cons x L ih =>
    intro i q hq
    rw [flatM_cons]
    cases i with
    | zero =>
      rw [Nat.zero_mul, Nat.zero_add, List.getElem?_append_left (by simpa using hq)]
      rfl
    | succ i =>
      rw [List.getElem?_append_right (by simp; omega)]
      have : (i + 1) * 3 + q - (cellsM x).length = i * 3 + q := by simp; omega
      rw [this, ih i q hq]
      rfl
theorem flatM_one (L : List Mi) : ∀ u ∈ flatM L, u.oneCell' = true := by
  intro u hu
  obtain ⟨x, _, hx⟩ := List.mem_flatMap.1 hu
  simp [cellsM] at hx
  rcases hx with rfl | rfl | rfl <;> rfl
theorem WV.atM {w : World} {B c n : Nat} {p : Option Addr} {L : List Mi} (h : WV w B 3 p n c (flatM L)) {i : Nat} {x : Mi} (hx : L[i]? = some x) : ∃ g off, p = some ⟨g, off, Option.none⟩ ∧ B ≤ g ∧ g < w.heap.size ∧ i < n ∧
    (w.cell? ⟨g, off + i * 3, Option.none⟩ = some (.int .u8 x.port) ∧ w.cell? ⟨g, off + i * 3 + 1, Option.none⟩ = some (.int .u16 x.vid) ∧ w.cell? ⟨g, off + i * 3 + 2, Option.none⟩ = some (.int .u8 x.lv)) := by
  have hi := (List.getElem?_eq_some_iff.1 hx).1
  have hl := h.1
  rw [flatM_len] at hl
  obtain ⟨g, off, e, hb, hg, hc⟩ := h.2.2 (by omega)
  have C : ∀ q v, (cellsM x)[q]? = some v → w.cell? ⟨g, off + i * 3 + q, Option.none⟩ = some v := fun q v hv => by
    have hq : q < 3 := by have := (List.getElem?_eq_some_iff.1 hv).1; simpa using this
    have h2 := flatM_get L i q hq
    rw [hx] at h2
    simp only [Option.bind_some, hv] at h2
    rw [Nat.add_assoc]
    exact hc _ _ h2
  exact ⟨g, off, e, hb, hg, by omega, C 0 _ rfl, C 1 _ rfl, C 2 _ rfl⟩
theorem ownM_len {w : World} {B n T : Nat} {v : Value} {L : List Mi} (h : w.ownsRow B T 3 v n (flatM L)) : L.length = n := by
  have := h.1
  rw [flatM_len] at this
  omega

abbrev cellsU (x : Int) : List Value := [.int .u16 x]
def flatU (L : List Int) : List Value := L.flatMap cellsU
theorem flatU_cons (x : Int) (L : List Int) : flatU (x :: L) = cellsU x ++ flatU L := rfl
theorem flatU_append (L R : List Int) : flatU (L ++ R) = flatU L ++ flatU R := by simp [flatU]
theorem flatU_len (L : List Int) : (flatU L).length = L.length * 1 := by
  induction L with
  | nil => rfl
  | cons x L ih => rw [flatU_cons, List.length_append, ih, List.length_cons]; simp; omega
theorem flatU_get (L : List Int) : ∀ (i q : Nat), q < 1 → (flatU L)[i * 1 + q]? = (L[i]?).bind (fun x => (cellsU x)[q]?) := by
  induction L with
  | nil => intro i q hq; simp [flatU]
  | cons x L ih =>
    intro i q hq
    rw [flatU_cons]
    cases i with
    | zero =>
      rw [Nat.zero_mul, Nat.zero_add, List.getElem?_append_left (by simpa using hq)]
      rfl
    | succ i =>
      rw [List.getElem?_append_right (by simp; omega)]
      have : (i + 1) * 1 + q - (cellsU x).length = i * 1 + q := by simp only [List.length_cons, List.length_nil]; omega
      rw [this, ih i q hq]
      rfl
theorem flatU_one (L : List Int) : ∀ u ∈ flatU L, u.oneCell' = true := by
  intro u hu
  obtain ⟨x, _, hx⟩ := List.mem_flatMap.1 hu
  simp [cellsU] at hx
  subst hx; rfl
theorem WV.atU {w : World} {B c n : Nat} {p : Option Addr} {L : List Int} (h : WV w B 1 p n c (flatU L)) {i : Nat} {x : Int} (hx : L[i]? = some x) : ∃ g off, p = some ⟨g, off, Option.none⟩ ∧ B ≤ g ∧ g < w.heap.size ∧ i < n ∧
    (w.cell? ⟨g, off + i, Option.none⟩ = some (.int .u16 x)) := by
  have hi := (List.getElem?_eq_some_iff.1 hx).1
  have hl := h.1
  rw [flatU_len] at hl
  obtain ⟨g, off, e, hb, hg, hc⟩ := h.2.2 (by omega)
  have C : ∀ q v, (cellsU x)[q]? = some v → w.cell? ⟨g, off + i * 1 + q, Option.none⟩ = some v := fun q v hv => by
    have hq : q < 1 := by have := (List.getElem?_eq_some_iff.1 hv).1; simpa using this
    have h2 := flatU_get L i q hq
    rw [hx] at h2
    simp only [Option.bind_some, hv] at h2
    rw [Nat.add_assoc]
    exact hc _ _ h2
  exact ⟨g, off, e, hb, hg, by omega, by have := C 0 _ rfl; simpa using this⟩
theorem ownU_len {w : World} {B n T : Nat} {v : Value} {L : List Int} (h : w.ownsRow B T 1 v n (flatU L)) : L.length = n := by
  have := h.1
  rw [flatU_len] at this
  omega
end Go.Proofs.Ytbgijlfdgfhceaa
