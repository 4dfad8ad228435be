/-
  Layer 9: arguments: a word, rows of numbers and of acts, as plain data. No condition.
-/
import Derived.Test.YtbbodecdijankaaTNil
import Derived.ProofKit
import Derived.OpenShut
import Derived.Deep.Slices
import Derived.Deep.Fields
import Derived.ChangeSame
namespace Go.Proofs.Ytbbodecdijankaa
open Go.ChangeShapes Go.WideShapes Go.Deep Go.RowKit
set_option linter.unusedVariables false
set_option linter.unusedSimpArgs false
set_option maxRecDepth 100000

theorem nils {w w' : World} (k : Keeps Nil w w') : Below w.heap.size w w' := k.below (fun _ _ h => h)
theorem of_wf8 {n : Int} (h : (Lit.int .u8 n).wf = true) : 0 ≤ n ∧ n < 256 := by
  have e1 : IntKind.u8.min = 0 := by decide
  have e2 : IntKind.u8.max = 255 := by decide
  simp [Lit.wf, e1, e2] at h; omega
theorem of_wf32 {n : Int} (h : (Lit.int .u32 n).wf = true) : 0 ≤ n ∧ n < 4294967296 := by
  have e1 : IntKind.u32.min = 0 := by decide
  have e2 : IntKind.u32.max = 4294967295 := by decide
  simp [Lit.wf, e1, e2] at h; omega
theorem of_wf64 {n : Int} (h : (Lit.int .u64 n).wf = true) : 0 ≤ n ∧ n < 18446744073709551616 := by
  have e1 : IntKind.u64.min = 0 := by decide
  have e2 : IntKind.u64.max = 18446744073709551615 := by decide
  simp [Lit.wf, e1, e2] at h; omega
theorem c22 : Try.prog.cellsOf 22 = 1 := by kernel_rfl
theorem c33 : Try.prog.cellsOf 33 = 1 := by kernel_rfl
theorem c5 : Try.prog.cellsOf 5 = 1 := by kernel_rfl
theorem c4 : Try.prog.cellsOf 4 = 1 := by kernel_rfl
theorem c35 : Try.prog.cellsOf 35 = 4 := by kernel_rfl
theorem c37 : Try.prog.cellsOf 37 = 11 := by kernel_rfl
theorem c39 : Try.prog.cellsOf 39 = 14 := by kernel_rfl
/-- An act: what, port, word, does it echo the present version? -/
structure Act9 where
  d : Int
  p : Int
  b : Bp
  e : Bool
structure Act9.Ok (x : Act9) : Prop where
  d : 0 ≤ x.d ∧ x.d < 256
  p : 0 ≤ x.p ∧ x.p < 256
  b : x.b.Ok
def acl (x : Act9) : List Value := [.int .u8 x.d, .int .u8 x.p] ++ bcl x.b ++ [.bool x.e]
theorem acl_len (x : Act9) : (acl x).length = 14 := rfl

section
variable {H : Type} {enc : TypeId × Value → H} {W : World} {sp : Nat → Bool} {hd : Bool}
theorem trod_vec {fuel : Nat} {cs : List Value} {x : DataW H × List MemPlace} (h : DataW.trod enc Try.prog W 0 sp hd fuel 35 cs = some x) :
    ∃ z0 z1 z2 z3, cs = [.int .u64 z0, .int .u32 z1, .int .u64 z2, .int .u8 z3] ∧ (0 ≤ z0 ∧ z0 < 18446744073709551616) ∧ (0 ≤ z1 ∧ z1 < 4294967296) ∧ (0 ≤ z2 ∧ z2 < 18446744073709551616) ∧ (0 ≤ z3 ∧ z3 < 256) := by
  obtain ⟨xs, n, hn, hx, hlen, hxl, hf⟩ := DataW.trod_struct Try.underlying35 h
  rw [c35] at hlen
  have hxl' : xs.length = 4 := hxl
  have h0 := hf 0 _ rfl
  have h1 := hf 1 _ rfl
  have h2 := hf 2 _ rfl
  have h3 := hf 3 _ rfl
  simp only [List.getElem_toArray, List.getElem_cons_succ, List.getElem_cons_zero] at h0 h1 h2 h3
  rw [c22] at h0 h2
  rw [c33] at h1
  rw [c5] at h3
  match cs, hlen with
  | [a, b, c, d], _ =>
    simp only [List.drop_zero, List.take_succ_cons, List.take_zero, List.drop_succ_cons] at h0 h1 h2 h3
    rw [List.getElem?_eq_getElem (by omega)] at h0 h1 h2 h3
    obtain ⟨z0, e0, _, w0⟩ := DataW.trod_int Try.underlying22 h0
    obtain ⟨z1, e1, _, w1⟩ := DataW.trod_int Try.underlying33 h1
    obtain ⟨z2, e2, _, w2⟩ := DataW.trod_int Try.underlying22 h2
    obtain ⟨z3, e3, _, w3⟩ := DataW.trod_int Try.underlying5 h3
    simp at e0 e1 e2 e3
    subst e0 e1 e2 e3
    exact ⟨z0, z1, z2, z3, rfl, of_wf64 w0, of_wf32 w1, of_wf64 w2, of_wf8 w3⟩
theorem trod_bp {fuel : Nat} {cs : List Value} {x : DataW H × List MemPlace} (h : DataW.trod enc Try.prog W 0 sp hd fuel 37 cs = some x) :
    ∃ z : Bp, cs = bcl z ∧ z.Ok := by
  obtain ⟨xs, n, hn, hx, hlen, hxl, hf⟩ := DataW.trod_struct Try.underlying37 h
  rw [c37] at hlen
  have hxl' : xs.length = 8 := hxl
  have h0 := hf 0 _ rfl
  have h1 := hf 1 _ rfl
  have h2 := hf 2 _ rfl
  have h3 := hf 3 _ rfl
  have h4 := hf 4 _ rfl
  have h5 := hf 5 _ rfl
  have h6 := hf 6 _ rfl
  have h7 := hf 7 _ rfl
  simp only [List.getElem_toArray, List.getElem_cons_succ, List.getElem_cons_zero] at h0 h1 h2 h3 h4 h5 h6 h7
  rw [c35] at h0
  rw [c5] at h1 h3
  rw [c22] at h2 h7
  rw [c4] at h4 h5 h6
  match cs, hlen with
  | [a, b, c, d, e, f, g, i, j, k, l], _ =>
    simp only [List.drop_zero, List.take_succ_cons, List.take_zero, List.drop_succ_cons] at h0 h1 h2 h3 h4 h5 h6 h7
    rw [List.getElem?_eq_getElem (by omega)] at h0 h1 h2 h3 h4 h5 h6 h7
    obtain ⟨z0, z1, z2, z3, e0, q0, q1, q2, q3⟩ := trod_vec h0
    obtain ⟨y1, e1, _, w1⟩ := DataW.trod_int Try.underlying5 h1
    obtain ⟨y2, e2, _, w2⟩ := DataW.trod_int Try.underlying22 h2
    obtain ⟨y3, e3, _, w3⟩ := DataW.trod_int Try.underlying5 h3
    obtain ⟨y4, e4, _⟩ := DataW.trod_bool Try.underlying4 h4
    obtain ⟨y5, e5, _⟩ := DataW.trod_bool Try.underlying4 h5
    obtain ⟨y6, e6, _⟩ := DataW.trod_bool Try.underlying4 h6
    obtain ⟨y7, e7, _, w7⟩ := DataW.trod_int Try.underlying22 h7
    simp at e0 e1 e2 e3 e4 e5 e6 e7
    obtain ⟨rfl, rfl, rfl, rfl⟩ := e0
    subst e1 e2 e3 e4 e5 e6 e7
    exact ⟨⟨z0, z1, z2, z3, y1, y2, y3, y4, y5, y6, y7⟩, rfl, ⟨q0, q1, q2, q3, of_wf8 w1, of_wf64 w2, of_wf8 w3, of_wf64 w7⟩⟩
theorem trod_act {fuel : Nat} {cs : List Value} {x : DataW H × List MemPlace} (h : DataW.trod enc Try.prog W 0 sp hd fuel 39 cs = some x) :
    ∃ z : Act9, cs = acl z ∧ z.Ok := by
  obtain ⟨xs, n, hn, hx, hlen, hxl, hf⟩ := DataW.trod_struct Try.underlying39 h
  rw [c39] at hlen
  have hxl' : xs.length = 4 := hxl
  have h0 := hf 0 _ rfl
  have h1 := hf 1 _ rfl
  have h2 := hf 2 _ rfl
  have h3 := hf 3 _ rfl
  simp only [List.getElem_toArray, List.getElem_cons_succ, List.getElem_cons_zero] at h0 h1 h2 h3
  rw [c5] at h0 h1
  rw [c37] at h2
  rw [c4] at h3
  match cs, hlen with
  | [a, b, c, d, e, f, g, i, j, k, l, m, n, o], _ =>
    simp only [List.drop_zero, List.take_succ_cons, List.take_zero, List.drop_succ_cons] at h0 h1 h2 h3
    rw [List.getElem?_eq_getElem (by omega)] at h0 h1 h2 h3
    obtain ⟨y0, e0, _, w0⟩ := DataW.trod_int Try.underlying5 h0
    obtain ⟨y1, e1, _, w1⟩ := DataW.trod_int Try.underlying5 h1
    obtain ⟨y2, e2, w2⟩ := trod_bp h2
    obtain ⟨y3, e3, _⟩ := DataW.trod_bool Try.underlying4 h3
    simp only [List.cons.injEq, and_true] at e0 e1 e3
    subst e0 e1 e3
    refine ⟨⟨y0, y1, y2, y3⟩, ?_, ⟨of_wf8 w0, of_wf8 w1, w2⟩⟩
    simp only [acl, ← e2]
    rfl
end
theorem open_bp {H : Type} {enc : TypeId × Value → H} {W : World} {r : Reach} {b0 : Nat} {v : Value} {d : DataW H} {ps : List MemPlace}
    (hval : Value.okWide Try.prog W r b0 37 v) (hd : DataW.Trod enc Try.prog W 0 (fun _ => true) true 37 v d ps) : ∃ x : Bp, v = bval x ∧ x.Ok := by
  obtain ⟨cs, rfl, hsz⟩ := okWide_struct Try.underlying37 hval
  obtain ⟨fuel, hf⟩ := hd
  obtain ⟨z, e, hz⟩ := trod_bp hf
  refine ⟨z, ?_, hz⟩
  have : cs.toList = bcl z := by simpa [Value.cells] using e
  have e2 : cs = (bcl z).toArray := by rw [← this]
  rw [e2]
  rfl
/-- A row of acts that came in. -/
def IsActs (w : World) (a : Option Addr) (n c : Nat) : Prop :=
  ∃ L : List Act9, WV w 0 14 a n c (L.flatMap acl) ∧ (∀ x ∈ L, x.Ok) ∧ n ≤ maxLen ∧ L.length = n
theorem flatA_len (L : List Act9) : (L.flatMap acl).length = L.length * 14 := by
  induction L with
  | nil => rfl
  | cons x L ih => simp only [List.flatMap_cons, List.length_append]; rw [ih, acl_len, List.length_cons]; omega
theorem flatA_get (L : List Act9) (j : Nat) (u : Value) (h : (L.flatMap acl)[j]? = some u) : ∃ x, L[j / 14]? = some x ∧ (acl x)[j % 14]? = some u := by
  induction L generalizing j with
  | nil => simp at h
  | cons y L ih =>
    simp only [List.flatMap_cons] at h
    by_cases hj : j < 14
    · rw [List.getElem?_append_left (by rw [acl_len]; exact hj)] at h
      exact ⟨y, by rw [Nat.div_eq_of_lt hj]; rfl, by rw [Nat.mod_eq_of_lt hj]; exact h⟩
    · rw [List.getElem?_append_right (by rw [acl_len]; omega), acl_len] at h
      obtain ⟨x, h1, h2⟩ := ih _ h
      refine ⟨x, ?_, ?_⟩
      · have : j / 14 = (j - 14) / 14 + 1 := by omega
        rw [this]; simpa using h1
      · have : j % 14 = (j - 14) % 14 := by omega
        rw [this]; exact h2
theorem exists_list {α : Type} {R : Nat → α → Prop} : ∀ n, (∀ i, i < n → ∃ p, R i p) → ∃ l : List α, l.length = n ∧ ∀ i p, l[i]? = some p → R i p
  | 0, _ => ⟨[], rfl, fun i p h => by simp at h⟩
  | n + 1, h => by
    obtain ⟨l, hl, hr⟩ := exists_list n (fun i hi => h i (by omega))
    obtain ⟨p, hp⟩ := h n (by omega)
    refine ⟨l ++ [p], by simp [hl], fun i q hq => ?_⟩
    by_cases hi : i < l.length
    · rw [List.getElem?_append_left hi] at hq; exact hr i q hq
    · rw [List.getElem?_append_right (by omega)] at hq
      have : i - l.length = 0 := by
        rcases Nat.eq_zero_or_pos (i - l.length) with h | h
        · exact h
        · rw [List.getElem?_eq_none (by simp; omega)] at hq; cases hq
      rw [this] at hq
      simp at hq
      subst hq
      have : i = n := by omega
      subst this
      exact hp
theorem spotless {w : World} {a : Addr} {v : Value} (h : w.cell? (a.add 0) = some v) : a = ⟨a.block, a.off, Option.none⟩ := by
  obtain ⟨b, off, spot⟩ := a
  have : spot = Option.none := World.cell?_spot h
  subst this; rfl
theorem block_lt {w : World} {b o : Nat} {v : Value} (h : w.cell? ⟨b, o, Option.none⟩ = some v) : b < w.heap.size := by
  rcases Nat.lt_or_ge b w.heap.size with h' | h'
  · exact h'
  · simp [World.cell?, Array.getElem?_eq_none h'] at h
theorem add_plain' (b off n : Nat) : (⟨b, off, Option.none⟩ : Addr).add n = ⟨b, off + n, Option.none⟩ := Go.WideShapes.add_plain _ _ _
theorem open_acts {H : Type} {enc : TypeId × Value → H} {W : World} {a : Option Addr} {n c : Nat} {d : DataW H} {p : List MemPlace}
    (h : DataW.Trod enc Try.prog W 0 (fun _ => true) true 24 (.slice a n c) d p) : IsActs W a n c := by
  obtain ⟨fuel, hf⟩ := h
  rcases open_slice Try.underlying24 hf with h0 | ⟨x, len, cap, m, k, D, Pl, hcs, hb, hl, hm, hmm, hx, hi⟩
  · have hcs := h0.1
    simp [Value.cells] at hcs
    obtain ⟨rfl, rfl, rfl⟩ := hcs
    exact ⟨[], ⟨rfl, Nat.le_refl _, fun h => by omega⟩, by simp, Nat.zero_le _, rfl⟩
  · simp [Value.cells] at hcs
    obtain ⟨rfl, rfl, rfl⟩ := hcs
    simp only [if_true] at hmm
    subst hmm
    have he : ∀ i, i < n → ∃ z : Act9, z.Ok ∧ ∀ j u, (acl z)[j]? = some u → W.cell? ((x.add (i * 14)).add j) = some u := by
      intro i hin
      obtain ⟨cs', hc, ht'⟩ := hi i (by omega)
      rw [c39] at hc
      obtain ⟨z, rfl, hz⟩ := trod_act ht'
      obtain ⟨_, hcl, hat⟩ := World.cells?_some hc
      refine ⟨z, hz, fun j u hj => ?_⟩
      have hj5 : j < 14 := by have := (List.getElem?_eq_some_iff.1 hj).1; rwa [acl_len] at this
      exact (hat j hj5).trans hj
    obtain ⟨l, hll, hl'⟩ := exists_list n he
    refine ⟨l, ⟨by rw [flatA_len, hll], hl, fun hn => ?_⟩, ?_, Nat.le_trans hl hm, hll⟩
    · obtain ⟨z, hz⟩ : ∃ z, l[0]? = some z := ⟨_, List.getElem?_eq_getElem (by omega)⟩
      have h0 := (hl' 0 z hz).2 0 _ rfl
      rw [Nat.zero_mul] at h0
      have hx0 : x.add 0 = x := by unfold Addr.add; split <;> simp_all
      rw [hx0] at h0
      have hx := spotless h0
      obtain ⟨b, off, spot⟩ := x
      simp at hx
      subst hx
      simp only [add_plain'] at hl' h0
      refine ⟨b, off, rfl, Nat.zero_le _, block_lt h0, fun j u hu => ?_⟩
      obtain ⟨z, hz, hu'⟩ := flatA_get l j u hu
      have := (hl' _ z hz).2 _ u hu'
      rw [show off + j = off + j / 14 * 14 + j % 14 from by omega]
      exact this
    · intro z hz
      obtain ⟨i, hi⟩ := List.getElem?_of_mem hz
      exact (hl' i z hi).1
end Go.Proofs.Ytbbodecdijankaa
