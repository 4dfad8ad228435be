/-
  Graphs: a way there and a way back, as the law asks for them. Conditions: as the contracts of Path and over.
-/
import Derived.Test.YthnkeppkhdceoaaWakes
namespace Go.Proofs.Ythnkeppkhdceoaa
open Go.RowKit
set_option linter.unusedVariables false
set_option linter.unusedSimpArgs false
theorem flatH_get {L : List Hp} : ∀ {i : Nat} {x : Hp}, L[i]? = some x → ∀ j, j < 3 → (flatH L)[i * 3 + j]? = (hcells x)[j]? := by
  induction L with
  | nil => intro i x h; simp at h
  | cons y L ih =>
    intro i x h j hj
    rw [show flatH (y :: L) = hcells y ++ flatH L from rfl]
    match i with
    | 0 =>
      simp at h; subst h
      rw [List.getElem?_append_left (by simp; omega)]
      simp
    | i + 1 =>
      rw [List.getElem?_append_right (by simp; omega), show (i + 1) * 3 + j - (hcells y).length = i * 3 + j from by simp; omega]
      exact ih (by simpa using h) j hj
/-- Hops in a row of cells. -/
def RowH (w : World) (g off : Nat) (P : List Hp) : Prop := g < w.heap.size ∧ ∀ i x, P[i]? = some x →
  w.cell? ⟨g, off + i * 3, Option.none⟩ = some (.int .i64 x.b) ∧ w.cell? ⟨g, off + i * 3 + 1, Option.none⟩ = some (.int .i64 x.i) ∧ w.cell? ⟨g, off + i * 3 + 2, Option.none⟩ = some (.int .i64 x.o)
theorem RowH.keep {w w' : World} {g off : Nat} {P : List Hp} (h : RowH w g off P) (k : Keeps Nil w w') : RowH w' g off P :=
  ⟨Nat.lt_of_lt_of_le h.1 k.size, fun i x hx => by
    have c : ∀ q, w'.cell? ⟨g, q, Option.none⟩ = w.cell? ⟨g, q, Option.none⟩ := fun q => k.cell (p := ⟨g, q, Option.none⟩) h.1 (fun e => e)
    rw [c, c, c]; exact h.2 i x hx⟩
theorem rowH_own {w : World} {B c : Nat} {p : Option Addr} {P : List Hp} (h : w.ownsRow B 45 3 (.slice p P.length c) P.length (flatH P)) (hP : 0 < P.length) : P.length ≤ c ∧ ∃ g off, p = some ⟨g, off, Option.none⟩ ∧ RowH w g off P := by
  obtain ⟨_, hle, hb⟩ := WV.of_own h
  obtain ⟨g, off, hp, _, hg, hc⟩ := hb hP
  refine ⟨hle, g, off, hp, hg, fun i x hx => ?_⟩
  have H := flatH_get hx
  have c : ∀ q u, q < 3 → (hcells x)[q]? = some u → w.cell? ⟨g, off + i * 3 + q, Option.none⟩ = some u := fun q u hq hu => by
    rw [Nat.add_assoc]; exact hc _ u ((H q hq).trans hu)
  exact ⟨c 0 _ (by omega) rfl, c 1 _ (by omega) rfl, c 2 _ (by omega) rfl⟩
theorem PathOk.swap {ids : List Int} {L : List Lk} {a b : Int} (h : PathOk ids L a b) : PathOk ids L b a := ⟨h.1, h.2.2, h.2.1⟩
theorem path_pair {w1 w2 : World} {B1 B2 : Nat} {ids : List Int} {L : List Lk} {a b : Int} {e1 e2 : Ending} (hok : PathOk ids L a b) (h1 : PathIs w1 B1 ids L a b e1) (h2 : PathIs w2 B2 ids L b a e2) (hT : InT ids L) (hl : L.length ≤ 1000) :
    ∃ N, Put ids ids.length L N ∧
      (((valOf N a).1 = (valOf N b).1 ∧ ∃ p c P p' c' Q, e1 = .returned (.tuple #[.slice p P.length c, .int .i64 0]) ∧ e2 = .returned (.tuple #[.slice p' Q.length c', .int .i64 0]) ∧
        w1.ownsRow B1 45 3 (.slice p P.length c) P.length (flatH P) ∧ w2.ownsRow B2 45 3 (.slice p' Q.length c') Q.length (flatH Q) ∧ WayIs (sidesOf L) (InN ids L N) a b P ∧ Q.length = P.length ∧
        ∀ (i : Nat) (x : Hp), P[i]? = some x → Q[Q.length - 1 - i]? = some ⟨x.b, x.o, x.i⟩) ∨
       ((valOf N a).1 ≠ (valOf N b).1 ∧ e1 = .returned (.tuple #[.slice Option.none 0 0, .int .i64 7]) ∧ e2 = .returned (.tuple #[.slice Option.none 0 0, .int .i64 7]))) := by
  have gok := hok.1.gok hT hl
  have hap := hok.1.apart
  rcases h1 with ⟨hn, _⟩ | ⟨_, N, hN, h1⟩
  · exact absurd hok hn
  rcases h2 with ⟨hn, _⟩ | ⟨_, N', hN', h2⟩
  · exact absurd hok.swap hn
  obtain rfl := Put.unique gok hN' hN
  have tr := hN.tr gok hap
  refine ⟨N', hN, ?_⟩
  have hroot : ∀ {x y p : Int} {l : List Hp}, Wk (sidesOf L) (InN ids L N') y x p l → (valOf N' x).1 = (valOf N' y).1 := fun h => by
    obtain ⟨m, p1, wz, _⟩ := wk_wz h
    exact (Wz.root tr wz).symm
  rcases h1 with ⟨p, c, l, rfl, ho1, hw1, _⟩ | ⟨rfl, hno1⟩
  · rcases h2 with ⟨p', c', l', rfl, ho2, hw2, _⟩ | ⟨rfl, hno2⟩
    · obtain ⟨w1, w2, w3⟩ := ways_same tr hw1 hw2
      exact .inl ⟨hroot hw1, p, c, l, p', c', l', rfl, rfl, ho1, ho2, w1, w2, w3⟩
    · obtain ⟨m, p1, wz, _⟩ := wk_wz hw1
      exact absurd (wz_wk tr _ (Wz.back tr wz)) (hno2 _)
  · have hne : (valOf N' a).1 ≠ (valOf N' b).1 := fun e => by
      obtain ⟨l, p', wz⟩ := hN.joined gok hap hok.2.1 hok.2.2 e
      exact hno1 _ (wz_wk tr _ wz)
    rcases h2 with ⟨p', c', l', rfl, ho2, hw2, _⟩ | ⟨rfl, hno2⟩
    · exact absurd (hroot hw2).symm hne
    · exact .inr ⟨hne, rfl, rfl⟩
/-- A node's root. -/
theorem node_at {ids : List Int} {L : List Lk} {N : List Nd} {x : Int} (hN : Put ids ids.length L N) (h0 : 0 ≤ x ∧ x < ids.length) : ∃ nd, (Nq ids L N)[x.toNat]? = some nd ∧ nd.r = (valOf N x).1 := by
  obtain ⟨nd, h1, _, h3⟩ := qOf_at (ids := ids) (L := L) hN.len h0.1 h0.2
  refine ⟨portOf ids N (sidesOf L) x.toNat nd, ?_, ?_⟩
  · have : x.toNat < ids.length := by omega
    simp [Nq, ported, h1, this]
  · rw [h3]
    unfold portOf
    split
    · rfl
    · split <;> rfl
theorem over_is {w : World} {n₀ cl nl gI : Nat} {pl : Option Addr} {ids : List Int} {L : List Lk} {N : List Nd} {A B : Hp} (hL : LSl n₀ w pl cl L) (hn0 : n₀ ≤ w.heap.size) (hnl : L.length = nl) (hl : nl ≤ 50) (hne : A.b ≠ B.b)
    (hT : InT ids L) (hI : w.heap[gI]? = some (.cells (inRow (Nq ids L N) (sidesOf L) nl).toArray 4 (0, 0))) (hov : ∃ s ∈ sidesOf L, InN ids L N s.k.toNat = true ∧ s.n.b = A.b ∧ s.n.p = A.o ∧ s.f.b = B.b ∧ s.f.p = B.i) :
    Calls Try.prog 12 #[.slice pl nl cl, .slice (some ⟨gI, 0, Option.none⟩) nl nl, .agg #[.int .i64 A.b, .int .i64 A.i, .int .i64 A.o], .agg #[.int .i64 B.b, .int .i64 B.i, .int .i64 B.o]] w fun e w' => e = .returned (.bool true) ∧ Keeps Nil w w' :=
  (over_any (In := InN ids L N) (A := A) (B := B) hL hn0 hnl hl hne (fun e he => (hT.e e he).1) hI).mono fun e w' ⟨r, he, kk, hr⟩ => by
    refine ⟨?_, kk⟩
    rcases hr with rfl | hno
    · exact he
    · obtain ⟨s, hs, hi, e1, e2, e3, e4⟩ := hov
      obtain ⟨i, l, hli, hk, _, _, he'⟩ := side_link (j := 0) hs
      rw [Nat.zero_add] at hk he'
      rw [show s.k.toNat = i by omega] at hi
      exact (hno i l hli hi (by
        rcases he' with rfl | rfl
        · exact .inl ⟨⟨⟨e1, e2⟩, e3⟩, e4⟩
        · exact .inr ⟨⟨⟨e1, e2⟩, e3⟩, e4⟩)).elim
/-- Path of the document's links. -/
theorem wp_of {w0 w : World} {n₀ nl cl : Nat} {pl : Option Addr} {L : List Lk} (hL : LSl n₀ w0 pl cl L) (hn0 : n₀ ≤ w0.heap.size) (hnl : L.length = nl) (hl : nl ≤ 1000) (k : Keeps Nil w0 w) :
    Calls Try.prog 8 #[.slice pl nl cl] w fun e w' => ∃ p c, e = .returned (.slice p nl c) ∧ LSl w'.heap.size w' p c L ∧ Keeps Nil w w' :=
  (of_any (hL.below (k.below (fun _ _ e => e)) hn0) (Nat.le_trans hn0 k.size) hnl hl).mono fun e w' ⟨p, c, he, hown, kk⟩ => ⟨p, c, he, lsl_own hown hnl, kk⟩
end Go.Proofs.Ythnkeppkhdceoaa
