/-
  Graphs: the program's Tree and Path; what a row of own links lies as. Conditions: the ids and links lie so.
-/
import Derived.Test.YthnkeppkhdceoaaOf
import Derived.Test.YthnkeppkhdceoaaTree
import Derived.Test.YthnkeppkhdceoaaWay
import Derived.Test.YthnkeppkhdceoaaHops
import Derived.Test.YthnkeppkhdceoaaTreeing
namespace Go.Proofs.Ythnkeppkhdceoaa
open Go.RowKit
set_option linter.unusedVariables false
set_option linter.unusedSimpArgs false

theorem flatL_get {L : List Lk} : ∀ {i : Nat} {x : Lk}, L[i]? = some x → ∀ j, j < 7 → (flatL L)[i * 7 + j]? = (lcells x)[j]? := by
  induction L with
  | nil => intro i x h; simp at h
  | cons y L ih =>
    intro i x h j hj
    rw [show flatL (y :: L) = lcells y ++ flatL L from rfl]
    match i with
    | 0 =>
      simp at h; subst h
      rw [List.getElem?_append_left (by simp; omega)]
      simp
    | i + 1 =>
      rw [List.getElem?_append_right (by simp; omega), show (i + 1) * 7 + j - (lcells y).length = i * 7 + j from by simp; omega]
      exact ih (by simpa using h) j hj
theorem lsl_own {w : World} {B n c : Nat} {p : Option Addr} {L : List Lk} (h : w.ownsRow B 61 7 (.slice p n c) n (flatL L)) (hn : L.length = n) : LSl w.heap.size w p c L := by
  obtain ⟨_, hle, hb⟩ := WV.of_own h
  refine ⟨by omega, fun hne => ?_⟩
  have h0 : 0 < n := by
    have : 0 < L.length := List.length_pos_iff.2 hne
    omega
  obtain ⟨g, off, hp, _, hg, hc⟩ := hb h0
  refine ⟨g, off, hp, hg, fun j x hx => ?_⟩
  have H := flatL_get hx
  have c : ∀ q u, q < 7 → (lcells x)[q]? = some u → w.cell? ⟨g, off + j * 7 + q, Option.none⟩ = some u := fun q u hq hu => by
    rw [Nat.add_assoc]; exact hc _ u ((H q hq).trans hu)
  exact ⟨c 0 _ (by omega) rfl, c 1 _ (by omega) rfl, c 2 _ (by omega) rfl, c 3 _ (by omega) rfl, c 4 _ (by omega) rfl, c 5 _ (by omega) rfl, c 6 _ (by omega) rfl⟩

/-- There is one tree. -/
theorem Put.unique {ids : List Int} {n : Nat} {L : List Lk} {N N' : List Nd} (hok : GOk ids n (sidesOf L)) (h : Put ids n L N) (k : Put ids n L N') : N = N' := by
  apply List.ext_getElem?
  intro i
  by_cases hi : i < n
  · have h1 : i < N.length := by rw [h.len]; exact hi
    have h2 : i < N'.length := by rw [k.len]; exact hi
    have e := IsRoot.unique (fun s t a1 a2 a3 a4 e => idOf_inj hok a1 a2 a3 a4 e) (h.inv.isRoot h.still hok.within hok.pos (x := (i : Int)) (by omega) (by omega)) (k.inv.isRoot k.still hok.within hok.pos (x := (i : Int)) (by omega) (by omega))
    rw [valOf_at (List.getElem?_eq_getElem h1), valOf_at (List.getElem?_eq_getElem h2)] at e
    injection e with e1 e2
    have p1 := h.port _ (List.getElem_mem h1)
    have p2 := k.port _ (List.getElem_mem h2)
    rw [List.getElem?_eq_getElem h1, List.getElem?_eq_getElem h2]
    congr 1
    generalize N[i] = a at *
    generalize N'[i] = b at *
    cases a; cases b
    simp at e1 e2 p1 p2
    simp [e1, e2, p1, p2]
  · rw [List.getElem?_eq_none (by rw [h.len]; omega), List.getElem?_eq_none (by rw [k.len]; omega)]
/-- The nodes with their ports, and which links are in the tree. -/
abbrev Nq (ids : List Int) (L : List Lk) (N : List Nd) : List Nd := ported (portOf ids N (sidesOf L)) ids.length N
abbrev InN (ids : List Int) (L : List Lk) (N : List Nd) : Nat → Bool := inB (Nq ids L N) (sidesOf L)
section
variable {w : World} {BI n ci nl cl : Nat} {pi pl : Option Addr} {ids : List Int} {L : List Lk}
theorem great_any (hn : n ≤ maxLen) (hl : nl ≤ maxLen) : Calls Try.prog 5 #[.slice pi n ci, .slice pl nl cl] w fun e w' => e = .returned (.bool (decide (20 < (n : Int)) || decide (12 < (nl : Int)))) ∧ w' = w := by
  go_enter Try.func5, Try.ntmps5
  by_cases h : 20 < (n : Int)
  · simp only [h, decide_true, Bool.true_or]
    go_wp2
    go_ret
    exact ⟨rfl, rfl⟩
  · simp only [h, decide_false, Bool.false_or]
    go_wp2
    go_ret
    exact ⟨by simp [h], rfl⟩
theorem Tree_any (hI : WV w BI 1 pi n ci (idc ids)) (hL : LSl w.heap.size w pl cl L) (hnl : L.length = nl) (hl : nl ≤ 50) (hn : n ≤ 1000) (ht : InT ids L) :
    Calls Try.prog 7 #[.slice pi n ci, .slice pl nl cl] w fun e w' => Keeps Nil w w' ∧
      ((mayB ids L = false ∧ e = .returned (.tuple #[.slice Option.none 0 0, .slice Option.none 0 0, .int .i64 2])) ∨
       (mayB ids L = true ∧ ∃ gN c3 gI N, e = .returned (.tuple #[.slice (some ⟨gN, 0, Option.none⟩) n c3, .slice (some ⟨gI, 0, Option.none⟩) nl nl, .int .i64 0]) ∧ TreeAt w' w.heap.size ids n nl L gN c3 gI N)) := by
  have HI := hid hI
  have HL := hid hL
  have HT := hid ht
  have hlen : ids.length = n := by have := hI.1; simpa [idc] using this
  have KZ := hid ((Keeps.refl Nil w).alloc (.cells #[.slice pi n ci, .slice pl nl cl] 51 (0, 0)))
  clear hI hL ht
  go_enter Try.func7, Try.ntmps7
  by_cases hb : mayB ids L = true
  rotate_left
  · have hb := (Bool.not_eq_true _).mp hb
    go_wp2_with (go_at_call 14; refine (may_any (HI.out.keepN KZ.out) ((HL.out.below (KZ.out.below (fun _ _ e => e)) (Nat.le_refl _)).mono KZ.out.size) hnl hl hn HT.out).mono ?_; rintro e w1 ⟨rfl, k1⟩; rw [hb]; have hbA := (k1.block _ (by simp) (fun e => e)).trans (alloc_block w (.cells #[.slice pi n ci, .slice pl nl cl] 51 (0, 0))); have fA0 := cellOf (i := 0) (v := .slice pi n ci) hbA rfl; have fA1 := cellOf (i := 1) (v := .slice pl nl cl) hbA rfl; have hwl : w.heap.size < w1.heap.size := lt_of_block hbA; clear hbA; have KW := hid (KZ.out.trans k1); clear k1)
    go_ret3
    exact ⟨KW.out, .inl ⟨hb, rfl⟩⟩
  · have hok : GOk ids n (sidesOf L) := hlen ▸ ((mayB_iff.1 hb).gok HT.out (by omega))
    have HOK := hid hok
    clear hok
    go_wp2_with (first | (go_at_call 14; refine (may_any (HI.out.keepN KZ.out) ((HL.out.below (KZ.out.below (fun _ _ e => e)) (Nat.le_refl _)).mono KZ.out.size) hnl hl hn HT.out).mono ?_; rintro e w1 ⟨rfl, k1⟩; rw [hb]; have hbA := (k1.block _ (by simp) (fun e => e)).trans (alloc_block w (.cells #[.slice pi n ci, .slice pl nl cl] 51 (0, 0))); have fA0 := cellOf (i := 0) (v := .slice pi n ci) hbA rfl; have fA1 := cellOf (i := 1) (v := .slice pl nl cl) hbA rfl; have hwl : w.heap.size < w1.heap.size := lt_of_block hbA; clear hbA; have KW := hid (KZ.out.trans k1); clear k1) | (go_at_call 15; refine (tree_any (HI.out.keepN KW.out) ((HL.out.below (KW.out.below (fun _ _ e => e)) (Nat.le_refl _)).mono KW.out.size) hnl hl HOK.out).mono ?_; rintro e w2 ⟨gN, c3, gI, N, rfl, ht2, k2⟩; have HTA := hid ht2; have KW2 := hid (KW.out.trans k2); clear ht2 k2))
    go_ret3
    exact ⟨KW2.out, .inr ⟨hb, gN, c3, gI, N, rfl, ⟨HTA.out.row, HTA.out.blk, HTA.out.put, Nat.le_trans KW.out.size HTA.out.geN, Nat.le_trans KW.out.size HTA.out.geI⟩⟩⟩
/-- What a way is asked for may be. -/
def PathOk (ids : List Int) (L : List Lk) (a b : Int) : Prop := MayG ids L ∧ (0 ≤ a ∧ a < ids.length) ∧ (0 ≤ b ∧ b < ids.length)
/-- What Path answers. -/
def PathIs (w' : World) (B : Nat) (ids : List Int) (L : List Lk) (a b : Int) (e : Ending) : Prop :=
  (¬ PathOk ids L a b ∧ e = .returned (.tuple #[.slice Option.none 0 0, .int .i64 2])) ∨
  (PathOk ids L a b ∧ ∃ N, Put ids ids.length L N ∧
    ((∃ p c l, e = .returned (.tuple #[.slice p l.length c, .int .i64 0]) ∧ w'.ownsRow B 45 3 (.slice p l.length c) l.length (flatH l) ∧ Wk (sidesOf L) (InN ids L N) b a (-1) l ∧ l ≠ []) ∨
     (e = .returned (.tuple #[.slice Option.none 0 0, .int .i64 7]) ∧ ∀ l', ¬ Wk (sidesOf L) (InN ids L N) b a (-1) l')))
set_option maxHeartbeats 4000000 in
theorem Path_any {a b : Int} (hI : WV w BI 1 pi n ci (idc ids)) (hL : LSl w.heap.size w pl cl L) (hnl : L.length = nl) (hl : nl ≤ 50) (hn : n ≤ 1000) (ht : InT ids L) :
    Calls Try.prog 11 #[.slice pi n ci, .slice pl nl cl, .int .i64 a, .int .i64 b] w fun e w' => Keeps Nil w w' ∧ PathIs w' w.heap.size ids L a b e := by
  have HI := hid hI
  have HL := hid hL
  have HT := hid ht
  have hlen : ids.length = n := by have := hI.1; simpa [idc] using this
  have KZ := hid ((Keeps.refl Nil w).alloc (.cells #[.slice pi n ci, .slice pl nl cl] 51 (0, 0)))
  clear hI hL ht
  by_cases hb : mayB ids L = true
  · have hm := mayB_iff.1 hb
    have hok : GOk ids n (sidesOf L) := hlen ▸ (hm.gok HT.out (by omega))
    have hap := hm.apart
    by_cases hp : ((0 ≤ a ∧ a < (n : Int)) ∧ (0 ≤ b ∧ b < (n : Int)))
    · have HMU := hid (show ∀ N, Put ids n L N → ∀ s ∈ sidesOf L, InN ids L N s.k.toNat = true → ∀ p, s.n.p ≠ p → muOf (qOf (Nq ids L N)) (fun x => (valOf N x).2) s.f.b s.f.p < muOf (qOf (Nq ids L N)) (fun x => (valOf N x).2) s.n.b p from
        fun N hN s hs hi p hne => by
          subst hlen
          exact (hN.tr hok hap).mu (fun t ht => (hN.cost hok (hok.side t ht).1.1 (hok.side t ht).1.2).2) hs hi p hne)
      have HLE := hid (show ∀ N, Put ids n L N → muOf (qOf (Nq ids L N)) (fun x => (valOf N x).2) a (-1) ≤ 100000000 from fun N hN => mu_le _ _ _ _ (hN.cost hok hp.1.1 hp.1.2).1 (hN.cost hok hp.1.1 hp.1.2).2)
      have HPO := hid (show PathOk ids L a b from ⟨hm, by rw [hlen]; exact hp.1, by rw [hlen]; exact hp.2⟩)
      have HOK := hid hok
      have h1 : ¬ a < 0 := by omega
      have h2 : ¬ (n : Int) ≤ a := by omega
      have h3 : ¬ b < 0 := by omega
      have h4 : ¬ (n : Int) ≤ b := by omega
      clear hm hap hok hp
      go_enter Try.func11, Try.ntmps11
      go_wp2_with (first | (go_at_call 14; refine (may_any (HI.out.keepN KZ.out) ((HL.out.below (KZ.out.below (fun _ _ e => e)) (Nat.le_refl _)).mono KZ.out.size) hnl hl hn HT.out).mono ?_; rintro e w1 ⟨rfl, k1⟩; rw [hb]; have hbA := (k1.block _ (by simp) (fun e => e)).trans (alloc_block w (.cells #[.slice pi n ci, .slice pl nl cl] 51 (0, 0))); have fA0 := cellOf (i := 0) (v := .slice pi n ci) hbA rfl; have fA1 := cellOf (i := 1) (v := .slice pl nl cl) hbA rfl; have hwl : w.heap.size < w1.heap.size := lt_of_block hbA; have HBA := hid hbA; clear hbA; have KW := hid (KZ.out.trans k1); clear k1) | (go_at_call 15; refine (tree_any (HI.out.keepN KW.out) ((HL.out.below (KW.out.below (fun _ _ e => e)) (Nat.le_refl _)).mono KW.out.size) hnl hl HOK.out).mono ?_; rintro e w2 ⟨gN, c3, gI, N, rfl, ht2, k2⟩; have hbA2 := (k2.block _ hwl (fun e => e)).trans HBA.out; have gA0 := cellOf (i := 0) (v := .slice pi n ci) hbA2 rfl; have gA1 := cellOf (i := 1) (v := .slice pl nl cl) hbA2 rfl; have hwl2 : w.heap.size < w2.heap.size := lt_of_block hbA2; clear hbA2 fA0 fA1; have HTA := hid ht2; have KW2 := hid (KW.out.trans k2); clear ht2 k2) | (go_at_call 21; refine (way_any (n := n) (ids := ids) (.slice pi n ci) (InN ids L N) (muOf (qOf (Nq ids L N)) (fun x => (valOf N x).2)) b hnl hl HOK.out (HMU.out N HTA.out.put) _ a (-1) w2 (Nat.le_refl _) (HLE.out N HTA.out.put) ((HL.out.below (KW2.out.below (fun _ _ e => e)) (Nat.le_refl _)).mono KW2.out.size) (by have h1 := HTA.out.blk; rw [← hlen] at h1; exact h1)).mono ?_; rintro e w3 ⟨v, l, rfl, hown, k3, hw3⟩; have HOWN := hid hown; have KW3 := hid (KW2.out.trans k3); have HW := hid hw3; clear hown k3 hw3; obtain ⟨pv, cv, rfl⟩ := own_shape HOWN.out))
      · go_ret2
        refine ⟨KW3.out, .inr ⟨HPO.out, N, hlen ▸ HTA.out.put, .inr ⟨rfl, ?_⟩⟩⟩
        rcases HW.out with ⟨hne, _⟩ | ⟨_, hno⟩
        · have hz : ((l.length : Int) == 0) = true := by assumption
          exact absurd (List.eq_nil_of_length_eq_zero (by have := eq_of_beq hz; omega)) hne
        · exact hno
      · go_ret2
        refine ⟨KW3.out, .inr ⟨HPO.out, N, hlen ▸ HTA.out.put, .inl ⟨pv, cv, l, rfl, own_mono HOWN.out KW2.out.size, ?_⟩⟩⟩
        rcases HW.out with ⟨hne, _, hwk⟩ | ⟨he, hno⟩
        · exact ⟨hwk, hne⟩
        · subst he; simp at *
    · have HNP := hid (show ¬ PathOk ids L a b from fun h => hp ⟨by have := h.2.1; rw [hlen] at this; exact this, by have := h.2.2; rw [hlen] at this; exact this⟩)
      have hcs : a < 0 ∨ (¬ a < 0 ∧ (n : Int) ≤ a) ∨ (¬ a < 0 ∧ ¬ (n : Int) ≤ a ∧ b < 0) ∨ (¬ a < 0 ∧ ¬ (n : Int) ≤ a ∧ ¬ b < 0 ∧ (n : Int) ≤ b) := by omega
      clear hp hok hap hm
      rcases hcs with h1 | ⟨h1, h2⟩ | ⟨h1, h2, h3⟩ | ⟨h1, h2, h3, h4⟩
      all_goals
        go_enter Try.func11, Try.ntmps11
        go_wp2_with (go_at_call 14; refine (may_any (HI.out.keepN KZ.out) ((HL.out.below (KZ.out.below (fun _ _ e => e)) (Nat.le_refl _)).mono KZ.out.size) hnl hl hn HT.out).mono ?_; rintro e w1 ⟨rfl, k1⟩; rw [hb]; have hbA := (k1.block _ (by simp) (fun e => e)).trans (alloc_block w (.cells #[.slice pi n ci, .slice pl nl cl] 51 (0, 0))); have fA0 := cellOf (i := 0) (v := .slice pi n ci) hbA rfl; have fA1 := cellOf (i := 1) (v := .slice pl nl cl) hbA rfl; have hwl : w.heap.size < w1.heap.size := lt_of_block hbA; have HBA := hid hbA; clear hbA; have KW := hid (KZ.out.trans k1); clear k1)
        go_ret2
        exact ⟨KW.out, .inl ⟨HNP.out, rfl⟩⟩
  · have hb := (Bool.not_eq_true _).mp hb
    have HNP := hid (show ¬ PathOk ids L a b from fun h => by rw [mayB_true h.1] at hb; cases hb)
    go_enter Try.func11, Try.ntmps11
    go_wp2_with (go_at_call 14; refine (may_any (HI.out.keepN KZ.out) ((HL.out.below (KZ.out.below (fun _ _ e => e)) (Nat.le_refl _)).mono KZ.out.size) hnl hl hn HT.out).mono ?_; rintro e w1 ⟨rfl, k1⟩; rw [hb]; have hbA := (k1.block _ (by simp) (fun e => e)).trans (alloc_block w (.cells #[.slice pi n ci, .slice pl nl cl] 51 (0, 0))); have fA0 := cellOf (i := 0) (v := .slice pi n ci) hbA rfl; have fA1 := cellOf (i := 1) (v := .slice pl nl cl) hbA rfl; have hwl : w.heap.size < w1.heap.size := lt_of_block hbA; have HBA := hid hbA; clear hbA; have KW := hid (KZ.out.trans k1); clear k1)
    go_ret2
    exact ⟨KW.out, .inl ⟨HNP.out, rfl⟩⟩
end
end Go.Proofs.Ythnkeppkhdceoaa
