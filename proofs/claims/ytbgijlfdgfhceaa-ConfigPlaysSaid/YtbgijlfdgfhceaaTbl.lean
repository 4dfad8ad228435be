/-
  Layer 16: the table as it lies; the tests of AddAssoc, AddMep, DropMep. Conditions: it lies so.
-/
import Derived.Test.YtbgijlfdgfhceaaRow2
import Derived.Test.YtbgijlfdgfhceaaMay
import Derived.StillTailTactics
namespace Go.Proofs.Ytbgijlfdgfhceaa
open Go.RowKit
set_option linter.unusedVariables false
set_option linter.unusedSimpArgs false

/-- A row whose block is one of S. -/
def ORow (w : World) (S : Nat → Prop) (T sz : Nat) (p : Option Addr) (n c : Nat) (xs : List Value) : Prop :=
  w.ownsRow 0 T sz (.slice p n c) n xs ∧ ∀ a, p = some a → S a.block
theorem ORow.keep {S X : Nat → Prop} {w w' : World} {T sz n c : Nat} {p : Option Addr} {xs : List Value} (h : ORow w S T sz p n c xs) (k : Keeps X w w') (hX : ∀ g, S g → ¬ X g) : ORow w' S T sz p n c xs := by
  obtain ⟨⟨hl, h1⟩, h2⟩ := h
  refine ⟨⟨hl, ?_⟩, h2⟩
  rcases h1 with h1 | ⟨g, cap, cur, hv, hb, hg, r⟩
  · exact .inl h1
  · refine .inr ⟨g, cap, cur, hv, hb, ?_, r⟩
    injection hv with h3 h4 h5
    exact (k.block g (lt_of_block hg) (hX g (h2 _ h3))).trans hg
theorem ORow.mono {S S' : Nat → Prop} {w : World} {T sz n c : Nat} {p : Option Addr} {xs : List Value} (h : ORow w S T sz p n c xs) (hS : ∀ g, S g → S' g) : ORow w S' T sz p n c xs := ⟨h.1, fun a e => hS _ (h.2 a e)⟩
theorem ORow.wv {S : Nat → Prop} {w : World} {T sz n c : Nat} {p : Option Addr} {xs : List Value} (h : ORow w S T sz p n c xs) : WV w 0 sz p n c xs := WV.of_own h.1
theorem ORow.of_new {S : Nat → Prop} {w : World} {B T sz n c : Nat} {p : Option Addr} {xs : List Value} (h : w.ownsRow B T sz (.slice p n c) n xs) (hS : ∀ g, B ≤ g → g < w.heap.size → S g) : ORow w S T sz p n c xs := by
  obtain ⟨hl, h1⟩ := h
  rcases h1 with h1 | ⟨g, cap, cur, hv, hb, hg, r⟩
  · exact ⟨⟨hl, .inl h1⟩, fun a e => by obtain ⟨h1, _⟩ := h1; injection h1 with h1; rw [h1] at e; cases e⟩
  · refine ⟨⟨hl, .inr ⟨g, cap, cur, hv, Nat.zero_le _, hg, r⟩⟩, fun a e => ?_⟩
    injection hv with h3 h4 h5
    rw [h3] at e
    injection e with e
    subst e
    exact hS g hb (lt_of_block hg)

/-- An association without where its numbers lie. -/
def As.bare (x : As) : As := { x with p := Option.none, c := 0 }
theorem bare_may (x : As) : mayA x.bare = mayA x := rfl
/-- The table as plain data: ports, associations, end points, middle points. -/
structure CT where
  n : Int
  A : List As
  E : List Me
  M : List (Pl × Int)
/-- The table at t, all of whose blocks are of S. -/
structure TblAt (w : World) (S : Nat → Prop) (t : Nat) (τ : CT) (pa : Option Addr) (ca : Nat) (pe : Option Addr) (ce mb : Nat) (L : List As) : Prop where
  bound : ∀ g, S g → g < w.heap.size
  inT : S t
  head : w.heap[t]? = some (.cells #[.int .i64 τ.n, .slice pa L.length ca, .slice pe τ.E.length ce, .map (some mb)] 69 (0, 0))
  rowA : ORow w S 50 6 pa L.length ca (flatA L)
  bare : L.map As.bare = τ.A
  nums : ∀ x ∈ L, ORow w S 23 1 x.p x.ms.length x.c (flatU x.ms)
  rowE : ORow w S 59 4 pe τ.E.length ce (flatE τ.E)
  inM : S mb
  map : MapIs w mb τ.M
def Tbl (w : World) (S : Nat → Prop) (t : Nat) (τ : CT) : Prop := ∃ pa ca pe ce mb L, TblAt w S t τ pa ca pe ce mb L
section
variable {w w' : World} {S X : Nat → Prop} {t : Nat} {τ : CT} {pa pe : Option Addr} {ca ce mb : Nat} {L : List As}
theorem TblAt.keep (h : TblAt w S t τ pa ca pe ce mb L) (k : Keeps X w w') (hX : ∀ g, S g → ¬ X g) : TblAt w' S t τ pa ca pe ce mb L :=
  ⟨fun g hg => Nat.lt_of_lt_of_le (h.bound g hg) k.size, h.inT, (k.block t (h.bound t h.inT) (hX t h.inT)).trans h.head, h.rowA.keep k hX, h.bare, fun x hx => (h.nums x hx).keep k hX, h.rowE.keep k hX, h.inM, h.map.keep k (hX mb h.inM)⟩
theorem TblAt.keepN (h : TblAt w S t τ pa ca pe ce mb L) (k : Keeps Nil w w') : TblAt w' S t τ pa ca pe ce mb L := h.keep k (fun _ _ e => e)
theorem TblAt.mono {S' : Nat → Prop} (h : TblAt w S t τ pa ca pe ce mb L) (hS : ∀ g, S g → S' g) (hb : ∀ g, S' g → g < w.heap.size) : TblAt w S' t τ pa ca pe ce mb L :=
  ⟨hb, hS _ h.inT, h.head, h.rowA.mono hS, h.bare, fun x hx => (h.nums x hx).mono hS, h.rowE.mono hS, hS _ h.inM, h.map⟩
theorem Tbl.keep (h : Tbl w S t τ) (k : Keeps X w w') (hX : ∀ g, S g → ¬ X g) : Tbl w' S t τ := by
  obtain ⟨pa, ca, pe, ce, mb, L, h⟩ := h; exact ⟨pa, ca, pe, ce, mb, L, h.keep k hX⟩
theorem Tbl.keepN (h : Tbl w S t τ) (k : Keeps Nil w w') : Tbl w' S t τ := h.keep k (fun _ _ e => e)
theorem Tbl.mono {S' : Nat → Prop} (h : Tbl w S t τ) (hS : ∀ g, S g → S' g) (hb : ∀ g, S' g → g < w.heap.size) : Tbl w S' t τ := by
  obtain ⟨pa, ca, pe, ce, mb, L, h⟩ := h; exact ⟨pa, ca, pe, ce, mb, L, h.mono hS hb⟩
theorem TblAt.lenA (h : TblAt w S t τ pa ca pe ce mb L) : L.length = τ.A.length := by rw [← h.bare, List.length_map]
end
/-- Those of S, and what was made since. -/
def Nw (S : Nat → Prop) (w w' : World) : Nat → Prop := fun g => S g ∨ (w.heap.size ≤ g ∧ g < w'.heap.size)

set_option maxHeartbeats 1000000 in
theorem port_any (p : Int) (hp : 0 ≤ p ∧ p < 256) {w : World} {t : Nat} {n : Int} {c1 c2 c3 : Value} (h : w.heap[t]? = some (.cells #[.int .i64 n, c1, c2, c3] 69 (0, 0))) :
    Calls Try.prog 37 #[.pointer (some ⟨t, 0, Option.none⟩), .int .u8 p] w fun e w' => e = .returned (.bool (decide (p < n))) ∧ w = w' := by
  obtain ⟨a0, a1, a2, a3⟩ := four_block h
  clear h
  go_enter Try.func37, Try.ntmps37
  go_wp2_with fail
  go_ret
  exact ⟨rfl, rfl⟩
def dropB (a i : Int) (x : Me) : Bool := decide (x.ai = a) && decide (x.id = i)
set_option maxHeartbeats 1000000 in
theorem drop_test (x : Me) (a i : Int) (b0 b1 : Nat) (w : World) (h0 : w.cell? ⟨b0, 0, Option.none⟩ = some (.int .i64 a)) (h1 : w.cell? ⟨b1, 0, Option.none⟩ = some (.int .u16 i)) (l0 : b0 < w.heap.size) (l1 : b1 < w.heap.size) :
    Calls Try.prog 43 #[.agg #[.int .i64 x.ai, .int .u16 x.id, .int .u8 x.port, .bool x.up], .pointer (some ⟨b0, 0, Option.none⟩), .pointer (some ⟨b1, 0, Option.none⟩)] w fun e w' => e = .returned (.bool (dropB a i x)) ∧ Keeps Nil w w' := by
  obtain ⟨ai, id, po, up⟩ := x
  by_cases e1 : ai = a
  · by_cases e2 : id = i
    · have HN := hid (show dropB a i ⟨ai, id, po, up⟩ = true by simp [dropB, e1, e2])
      subst e1 e2
      go_enter Try.func43, Try.ntmps43
      go_wp2_with fail
      go_ret
      exact ⟨by rw [HN.out]; rfl, (Keeps.refl _ _).alloc _⟩
    · have HN := hid (show dropB a i ⟨ai, id, po, up⟩ = false by simp [dropB, e1, e2])
      have e2' : (id == i) = false := by simp [e2]
      subst e1
      go_enter Try.func43, Try.ntmps43
      go_wp2_with fail
      go_ret
      exact ⟨by rw [HN.out]; rfl, (Keeps.refl _ _).alloc _⟩
  · have HN := hid (show dropB a i ⟨ai, id, po, up⟩ = false by simp [dropB, e1])
    have e1' : (ai == a) = false := by simp [e1]
    go_enter Try.func43, Try.ntmps43
    go_wp2_with fail
    go_ret
    exact ⟨by rw [HN.out]; rfl, (Keeps.refl _ _).alloc _⟩
def sameB (d o : ByteArray) (x : As) : Bool := decide (d = x.dom) && decide (o = x.own)
set_option maxHeartbeats 1000000 in
theorem asc_test (x : As) (d o : ByteArray) (b0 : Nat) (w : World) (h0 : w.cell? ⟨b0, 1, Option.none⟩ = some (.string d)) (h1 : w.cell? ⟨b0, 2, Option.none⟩ = some (.string o)) (l0 : b0 < w.heap.size) :
    Calls Try.prog 34 #[.agg #[.int .u8 x.lv, .string x.dom, .string x.own, .int .u16 x.vid, .int .u8 x.iv, .slice x.p x.ms.length x.c], .pointer (some ⟨b0, 0, Option.none⟩)] w fun e w' => e = .returned (.bool (sameB d o x)) ∧ Keeps Nil w w' := by
  have E1 := str_eq d x.dom
  have E2 := str_eq o x.own
  by_cases e1 : d = x.dom
  · by_cases e2 : o = x.own
    · have HN := hid (show sameB d o x = true by simp [sameB, e1, e2])
      rw [decide_eq_true e1] at E1
      rw [decide_eq_true e2] at E2
      clear e1 e2
      go_enter Try.func34, Try.ntmps34
      go_wp2_with fail
      go_ret
      exact ⟨by rw [HN.out]; rfl, (Keeps.refl _ _).alloc _⟩
    · have HN := hid (show sameB d o x = false by simp [sameB, e1, e2])
      rw [decide_eq_true e1] at E1
      rw [decide_eq_false e2] at E2
      clear e1 e2
      go_enter Try.func34, Try.ntmps34
      go_wp2_with fail
      go_ret
      exact ⟨by rw [HN.out]; rfl, (Keeps.refl _ _).alloc _⟩
  · have HN := hid (show sameB d o x = false by simp [sameB, e1])
    rw [decide_eq_false e1] at E1
    clear e1
    go_enter Try.func34, Try.ntmps34
    go_wp2_with fail
    go_ret
    exact ⟨by rw [HN.out]; rfl, (Keeps.refl _ _).alloc _⟩
end Go.Proofs.Ytbgijlfdgfhceaa
