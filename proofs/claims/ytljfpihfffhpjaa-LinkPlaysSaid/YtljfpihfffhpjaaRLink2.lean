/-
  The document's link (layer 23): Come of a frame; Lose; Down. Conditions: the frames lie in their cells.
-/
import Derived.Test.YtljfpihfffhpjaaRLink
import Derived.Deep.RegionHeld3
namespace Go.Proofs.Ytljfpihfffhpjaa
open Go.RowKit Go.Conc
set_option linter.unusedVariables false

/-- A slice that reads as these cells (one each), in a block from B on. -/
def View (w : World) (B : Nat) (p : Option Addr) (n c : Nat) (xs : List Value) : Prop :=
  xs.length = n ∧ n ≤ c ∧ (0 < n → ∃ g off, p = some ⟨g, off, Option.none⟩ ∧ B ≤ g ∧ g < w.heap.size ∧ ∀ j u, xs[j]? = some u → w.cell? ⟨g, off + j, Option.none⟩ = some u)
theorem View.keep {S : Nat → Prop} {w w' : World} {B : Nat} {p : Option Addr} {n c : Nat} {xs : List Value} (h : View w B p n c xs) (k : Keeps S w w') (hS : ∀ g, B ≤ g → g < w.heap.size → ¬ S g) : View w' B p n c xs :=
  ⟨h.1, h.2.1, fun hn => by
    obtain ⟨g, off, e, hb, hl, hc⟩ := h.2.2 hn
    exact ⟨g, off, e, hb, Nat.lt_of_lt_of_le hl k.size, fun j u hu => by rw [k.cell (p := ⟨g, off + j, Option.none⟩) hl (hS g hb hl)]; exact hc j u hu⟩⟩
theorem View.keepN {w w' : World} {B : Nat} {p : Option Addr} {n c : Nat} {xs : List Value} (h : View w B p n c xs) (k : Keeps Nil w w') : View w' B p n c xs := h.keep k (fun _ _ _ e => e)
theorem View.mono {w : World} {B B' : Nat} {p : Option Addr} {n c : Nat} {xs : List Value} (h : View w B p n c xs) (hB : B' ≤ B) : View w B' p n c xs :=
  ⟨h.1, h.2.1, fun hn => by
    obtain ⟨g, off, e, hb, hl, hc⟩ := h.2.2 hn
    exact ⟨g, off, e, Nat.le_trans hB hb, hl, hc⟩⟩
theorem View.nil (w : World) (B : Nat) (p : Option Addr) (c : Nat) : View w B p 0 c [] := ⟨rfl, Nat.zero_le _, fun h => absurd h (Nat.lt_irrefl _)⟩
theorem View.of_own {w : World} {B : Nat} {e : TypeId} {p : Option Addr} {n c : Nat} {xs : List Value} (h : w.ownsRow B e 1 (.slice p n c) n xs) : View w B p n c xs := by
  rcases ownsRow_read h with ⟨h1, rfl, rfl⟩ | ⟨g, cap, hv, hb, hl, hn, hx, hc⟩
  · injection h1 with h1 h2 h3
    subst h3
    exact ⟨rfl, Nat.le_refl _, fun h => by omega⟩
  · injection hv with h1 h2 h3
    subst h3
    exact ⟨hx, hn, fun _ => ⟨g, 0, h1, hb, hl, fun j u hu => by rw [Nat.zero_add]; exact hc j u hu⟩⟩
theorem View.tail {w : World} {B : Nat} {g off n c : Nat} {x : Value} {xs : List Value} (h : View w B (some ⟨g, off, Option.none⟩) (n + 1) c (x :: xs)) : View w B (some ⟨g, off + 1, Option.none⟩) n (c - 1) xs :=
  ⟨by have := h.1; simp at this; omega, by have := h.2.1; omega, fun _ => by
    obtain ⟨g', off', e, hb, hl, hc⟩ := h.2.2 (by omega)
    injection e with e; injection e with e1 e2; subst e1 e2
    exact ⟨_, _, rfl, hb, hl, fun j u hu => by rw [show off + 1 + j = off + (j + 1) from by omega]; exact hc (j + 1) u (by simpa using hu)⟩⟩
theorem Keeps.lies {S : Nat → Prop} {w w' : World} (k : Keeps S w w') {b : Nat} {o : Obj} (h : w.heap[b]? = some o) (hs : ¬ S b := by exact fun h => h) : w'.heap[b]? = some o := (k.block b (lt_of_block h) hs).trans h

set_option maxHeartbeats 2000000 in
theorem rcome0_some (B g o n k : Nat) (s : ByteArray) (ys : List Value) (u : Bool) (p0 : Option Addr) (n0 k0 : Nat) (p1 : Option Addr) (n1 k1 : Nat) (a0 a1 b0 b1 : Int) (w : World) (hv : View w B (some ⟨g, o, Option.none⟩) (n + 1) k (.string s :: ys)) (hm : n ≤ 64) :
    Calls Try.prog 18 #[rlink u (some ⟨g, o, Option.none⟩) (n + 1) k p1 n1 k1 a0 a1 b0 b1, .int .i64 0] w fun ee w' => (∃ p k', ee = .returned (.tuple #[rlink u p n k' p1 n1 k1 a0 a1 b0 b1, .string s, .int .i64 0]) ∧ ∀ W, View W B (some ⟨g, o, Option.none⟩) (n + 1) k (.string s :: ys) → View W B p n k' ys) ∧ Keeps Nil w w' := by
  have hc : w.cell? ⟨g, o, Option.none⟩ = some (.string s) ∧ g < w.heap.size := by
    obtain ⟨g', off', e, hb, hl, hc⟩ := hv.2.2 (by omega)
    injection e with e; injection e with e1 e2; subst e1 e2
    exact ⟨by simpa using hc 0 (.string s) (by simp), hl⟩
  obtain ⟨hc, hg⟩ := hc
  have hc' : n + 1 ≤ k := hv.2.1
  have HV := hid hv
  clear hv
  have b1' : (1 : Int) ≤ (n : Int) + 1 := by omega
  have b2' : (n : Int) + 1 ≤ (k : Int) := by omega
  have b3' : ((n : Int) + 1 == 0) = false := by rw [beq_eq_false_iff_ne]; omega
  by_cases h1 : k = 1
  · obtain rfl : n = 0 := by omega
    subst h1
    obtain rfl : ys = [] := by have := HV.out.1; simp at this; exact this
    go_enter Try.func18, Try.ntmps18
    go_wp2_with (go_at_call 35; refine (rmay_any _ _).mono ?_; rintro ee w' ⟨rfl, rfl⟩)
    refine bodyPost_ret (v := .tuple #[rlink u (some ⟨g, o, Option.none⟩) 0 0 p1 n1 k1 a0 a1 b0 b1, .string s, .int .i64 0]) (by simp [results, Try.results18, go_sem, *]) rfl ?_
    exact ⟨⟨_, _, rfl, fun _ _ => View.nil _ _ _ _⟩, by repeat' (first | exact Keeps.refl _ _ | refine Keeps.drew ?_ | refine Keeps.alloc ?_ _ | refine Keeps.setCell ?_ (fun h => absurd h (by simp)) _)⟩
  · go_enter Try.func18, Try.ntmps18
    go_wp2_with (go_at_call 35; refine (rmay_any _ _).mono ?_; rintro ee w' ⟨rfl, rfl⟩)
    refine bodyPost_ret (v := .tuple #[rlink u (some ⟨g, o + 1, Option.none⟩) n (k - 1) p1 n1 k1 a0 a1 b0 b1, .string s, .int .i64 0]) (by simp [results, Try.results18, go_sem, *]) rfl ?_
    refine (fun K => ⟨⟨_, _, rfl, fun _ h => h.tail⟩, K⟩) ?_
    repeat' (first | exact Keeps.refl _ _ | refine Keeps.drew ?_ | refine Keeps.alloc ?_ _ | refine Keeps.setCell ?_ (fun h => absurd h (by simp)) _)

set_option maxHeartbeats 2000000 in
theorem rcome1_some (B g o n k : Nat) (s : ByteArray) (ys : List Value) (u : Bool) (p0 : Option Addr) (n0 k0 : Nat) (p1 : Option Addr) (n1 k1 : Nat) (a0 a1 b0 b1 : Int) (w : World) (hv : View w B (some ⟨g, o, Option.none⟩) (n + 1) k (.string s :: ys)) (hm : n ≤ 64) :
    Calls Try.prog 18 #[rlink u p0 n0 k0 (some ⟨g, o, Option.none⟩) (n + 1) k a0 a1 b0 b1, .int .i64 1] w fun ee w' => (∃ p k', ee = .returned (.tuple #[rlink u p0 n0 k0 p n k' a0 a1 b0 b1, .string s, .int .i64 0]) ∧ ∀ W, View W B (some ⟨g, o, Option.none⟩) (n + 1) k (.string s :: ys) → View W B p n k' ys) ∧ Keeps Nil w w' := by
  have hc : w.cell? ⟨g, o, Option.none⟩ = some (.string s) ∧ g < w.heap.size := by
    obtain ⟨g', off', e, hb, hl, hc⟩ := hv.2.2 (by omega)
    injection e with e; injection e with e1 e2; subst e1 e2
    exact ⟨by simpa using hc 0 (.string s) (by simp), hl⟩
  obtain ⟨hc, hg⟩ := hc
  have hc' : n + 1 ≤ k := hv.2.1
  have HV := hid hv
  clear hv
  have b1' : (1 : Int) ≤ (n : Int) + 1 := by omega
  have b2' : (n : Int) + 1 ≤ (k : Int) := by omega
  have b3' : ((n : Int) + 1 == 0) = false := by rw [beq_eq_false_iff_ne]; omega
  by_cases h1 : k = 1
  · obtain rfl : n = 0 := by omega
    subst h1
    obtain rfl : ys = [] := by have := HV.out.1; simp at this; exact this
    go_enter Try.func18, Try.ntmps18
    go_wp2_with (go_at_call 35; refine (rmay_any _ _).mono ?_; rintro ee w' ⟨rfl, rfl⟩)
    refine bodyPost_ret (v := .tuple #[rlink u p0 n0 k0 (some ⟨g, o, Option.none⟩) 0 0 a0 a1 b0 b1, .string s, .int .i64 0]) (by simp [results, Try.results18, go_sem, *]) rfl ?_
    exact ⟨⟨_, _, rfl, fun _ _ => View.nil _ _ _ _⟩, by repeat' (first | exact Keeps.refl _ _ | refine Keeps.drew ?_ | refine Keeps.alloc ?_ _ | refine Keeps.setCell ?_ (fun h => absurd h (by simp)) _)⟩
  · go_enter Try.func18, Try.ntmps18
    go_wp2_with (go_at_call 35; refine (rmay_any _ _).mono ?_; rintro ee w' ⟨rfl, rfl⟩)
    refine bodyPost_ret (v := .tuple #[rlink u p0 n0 k0 (some ⟨g, o + 1, Option.none⟩) n (k - 1) a0 a1 b0 b1, .string s, .int .i64 0]) (by simp [results, Try.results18, go_sem, *]) rfl ?_
    refine (fun K => ⟨⟨_, _, rfl, fun _ h => h.tail⟩, K⟩) ?_
    repeat' (first | exact Keeps.refl _ _ | refine Keeps.drew ?_ | refine Keeps.alloc ?_ _ | refine Keeps.setCell ?_ (fun h => absurd h (by simp)) _)

theorem rcome_out (e : Int) (he : e < 0 ∨ 1 < e) (v : Value) (hv : ∃ u p0 n0 k0 p1 n1 k1 a0 a1 b0 b1, v = rlink u p0 n0 k0 p1 n1 k1 a0 a1 b0 b1) (w : World) :
    Calls Try.prog 18 #[v, .int .i64 e] w fun ee w' => ee = .returned (.tuple #[v, .string ⟨#[]⟩, .int .i64 2]) ∧ Keeps Nil w w' := by
  obtain ⟨u, p0, n0, k0, p1, n1, k1, a0, a1, b0, b1, rfl⟩ := hv
  have hm : decide (e = 0 ∨ e = 1) = false := by simp; omega
  have HM : ∀ W, Hid (Calls Try.prog 35 #[.int .i64 e] W fun ee w' => ee = .returned (.bool false) ∧ W = w') := fun W => hid (by have := rmay_any e W; rwa [hm] at this)
  clear hm he
  go_enter Try.func18, Try.ntmps18
  go_wp2_with (go_at_call 35; refine (HM _).out.mono ?_; rintro ee w' ⟨rfl, rfl⟩)
  refine bodyPost_ret (v := .tuple #[rlink u p0 n0 k0 p1 n1 k1 a0 a1 b0 b1, .string ⟨#[]⟩, .int .i64 2]) (by simp [results, Try.results18, go_sem, *]) rfl ?_
  exact ⟨rfl, by repeat' (first | exact Keeps.refl _ _ | refine Keeps.drew ?_ | refine Keeps.alloc ?_ _ | refine Keeps.setCell ?_ (fun h => absurd h (by simp)) _)⟩
end Go.Proofs.Ytljfpihfffhpjaa
