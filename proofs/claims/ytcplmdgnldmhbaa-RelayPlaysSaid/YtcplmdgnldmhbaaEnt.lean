/-
  Layer 8: places and entries; the little functions (of, the closures of Tick and Flush, Group, may). No condition.
-/
import Derived.Test.YtcplmdgnldmhbaaKit
import Derived.Test.YtcplmdgnldmhbaaProg
import Derived.WalkArith
import Derived.ChangeKeysEq
import Derived.DeepKeys
namespace Go.Proofs.Ytcplmdgnldmhbaa
open Go.RowKit
set_option linter.unusedVariables false

/-- A VLAN and an address. -/
structure Pl where
  v : Int
  a : Int
  b : Int
  c : Int
  d : Int
  e : Int
  f : Int
deriving DecidableEq
abbrev Pl.mac (p : Pl) : Value := .agg #[.int .u8 p.a, .int .u8 p.b, .int .u8 p.c, .int .u8 p.d, .int .u8 p.e, .int .u8 p.f]
abbrev Pl.val (p : Pl) : Value := .agg #[.int .u16 p.v, .int .u8 p.a, .int .u8 p.b, .int .u8 p.c, .int .u8 p.d, .int .u8 p.e, .int .u8 p.f]
/-- A learnt entry. -/
structure En where
  p : Pl
  port : Int
  age : Int
abbrev En.val (x : En) : Value := .agg #[.int .u16 x.p.v, .int .u8 x.p.a, .int .u8 x.p.b, .int .u8 x.p.c, .int .u8 x.p.d, .int .u8 x.p.e, .int .u8 x.p.f, .int .u8 x.port, .int .i64 x.age]

theorem pl_ext (p q : Pl) : (p = q) = (p.v = q.v ∧ p.a = q.a ∧ p.b = q.b ∧ p.c = q.c ∧ p.d = q.d ∧ p.e = q.e ∧ p.f = q.f) := by
  cases p; cases q; simp

set_option maxHeartbeats 1000000 in
theorem tick1_any (x : En) (w : World) : Calls Try.prog 36 #[x.val] w fun e w' => e = .returned (.bool (decide (40 ≤ x.age))) ∧ Keeps Nil w w' := by
  go_enter Try.func36, Try.ntmps36
  go_wp2
  go_ret
  exact ⟨rfl, (Keeps.refl Nil w).alloc _⟩

theorem eq25 (a b c d e f a' b' c' d' e' f' : Int) (w : World) :
    (Op.equalIn 9999 31 (.agg #[.int .u8 a, .int .u8 b, .int .u8 c, .int .u8 d, .int .u8 e, .int .u8 f]) (.agg #[.int .u8 a', .int .u8 b', .int .u8 c', .int .u8 d', .int .u8 e', .int .u8 f'])).run Try.prog w
      = .ok (decide (a = a' ∧ b = b' ∧ c = c' ∧ d = d' ∧ e = e' ∧ f = f')) w := by
  have hu : Try.prog.underlying 31 = some (.array 6 5) := by kernel_rfl
  obtain ⟨i, hi⟩ : ∃ i, Try.prog.info? 5 = some i := by
    have h : (Try.prog.info? 5).isSome = true := by kernel_rfl
    exact Option.isSome_iff_exists.1 h
  have h5 : Try.prog.underlying 5 = some (.int .u8) := by kernel_rfl
  have hp : Try.prog.plainKey 5 = true := by simp [Program.plainKey, h5]
  have hc : Try.prog.cellsOf 5 = 1 := by kernel_rfl
  have e0 : List.range 6 = [0, 1, 2, 3, 4, 5] := rfl
  rw [run_equalIn_array (d := 9998) (w := w) _ _ hu hi, e0, hc]
  have P : ∀ (xs : Array Value) (o : Nat) (v : Value) (W : World), xs[o]? = some v → (Go.part 5 xs o).run Try.prog W = .ok v W := fun xs o v W h => run_part_plain W hp h
  have I : ∀ (x y : Int) (W : World), (Op.equalIn 9998 5 (.int .u8 x) (.int .u8 y)).run Try.prog W = .ok (x == y) W := fun x y W => run_equalIn_int W 9997 5 .u8 .u8 x y h5
  have S : ∀ (x y : Value) (xs ys : Array Value) (o : Nat) (is : List Nat) (m n : Int) (W : World), xs[o]? = some (.int .u8 m) → ys[o]? = some (.int .u8 n) →
      (Op.eqItems 9998 5 1 xs ys (o :: is)).run Try.prog W = if m = n then (Op.eqItems 9998 5 1 xs ys is).run Try.prog W else .ok false W := by
    intro x y xs ys o is m n W hx hy
    simp only [Op.eqItems, Sem.run_bind, Nat.mul_one]
    rw [P _ _ _ W hx]
    simp only [Result.andThen_ok]
    rw [P _ _ _ W hy]
    simp only [Result.andThen_ok, I]
    by_cases h : m = n
    · simp [h]
    · simp [h]
  rw [S (.bool true) (.bool true) _ _ 0 _ a a' w rfl rfl, S (.bool true) (.bool true) _ _ 1 _ b b' w rfl rfl, S (.bool true) (.bool true) _ _ 2 _ c c' w rfl rfl, S (.bool true) (.bool true) _ _ 3 _ d d' w rfl rfl, S (.bool true) (.bool true) _ _ 4 _ e e' w rfl rfl, S (.bool true) (.bool true) _ _ 5 _ f f' w rfl rfl]
  by_cases h0 : a = a' <;> by_cases h1 : b = b' <;> by_cases h2 : c = c' <;> by_cases h3 : d = d' <;> by_cases h4 : e = e' <;> by_cases h6 : f = f' <;> simp [h0, h1, h2, h3, h4, h6, Op.eqItems]

set_option maxHeartbeats 1000000 in
theorem may_any (v : Int) (w : World) : Calls Try.prog 33 #[.int .u16 v] w fun e w' => e = .returned (.bool (decide (1 ≤ v) && decide (v ≤ 4094))) ∧ w = w' := by
  by_cases h1 : 1 ≤ v
  · have h1' : decide (1 ≤ v) = true := by simpa using h1
    go_enter Try.func33, Try.ntmps33
    go_wp2
    go_ret
    exact ⟨by simp [h1'], rfl⟩
  · have h1' : decide (1 ≤ v) = false := by simpa using h1
    go_enter Try.func33, Try.ntmps33
    go_wp2
    go_ret
    exact ⟨by simp [h1'], rfl⟩

set_option maxHeartbeats 1000000 in
theorem of_any (p : Pl) (x : En) (w : World) : Calls Try.prog 35 #[p.val, x.val] w fun e w' => e = .returned (.bool (decide (p = x.p))) ∧ Keeps Nil w w' := by
  have hE := eq25
  obtain ⟨v, a, b, c, d, e, f⟩ := p
  obtain ⟨⟨v', a', b', c', d', e', f'⟩, port, age⟩ := x
  have HE := hE a b c d e f a' b' c' d' e' f'
  clear hE
  by_cases hv : v = v'
  · subst hv
    by_cases hm : a = a' ∧ b = b' ∧ c = c' ∧ d = d' ∧ e = e' ∧ f = f'
    · rw [decide_eq_true hm] at HE
      have hr : decide ((⟨v, a, b, c, d, e, f⟩ : Pl) = ⟨v, a', b', c', d', e', f'⟩) = true := by simpa using hm
      rw [hr]
      clear hm hr
      go_enter Try.func35, Try.ntmps35
      go_wp2
      go_ret
      exact ⟨rfl, ((Keeps.refl Nil w).alloc _).alloc _⟩
    · rw [decide_eq_false hm] at HE
      have hr : decide ((⟨v, a, b, c, d, e, f⟩ : Pl) = ⟨v, a', b', c', d', e', f'⟩) = false := by simpa using hm
      rw [hr]
      clear hm hr
      go_enter Try.func35, Try.ntmps35
      go_wp2
      go_ret
      exact ⟨rfl, ((Keeps.refl Nil w).alloc _).alloc _⟩
  · have hv' : (v == v') = false := by simp [hv]
    go_enter Try.func35, Try.ntmps35
    go_wp2
    go_ret
    refine ⟨?_, ((Keeps.refl Nil w).alloc _).alloc _⟩
    have hr : decide ((⟨v, a, b, c, d, e, f⟩ : Pl) = ⟨v', a', b', c', d', e', f'⟩) = false := by simp [hv]
    rw [hr]
    rfl

set_option maxHeartbeats 1000000 in
theorem flush1_any (x : En) (q : Int) (bx : Nat) (w : World) (h : w.cell? ⟨bx, 0, Option.none⟩ = some (.int .u8 q)) (hb : bx < w.heap.size) (hp : 0 ≤ x.port) (hp' : x.port < 8) (hq : 0 ≤ q) (hq' : q < 256) :
    Calls Try.prog 37 #[x.val, .pointer (some ⟨bx, 0, Option.none⟩)] w fun e w' => e = .returned (.bool (bits BinOp.and .u8 (q / 2 ^ x.port.toNat) 1 == 1)) ∧ Keeps Nil w w' := by
  go_enter Try.func37, Try.ntmps37
  go_wp2
  go_ret
  exact ⟨rfl, (Keeps.refl Nil w).alloc _⟩

theorem and_one (a : Int) (h : 0 ≤ a) (h' : a < 256) : (bits BinOp.and .u8 a 1 == 1) = decide (a % 2 = 1) := by
  have key : ∀ n : Fin 256, (bits BinOp.and .u8 ((n : Nat) : Int) 1 == 1) = decide (((n : Nat) : Int) % 2 = 1) := by decide +kernel
  have := key ⟨a.toNat, by omega⟩
  rwa [show (((⟨a.toNat, by omega⟩ : Fin 256) : Nat) : Int) = a from by simp; omega] at this

set_option maxHeartbeats 1000000 in
theorem group_any (p : Pl) (w : World) (h : 0 ≤ p.a) (h' : p.a < 256) : Calls Try.prog 56 #[p.mac] w fun e w' => e = .returned (.bool (decide (p.a % 2 = 1))) ∧ Keeps Nil w w' := by
  rw [← and_one _ h h']
  go_enter Try.func56, Try.ntmps56
  go_wp2
  go_ret
  exact ⟨rfl, (Keeps.refl Nil w).alloc _⟩
end Go.Proofs.Ytcplmdgnldmhbaa
