/-
  LinkPlays' acts in their cells; whether they are great (layer 23). No condition.
-/
import Derived.Test.YtljfpihfffhpjaaRState
import Derived.Test.YtljfpihfffhpjaaOpen
namespace Go.Proofs.Ytljfpihfffhpjaa
open Go.RowKit Go.Conc Go.ChangeShapes Go.WideShapes Go.Deep
set_option linter.unusedVariables false

structure LAct where
  d : Int
  e : Int
  s : ByteArray
/-- Acts in their cells: what to do, the end, the frame. -/
def PActs (w : World) (b o n : Nat) (l : List LAct) : Prop :=
  l.length = n ∧ ∀ i a, l[i]? = some a → w.cell? ⟨b, o + i * 3, Option.none⟩ = some (.int .u8 a.d) ∧ w.cell? ⟨b, o + i * 3 + 1, Option.none⟩ = some (.int .i64 a.e) ∧ w.cell? ⟨b, o + i * 3 + 2, Option.none⟩ = some (.string a.s) ∧ 0 ≤ a.d
theorem PActs.keepN {w w' : World} {b o n : Nat} {l : List LAct} (h : PActs w b o n l) (k : Keeps Nil w w') (hb : b < w.heap.size) : PActs w' b o n l :=
  ⟨h.1, fun i a ha => by
    obtain ⟨h0, h1, h2, h3⟩ := h.2 i a ha
    exact ⟨by rw [k.cell (p := ⟨b, o + i * 3, Option.none⟩) hb (fun e => e)]; exact h0, by rw [k.cell (p := ⟨b, o + i * 3 + 1, Option.none⟩) hb (fun e => e)]; exact h1, by rw [k.cell (p := ⟨b, o + i * 3 + 2, Option.none⟩) hb (fun e => e)]; exact h2, h3⟩⟩

def IsPActs (w : World) (a : Option Addr) (n c : Nat) : Prop :=
  n ≤ c ∧ n ≤ maxLen ∧ ∃ l, l.length = n ∧ (0 < n → ∃ b o, a = some ⟨b, o, Option.none⟩ ∧ b < w.heap.size ∧ PActs w b o n l)

theorem pwf_u8 {n : Int} (h : (Lit.int .u8 n).wf = true) : 0 ≤ n := by
  have h' : IntKind.u8.min ≤ n ∧ n ≤ IntKind.u8.max := by simpa [Lit.wf] using h
  exact h'.1

theorem open_pacts {H : Type} {enc : TypeId × Value → H} {W : World} {a : Option Addr} {n c : Nat} {d : DataW H} {p : List MemPlace}
    (h : DataW.Trod enc Try.prog W 0 (fun _ => true) true 22 (.slice a n c) d p) : IsPActs W a n c := by
  obtain ⟨fuel, hf⟩ := h
  rcases open_slice_fields Try.underlying22 Try.underlying28 (by kernel_rfl) (by kernel_rfl) hf with hcs | ⟨x, len, cap, m, hcs, hl, hm, hmm, hi⟩
  · simp [Value.cells] at hcs
    obtain ⟨rfl, rfl, rfl⟩ := hcs
    exact ⟨Nat.le_refl _, Nat.zero_le _, [], rfl, fun h => by omega⟩
  · simp [Value.cells] at hcs
    obtain ⟨rfl, rfl, rfl⟩ := hcs
    simp only [if_true] at hmm
    subst hmm
    have he : ∀ i, i < n → ∃ z : LAct, W.cell? (x.add (i * 3)) = some (.int .u8 z.d) ∧ W.cell? (x.add (i * 3 + 1)) = some (.int .i64 z.e) ∧ W.cell? (x.add (i * 3 + 2)) = some (.string z.s) ∧ 0 ≤ z.d := by
      intro i hin
      obtain ⟨k, hk⟩ := hi i (by omega)
      obtain ⟨v0, y0, c0, t0⟩ := hk 0 _ rfl
      obtain ⟨v1, y1, c1, t1⟩ := hk 1 _ rfl
      obtain ⟨v2, y2, c2, t2⟩ := hk 2 _ rfl
      obtain ⟨z0, e0, _, w0⟩ := DataW.trod_int Try.underlying5 t0
      obtain ⟨z1, e1, _⟩ := DataW.trod_int Try.underlying3 t1
      obtain ⟨z2, e2, _⟩ := DataW.trod_string Try.underlying9 t2
      simp at e0 e1 e2
      subst e0 e1 e2
      exact ⟨⟨z0, z1, z2⟩, c0, c1, c2, pwf_u8 w0⟩
    obtain ⟨l, hll, hl'⟩ := exists_list n he
    refine ⟨hl, Nat.le_trans hl hm, l, hll, fun hn => ?_⟩
    obtain ⟨z, hz⟩ : ∃ z, l[0]? = some z := ⟨_, List.getElem?_eq_getElem (by omega)⟩
    have h0 := (hl' 0 z hz).1
    have hx := spotless h0
    obtain ⟨b, off, spot⟩ := x
    simp at hx
    subst hx
    simp only [add_plain'] at hl' h0
    exact ⟨b, off, rfl, block_lt h0, hll, fun i a ha => by have := hl' i a ha; exact ⟨this.1, by rw [Nat.add_assoc]; exact this.2.1, by rw [Nat.add_assoc]; exact this.2.2.1, this.2.2.2⟩⟩

set_option maxHeartbeats 1000000 in
theorem pgreat_long (a : Option Addr) (n c : Nat) (w : World) (hn : 300 < n) (hm : n ≤ maxLen) : Calls Try.prog 17 #[.slice a n c] w fun e w' => e = .returned (.bool true) ∧ w = w' := by
  unfold maxLen at hm
  go_enter Try.func17, Try.ntmps17
  go_wp2
  go_ret
  exact ⟨rfl, rfl⟩

set_option maxHeartbeats 1000000 in
theorem pgreat_any (a : Option Addr) (n c : Nat) (l : List LAct) (w : World) (hn : n ≤ 300) (hl : l.length = n) (hp : 0 < n → ∃ b o, a = some ⟨b, o, Option.none⟩ ∧ b < w.heap.size ∧ PActs w b o n l) :
    Calls Try.prog 17 #[.slice a n c] w fun e w' => (e = .returned (.bool true) ∨ e = .returned (.bool false)) ∧ w = w' := by
  have HP := hid hp
  have HLL := hid hl
  clear hp hl
  go_enter Try.func17, Try.ntmps17
  go_wp2
  go_loop [3] (fun i => ∃ k : Nat, k ≤ n ∧ i = .int .i64 k) (fun i => n - (intOf i).toNat)
  case atStart => exact ⟨0, Nat.zero_le _, rfl⟩
  case round =>
    obtain ⟨k, hk, rfl⟩ := hrel
    by_cases hlt : k < n
    · obtain ⟨b, o, rfl, hb, hA⟩ := HP.out (by omega)
      obtain ⟨z, hz⟩ : ∃ z, l[k]? = some z := ⟨_, List.getElem?_eq_getElem (by have := HLL.out; omega)⟩
      obtain ⟨_, _, h2, _⟩ := hA.2 k z hz
      clear hA hz
      by_cases hs : 2000 < z.s.size
      · go_wp2
        go_ret
        exact ⟨.inl rfl, rfl⟩
      · go_wp2
        go_round
        case rel => exact ⟨k + 1, by omega, by go_num⟩
        case measure => simp [intOf]; omega
    · go_wp2
      go_ret
      exact ⟨.inr rfl, rfl⟩
end Go.Proofs.Ytljfpihfffhpjaa
