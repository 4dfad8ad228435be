/-
  Layer 8: slices.IndexFunc over entries, by each kind of test. Conditions: the entries lie in their row.
-/
import Derived.Test.YtcplmdgnldmhbaaRows9
import Derived.Deep.DeepCutAuto
namespace Go.Proofs.Ytcplmdgnldmhbaa
open Go.RowKit
set_option linter.unusedVariables false

/-- A slice of entries: nil, or a row. -/
def Sl (w : World) (B : Nat) (p : Option Addr) (n c : Nat) (L : List En) : Prop :=
  L.length = n ∧ ((p = Option.none ∧ n = 0 ∧ c = 0) ∨ ∃ g, p = some ⟨g, 0, Option.none⟩ ∧ B ≤ g ∧ Row w g c L)
theorem Sl.keep {S : Nat → Prop} {w w' : World} {B n c : Nat} {p : Option Addr} {L : List En} (h : Sl w B p n c L) (k : Keeps S w w') (hS : ∀ g, B ≤ g → g < w.heap.size → ¬ S g) : Sl w' B p n c L := by
  obtain ⟨h1, h2 | ⟨g, e, hb, hr⟩⟩ := h
  · exact ⟨h1, .inl h2⟩
  · exact ⟨h1, .inr ⟨g, e, hb, hr.keep k (hS g hb hr.lt)⟩⟩
theorem Sl.keepN {w w' : World} {B n c : Nat} {p : Option Addr} {L : List En} (h : Sl w B p n c L) (k : Keeps Nil w w') : Sl w' B p n c L := h.keep k (fun _ _ _ e => e)
theorem Sl.own {w : World} {B n c : Nat} {p : Option Addr} {L : List En} (h : Sl w B p n c L) : w.ownsRow B 95 9 (.slice p n c) n (flat L) := by
  obtain ⟨rfl, ⟨rfl, hn, rfl⟩ | ⟨g, rfl, hb, hr⟩⟩ := h
  · have : L = [] := List.eq_nil_of_length_eq_zero hn
    subst this
    exact World.ownsRow_nil _ _ _ _
  · exact hr.own hb
theorem Sl.of_own {w : World} {B n c : Nat} {p : Option Addr} {L : List En} (h : w.ownsRow B 95 9 (.slice p n c) n (flat L)) : Sl w B p n c L := Row.of_own h
theorem Sl.le {w : World} {B n c : Nat} {p : Option Addr} {L : List En} (h : Sl w B p n c L) : n ≤ c := by
  obtain ⟨rfl, ⟨rfl, hn, rfl⟩ | ⟨g, rfl, hb, cur, _, _, _, hl, _⟩⟩ := h
  · omega
  · exact hl

set_option maxHeartbeats 4000000 in
theorem index_of (q : Pl) (B : Nat) (p : Option Addr) (n c : Nat) (L : List En) (w : World) (h : Sl w B p n c L)
    (hp : ∀ (x : En) (W : World), (∃ i : Nat, L[i]? = some x) → Keeps Nil w W → Calls Try.prog 35 #[q.val, x.val] W fun e w' => e = .returned (.bool (decide (q = x.p))) ∧ Keeps Nil W w') :
    Calls Try.prog 38 #[.slice p n c, .func (.func 35) #[q.val] #[]] w fun e w' => e = .returned (.int .i64 (idx (fun x => decide (q = x.p)) L)) ∧ Keeps Nil w w' := by
  have HP := hid hp
  have H := hid h
  have hm : n ≤ 9223372036854775807 := by
    obtain ⟨hl, ⟨_, hn, _⟩ | ⟨g, _, _, cur, _, _, hm, hle, _⟩⟩ := h
    · omega
    · unfold maxLen at hm; omega
  clear hp h
  go_enter Try.func38, Try.ntmps38
  go_wp2_with fail
  go_loopw [5, 8] (fun _ i wr => ∃ k : Nat, k ≤ n ∧ i = .int .i64 k ∧ Keeps Nil w wr ∧ Hid (∀ (j : Nat) (y : En), j < k → L[j]? = some y → (decide (q = y.p)) = false)) (fun _ i _ => n - (intOf i).toNat)
  case atStart => exact ⟨0, Nat.zero_le _, rfl, Keeps.refl _ _, hid (fun j y hj => by omega)⟩
  case round =>
    obtain ⟨k, hk, rfl, kk, hall⟩ := hrel
    by_cases hlt : k < n
    · obtain ⟨hl, ⟨_, hn, _⟩ | ⟨g, rfl, hb, hr⟩⟩ := H.out.keepN kk
      · omega
      obtain ⟨x, hx⟩ : ∃ x, L[k]? = some x := ⟨_, List.getElem?_eq_getElem (by omega)⟩
      obtain ⟨⟨c0, c1, c2, c3, c4, c5, c6, c7, c8⟩, _⟩ := hr.read hx
      have HX := hid hx
      have HC := HP.out x
      have HC := hid (fun W => HC W ⟨k, hx⟩)
      clear hr hx hl
      cases hq : (decide (q = x.p)) with
      | true =>
        have HQ := hid hq
        rw [hq] at HC
        clear hq
        go_wp2_with fail
        refine (HC.out _ kk).mono ?_; rintro ee w' ⟨rfl, kz⟩
        go_wp2_with fail
        go_ret
        rw [idx_hit (fun x => decide (q = x.p)) L k x HX.out HQ.out hall.out]
        exact ⟨rfl, kk.trans kz⟩
      | false =>
        have HQ := hid hq
        rw [hq] at HC
        clear hq
        go_wp2_with fail
        refine (HC.out _ kk).mono ?_; rintro ee w' ⟨rfl, kz⟩
        go_wp2_with fail
        go_roundw
        case rel =>
          refine ⟨k + 1, by omega, by go_num, kk.trans kz, hid (fun j y hj hy => ?_)⟩
          by_cases e : j = k
          · subst e
            rw [HX.out] at hy
            cases hy
            exact HQ.out
          · exact hall.out j y (by omega) hy
        case measure => simp only [intOf]; omega
    · obtain rfl : k = n := by omega
      have hmiss := idx_miss (fun x => decide (q = x.p)) L (fun j y hy => hall.out j y (by have := (List.getElem?_eq_some_iff.1 hy).1; have := H.out.1; omega) hy)
      have HMI := hid hmiss
      clear hmiss
      go_wp2_with fail
      go_ret
      rw [HMI.out]
      exact ⟨rfl, kk⟩

set_option maxHeartbeats 4000000 in
theorem index_tick  (B : Nat) (p : Option Addr) (n c : Nat) (L : List En) (w : World) (h : Sl w B p n c L)
    (hp : ∀ (x : En) (W : World), (∃ i : Nat, L[i]? = some x) → Keeps Nil w W → Calls Try.prog 36 #[x.val] W fun e w' => e = .returned (.bool (decide (40 ≤ x.age))) ∧ Keeps Nil W w') :
    Calls Try.prog 38 #[.slice p n c, .func (.func 36) #[] #[]] w fun e w' => e = .returned (.int .i64 (idx (fun x => decide (40 ≤ x.age)) L)) ∧ Keeps Nil w w' := by
  have HP := hid hp
  have H := hid h
  have hm : n ≤ 9223372036854775807 := by
    obtain ⟨hl, ⟨_, hn, _⟩ | ⟨g, _, _, cur, _, _, hm, hle, _⟩⟩ := h
    · omega
    · unfold maxLen at hm; omega
  clear hp h
  go_enter Try.func38, Try.ntmps38
  go_wp2_with fail
  go_loopw [5, 8] (fun _ i wr => ∃ k : Nat, k ≤ n ∧ i = .int .i64 k ∧ Keeps Nil w wr ∧ Hid (∀ (j : Nat) (y : En), j < k → L[j]? = some y → (decide (40 ≤ y.age)) = false)) (fun _ i _ => n - (intOf i).toNat)
  case atStart => exact ⟨0, Nat.zero_le _, rfl, Keeps.refl _ _, hid (fun j y hj => by omega)⟩
  case round =>
    obtain ⟨k, hk, rfl, kk, hall⟩ := hrel
    by_cases hlt : k < n
    · obtain ⟨hl, ⟨_, hn, _⟩ | ⟨g, rfl, hb, hr⟩⟩ := H.out.keepN kk
      · omega
      obtain ⟨x, hx⟩ : ∃ x, L[k]? = some x := ⟨_, List.getElem?_eq_getElem (by omega)⟩
      obtain ⟨⟨c0, c1, c2, c3, c4, c5, c6, c7, c8⟩, _⟩ := hr.read hx
      have HX := hid hx
      have HC := HP.out x
      have HC := hid (fun W => HC W ⟨k, hx⟩)
      clear hr hx hl
      cases hq : (decide (40 ≤ x.age)) with
      | true =>
        have HQ := hid hq
        rw [hq] at HC
        clear hq
        go_wp2_with fail
        refine (HC.out _ kk).mono ?_; rintro ee w' ⟨rfl, kz⟩
        go_wp2_with fail
        go_ret
        rw [idx_hit (fun x => decide (40 ≤ x.age)) L k x HX.out HQ.out hall.out]
        exact ⟨rfl, kk.trans kz⟩
      | false =>
        have HQ := hid hq
        rw [hq] at HC
        clear hq
        go_wp2_with fail
        refine (HC.out _ kk).mono ?_; rintro ee w' ⟨rfl, kz⟩
        go_wp2_with fail
        go_roundw
        case rel =>
          refine ⟨k + 1, by omega, by go_num, kk.trans kz, hid (fun j y hj hy => ?_)⟩
          by_cases e : j = k
          · subst e
            rw [HX.out] at hy
            cases hy
            exact HQ.out
          · exact hall.out j y (by omega) hy
        case measure => simp only [intOf]; omega
    · obtain rfl : k = n := by omega
      have hmiss := idx_miss (fun x => decide (40 ≤ x.age)) L (fun j y hy => hall.out j y (by have := (List.getElem?_eq_some_iff.1 hy).1; have := H.out.1; omega) hy)
      have HMI := hid hmiss
      clear hmiss
      go_wp2_with fail
      go_ret
      rw [HMI.out]
      exact ⟨rfl, kk⟩

set_option maxHeartbeats 4000000 in
theorem index_flush (q : Int) (bx : Nat) (B : Nat) (p : Option Addr) (n c : Nat) (L : List En) (w : World) (h : Sl w B p n c L)
    (hp : ∀ (x : En) (W : World), (∃ i : Nat, L[i]? = some x) → Keeps Nil w W → Calls Try.prog 37 #[x.val, .pointer (some ⟨bx, 0, Option.none⟩)] W fun e w' => e = .returned (.bool ((bits BinOp.and .u8 (q / 2 ^ x.port.toNat) 1 == 1))) ∧ Keeps Nil W w') :
    Calls Try.prog 38 #[.slice p n c, .func (.func 37) #[] #[.pointer (some ⟨bx, 0, Option.none⟩)]] w fun e w' => e = .returned (.int .i64 (idx (fun x => (bits BinOp.and .u8 (q / 2 ^ x.port.toNat) 1 == 1)) L)) ∧ Keeps Nil w w' := by
  have HP := hid hp
  have H := hid h
  have hm : n ≤ 9223372036854775807 := by
    obtain ⟨hl, ⟨_, hn, _⟩ | ⟨g, _, _, cur, _, _, hm, hle, _⟩⟩ := h
    · omega
    · unfold maxLen at hm; omega
  clear hp h
  go_enter Try.func38, Try.ntmps38
  go_wp2_with fail
  go_loopw [5, 8] (fun _ i wr => ∃ k : Nat, k ≤ n ∧ i = .int .i64 k ∧ Keeps Nil w wr ∧ Hid (∀ (j : Nat) (y : En), j < k → L[j]? = some y → ((bits BinOp.and .u8 (q / 2 ^ y.port.toNat) 1 == 1)) = false)) (fun _ i _ => n - (intOf i).toNat)
  case atStart => exact ⟨0, Nat.zero_le _, rfl, Keeps.refl _ _, hid (fun j y hj => by omega)⟩
  case round =>
    obtain ⟨k, hk, rfl, kk, hall⟩ := hrel
    by_cases hlt : k < n
    · obtain ⟨hl, ⟨_, hn, _⟩ | ⟨g, rfl, hb, hr⟩⟩ := H.out.keepN kk
      · omega
      obtain ⟨x, hx⟩ : ∃ x, L[k]? = some x := ⟨_, List.getElem?_eq_getElem (by omega)⟩
      obtain ⟨⟨c0, c1, c2, c3, c4, c5, c6, c7, c8⟩, _⟩ := hr.read hx
      have HX := hid hx
      have HC := HP.out x
      have HC := hid (fun W => HC W ⟨k, hx⟩)
      clear hr hx hl
      cases hq : ((bits BinOp.and .u8 (q / 2 ^ x.port.toNat) 1 == 1)) with
      | true =>
        have HQ := hid hq
        rw [hq] at HC
        clear hq
        go_wp2_with fail
        refine (HC.out _ kk).mono ?_; rintro ee w' ⟨rfl, kz⟩
        go_wp2_with fail
        go_ret
        rw [idx_hit (fun x => (bits BinOp.and .u8 (q / 2 ^ x.port.toNat) 1 == 1)) L k x HX.out HQ.out hall.out]
        exact ⟨rfl, kk.trans kz⟩
      | false =>
        have HQ := hid hq
        rw [hq] at HC
        clear hq
        go_wp2_with fail
        refine (HC.out _ kk).mono ?_; rintro ee w' ⟨rfl, kz⟩
        go_wp2_with fail
        go_roundw
        case rel =>
          refine ⟨k + 1, by omega, by go_num, kk.trans kz, hid (fun j y hj hy => ?_)⟩
          by_cases e : j = k
          · subst e
            rw [HX.out] at hy
            cases hy
            exact HQ.out
          · exact hall.out j y (by omega) hy
        case measure => simp only [intOf]; omega
    · obtain rfl : k = n := by omega
      have hmiss := idx_miss (fun x => (bits BinOp.and .u8 (q / 2 ^ x.port.toNat) 1 == 1)) L (fun j y hy => hall.out j y (by have := (List.getElem?_eq_some_iff.1 hy).1; have := H.out.1; omega) hy)
      have HMI := hid hmiss
      clear hmiss
      go_wp2_with fail
      go_ret
      rw [HMI.out]
      exact ⟨rfl, kk⟩
end Go.Proofs.Ytcplmdgnldmhbaa
