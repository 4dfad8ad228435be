/-
  Layer 16: rows of end points, looked through, and drawn together (slices.IndexFunc, ContainsFunc, DeleteFunc). Conditions: they lie so; the test is a function of the end point.
-/
import Derived.Test.YtbgijlfdgfhceaaRows16
import Derived.Deep.DeepCutAuto
import Derived.Lib.SliceRun
namespace Go.Proofs.Ytbgijlfdgfhceaa
open Go.RowKit
set_option linter.unusedVariables false

/-- The place of the first that fits; -1: none does. -/
def idx {α : Type} (P : α → Bool) : List α → Int
  | [] => -1
  | x :: r => if P x then 0 else if idx P r < 0 then -1 else idx P r + 1
theorem idx_ge {α : Type} (P : α → Bool) (L : List α) : -1 ≤ idx P L := by
  induction L with
  | nil => simp [idx]
  | cons x r ih =>
    simp only [idx]
    split
    · omega
    · split <;> omega
theorem idx_hit {α : Type} (P : α → Bool) : ∀ (L : List α) (k : Nat) (x : α), L[k]? = some x → P x = true → (∀ (j : Nat) (y : α), j < k → L[j]? = some y → P y = false) → idx P L = k
  | [], k, x, h, _, _ => by simp at h
  | y :: r, 0, x, h, hp, _ => by simp at h; subst h; simp [idx, hp]
  | y :: r, k + 1, x, h, hp, ha => by
    have h0 : P y = false := ha 0 y (by omega) rfl
    have := idx_hit P r k x (by simpa using h) hp (fun j z hj hz => ha (j + 1) z (by omega) (by simpa using hz))
    simp only [idx, h0, this]
    rw [if_neg (by simp), if_neg (by omega)]
    push_cast
    rfl
theorem idx_miss {α : Type} (P : α → Bool) : ∀ (L : List α), (∀ (j : Nat) (y : α), L[j]? = some y → P y = false) → idx P L = -1
  | [], _ => rfl
  | y :: r, ha => by
    have h0 : P y = false := ha 0 y rfl
    have := idx_miss P r (fun j z hz => ha (j + 1) z (by simpa using hz))
    simp [idx, h0, this]
theorem idx_any {α : Type} (P : α → Bool) (L : List α) : (idx P L = -1 ∧ L.any P = false) ∨ ∃ k : Nat, idx P L = k ∧ L.any P = true := by
  induction L with
  | nil => exact .inl ⟨rfl, rfl⟩
  | cons x r ih =>
    cases hp : P x with
    | true => exact .inr ⟨0, by simp [idx, hp], by simp [hp]⟩
    | false =>
      rcases ih with ⟨h1, h2⟩ | ⟨k, h1, h2⟩
      · exact .inl ⟨by simp [idx, hp, h1], by simp [hp, h2]⟩
      · refine .inr ⟨k + 1, ?_, by simp [hp, h2]⟩
        simp only [idx, hp, h1]
        rw [if_neg (by simp), if_neg (by omega)]
        push_cast
        rfl

/-- The i-th one's cells. -/
def EAt (cur : Array Value) (i : Nat) (x : Me) : Prop := ∀ q v, (cellsE x)[q]? = some v → cur[i * 4 + q]? = some v
/-- Block g is a row of them. -/
def Row (w : World) (g c : Nat) (L : List Me) : Prop :=
  ∃ cur, w.heap[g]? = some (.cells cur 59 (0, 0)) ∧ cur.size = c * 4 ∧ c ≤ maxLen ∧ L.length ≤ c ∧ ∀ i x, L[i]? = some x → EAt cur i x
theorem Row.lt {w : World} {g c : Nat} {L : List Me} (h : Row w g c L) : g < w.heap.size := by
  obtain ⟨cur, h, _⟩ := h; exact lt_of_block h
theorem Row.keep {S : Nat → Prop} {w w' : World} {g c : Nat} {L : List Me} (h : Row w g c L) (k : Keeps S w w') (hS : ¬ S g) : Row w' g c L := by
  have hl := h.lt
  obtain ⟨cur, h, r⟩ := h; exact ⟨cur, (k.block g hl hS).trans h, r⟩
theorem Row.read {w : World} {g c : Nat} {L : List Me} (h : Row w g c L) {i : Nat} {x : Me} (hx : L[i]? = some x) :
    (w.cell? ⟨g, i * 4, Option.none⟩ = some (.int .i64 x.ai) ∧ w.cell? ⟨g, i * 4 + 1, Option.none⟩ = some (.int .u16 x.id) ∧ w.cell? ⟨g, i * 4 + 2, Option.none⟩ = some (.int .u8 x.port) ∧ w.cell? ⟨g, i * 4 + 3, Option.none⟩ = some (.bool x.up)) ∧ ∀ q, w.frozen? ⟨g, q, Option.none⟩ = false := by
  obtain ⟨cur, hb, _, _, _, hat⟩ := h
  have H := hat i x hx
  have C : ∀ q v, (cellsE x)[q]? = some v → w.cell? ⟨g, i * 4 + q, Option.none⟩ = some v := fun q v hv => by
    have := H q v hv
    simp [World.cell?, hb, this]
  refine ⟨⟨?_, C 1 _ rfl, C 2 _ rfl, C 3 _ rfl⟩, fun q => by simp [World.frozen?, hb]⟩
  have := C 0 _ rfl
  simpa using this
theorem Row.own {w : World} {B g c : Nat} {L : List Me} (h : Row w g c L) (hB : B ≤ g) : w.ownsRow B 59 4 (.slice (some ⟨g, 0, Option.none⟩) L.length c) L.length (flatE L) := by
  obtain ⟨cur, hb, hs, hm, hl, hat⟩ := h
  refine ⟨flatE_len L, .inr ⟨g, c, cur, rfl, hB, hb, hl, hm, hs, ?_⟩⟩
  apply List.ext_getElem?
  intro k
  rw [List.getElem?_take]
  by_cases hk : k < L.length * 4
  · rw [if_pos hk]
    have e : k = (k / 4) * 4 + k % 4 := by omega
    obtain ⟨x, hx⟩ : ∃ x, L[k / 4]? = some x := ⟨_, List.getElem?_eq_getElem (by omega)⟩
    have hq : k % 4 < 4 := Nat.mod_lt _ (by omega)
    obtain ⟨v, hv⟩ : ∃ v, (cellsE x)[k % 4]? = some v := ⟨_, List.getElem?_eq_getElem (by simpa using hq)⟩
    have h1 := hat _ x hx _ v hv
    have h2 := flatE_get L (k / 4) (k % 4) hq
    rw [hx] at h2
    simp only [Option.bind_some, hv] at h2
    rw [← e] at h1 h2
    rw [h2]
    simpa using h1
  · rw [if_neg hk, List.getElem?_eq_none (by rw [flatE_len]; omega)]
theorem Row.of_own {w : World} {B n c : Nat} {p : Option Addr} {L : List Me} (h : w.ownsRow B 59 4 (.slice p n c) n (flatE L)) : L.length = n ∧ ((p = Option.none ∧ n = 0 ∧ c = 0) ∨ ∃ g, p = some ⟨g, 0, Option.none⟩ ∧ B ≤ g ∧ Row w g c L) := by
  obtain ⟨hl, h⟩ := h
  rw [flatE_len] at hl
  have hn : L.length = n := by omega
  refine ⟨hn, ?_⟩
  rcases h with ⟨hv, hz⟩ | ⟨g, cap, cur, hv, hB, hb, hle, hm, hs, ht⟩
  · injection hv with h1 h2 h3
    exact .inl ⟨h1, hz, h3⟩
  · injection hv with h1 h2 h3
    subst h3
    refine .inr ⟨g, h1, hB, cur, hb, hs, hm, by omega, fun i x hx q v hv => ?_⟩
    have hi : i < L.length := (List.getElem?_eq_some_iff.1 hx).1
    have hq : q < 4 := by have := (List.getElem?_eq_some_iff.1 hv).1; simpa using this
    have h2 := flatE_get L i q hq
    rw [hx] at h2
    simp only [Option.bind_some, hv] at h2
    rw [← ht, List.getElem?_take, if_pos (by omega)] at h2
    simpa using h2
/-- A slice of them: nil, or a row. -/
def Sl (w : World) (B : Nat) (p : Option Addr) (n c : Nat) (L : List Me) : Prop :=
  L.length = n ∧ ((p = Option.none ∧ n = 0 ∧ c = 0) ∨ ∃ g, p = some ⟨g, 0, Option.none⟩ ∧ B ≤ g ∧ Row w g c L)
theorem Sl.keep {S : Nat → Prop} {w w' : World} {B n c : Nat} {p : Option Addr} {L : List Me} (h : Sl w B p n c L) (k : Keeps S w w') (hS : ∀ g, B ≤ g → g < w.heap.size → ¬ S g) : Sl w' B p n c L := by
  obtain ⟨h1, h2 | ⟨g, e, hb, hr⟩⟩ := h
  · exact ⟨h1, .inl h2⟩
  · exact ⟨h1, .inr ⟨g, e, hb, hr.keep k (hS g hb hr.lt)⟩⟩
theorem Sl.keepN {w w' : World} {B n c : Nat} {p : Option Addr} {L : List Me} (h : Sl w B p n c L) (k : Keeps Nil w w') : Sl w' B p n c L := h.keep k (fun _ _ _ e => e)
theorem Sl.own {w : World} {B n c : Nat} {p : Option Addr} {L : List Me} (h : Sl w B p n c L) : w.ownsRow B 59 4 (.slice p n c) n (flatE L) := by
  obtain ⟨rfl, ⟨rfl, hn, rfl⟩ | ⟨g, rfl, hb, hr⟩⟩ := h
  · have : L = [] := List.eq_nil_of_length_eq_zero hn
    subst this
    exact World.ownsRow_nil _ _ _ _
  · exact hr.own hb
theorem Sl.of_own {w : World} {B n c : Nat} {p : Option Addr} {L : List Me} (h : w.ownsRow B 59 4 (.slice p n c) n (flatE L)) : Sl w B p n c L := Row.of_own h
theorem Sl.le {w : World} {B n c : Nat} {p : Option Addr} {L : List Me} (h : Sl w B p n c L) : n ≤ c := by
  obtain ⟨rfl, ⟨rfl, hn, rfl⟩ | ⟨g, rfl, hb, cur, _, _, _, hl, _⟩⟩ := h
  · omega
  · exact hl
/-- The row that a slice leads to. -/
def InP (p : Option Addr) : Nat → Prop := fun k => p = some ⟨k, 0, Option.none⟩

set_option maxHeartbeats 4000000 in
theorem index_add (P : Me → Bool) (b0 b1 b2 : Nat) (B : Nat) (p : Option Addr) (n c : Nat) (L : List Me) (w : World) (h : Sl w B p n c L) (hm : n ≤ 9223372036854775807)
    (hp : ∀ (x : Me) (W : World), (∃ i : Nat, L[i]? = some x) → Keeps Nil w W → Calls Try.prog 39 #[.agg #[.int .i64 x.ai, .int .u16 x.id, .int .u8 x.port, .bool x.up], .pointer (some ⟨b0, 0, Option.none⟩), .pointer (some ⟨b1, 0, Option.none⟩), .pointer (some ⟨b2, 0, Option.none⟩)] W fun e w' => e = .returned (.bool (P x)) ∧ Keeps Nil W w') :
    Calls Try.prog 49 #[.slice p n c, .func (.func 39) #[] #[.pointer (some ⟨b0, 0, Option.none⟩), .pointer (some ⟨b1, 0, Option.none⟩), .pointer (some ⟨b2, 0, Option.none⟩)]] w fun e w' => e = .returned (.int .i64 (idx (fun x => P x) L)) ∧ Keeps Nil w w' := by
  have HP := hid hp
  have H := hid h
  have HLEN := hid (show L.length = n from h.1)
  have HNC := hid (show n ≤ c from h.le)
  clear hp h
  go_enter Try.func49, Try.ntmps49
  go_wp2_with fail
  go_loopw [5, 8] (fun _ i wr => ∃ k : Nat, k ≤ n ∧ i = .int .i64 k ∧ Keeps Nil w wr ∧ Hid (∀ (j : Nat) (y : Me), j < k → L[j]? = some y → (P y) = false)) (fun _ i _ => n - (intOf i).toNat)
  case atStart => exact ⟨0, Nat.zero_le _, rfl, Keeps.refl _ _, hid (fun j y hj => by omega)⟩
  case round =>
    obtain ⟨k, hk, rfl, kk, hall⟩ := hrel
    by_cases hlt : k < n
    · have hnc := HNC.out
      obtain ⟨x, hx⟩ : ∃ x, L[k]? = some x := ⟨_, List.getElem?_eq_getElem (by have := HLEN.out; omega)⟩
      obtain ⟨hl, ⟨_, hn, _⟩ | ⟨g, rfl, hb, hr⟩⟩ := H.out.keepN kk
      · omega
      obtain ⟨⟨c0, c1, c2, c3⟩, _⟩ := hr.read hx
      clear hr hl
      have HX := hid hx
      have HC := HP.out x
      have HC := hid (fun W => HC W ⟨k, hx⟩)
      clear hx
      cases hq : (P x) with
      | true =>
        have HQ := hid hq
        rw [hq] at HC
        clear hq
        go_wp2_with fail
        refine (HC.out _ kk).mono ?_; rintro ee w' ⟨rfl, kz⟩
        go_wp2_with fail
        go_ret
        rw [idx_hit (fun x => P x) L k x HX.out HQ.out hall.out]
        exact ⟨rfl, kk.trans kz⟩
      | false =>
        have HQ := hid hq
        rw [hq] at HC
        clear hq
        go_wp2_with fail
        refine (HC.out _ kk).mono ?_; rintro ee w' ⟨rfl, kz⟩
        go_wp2_with fail
        go_roundw
        case rel =>
          refine ⟨k + 1, by omega, by go_num, kk.trans kz, hid (fun j y hj hy => ?_)⟩
          by_cases e : j = k
          · subst e
            rw [HX.out] at hy
            cases hy
            exact HQ.out
          · exact hall.out j y (by omega) hy
        case measure => simp only [intOf]; omega
    · obtain rfl : k = n := by omega
      have hmiss := idx_miss (fun x => P x) L (fun j y hy => hall.out j y (by have := (List.getElem?_eq_some_iff.1 hy).1; have := HLEN.out; omega) hy)
      have HMI := hid hmiss
      clear hmiss
      go_wp2_with fail
      go_ret
      rw [HMI.out]
      exact ⟨rfl, kk⟩

set_option maxHeartbeats 4000000 in
theorem contains_add (P : Me → Bool) (b0 b1 b2 : Nat) (B : Nat) (p : Option Addr) (n c : Nat) (L : List Me) (w : World) (h : Sl w B p n c L) (hm : n ≤ 9223372036854775807)
    (hp : ∀ (x : Me) (W : World), (∃ i : Nat, L[i]? = some x) → Keeps Nil w W → Calls Try.prog 39 #[.agg #[.int .i64 x.ai, .int .u16 x.id, .int .u8 x.port, .bool x.up], .pointer (some ⟨b0, 0, Option.none⟩), .pointer (some ⟨b1, 0, Option.none⟩), .pointer (some ⟨b2, 0, Option.none⟩)] W fun e w' => e = .returned (.bool (P x)) ∧ Keeps Nil W w') :
    Calls Try.prog 40 #[.slice p n c, .func (.func 39) #[] #[.pointer (some ⟨b0, 0, Option.none⟩), .pointer (some ⟨b1, 0, Option.none⟩), .pointer (some ⟨b2, 0, Option.none⟩)]] w fun e w' => e = .returned (.bool (L.any (fun x => P x))) ∧ Keeps Nil w w' := by
  have IX := index_add P b0 b1 b2 B p n c L w h hm hp
  clear hp h
  rcases idx_any (fun x => P x) L with ⟨hi, ha⟩ | ⟨k, hi, ha⟩
  · rw [hi] at IX
    rw [ha]
    clear hi ha
    go_enter Try.func40, Try.ntmps40
    go_wp2_with fail
    refine IX.mono ?_; rintro e w1 ⟨rfl, k1⟩
    go_wp2_with fail
    go_ret
    exact ⟨rfl, k1⟩
  · rw [hi] at IX
    rw [ha]
    clear hi ha
    go_enter Try.func40, Try.ntmps40
    go_wp2_with fail
    refine IX.mono ?_; rintro e w1 ⟨rfl, k1⟩
    go_wp2_with fail
    go_ret
    exact ⟨rfl, k1⟩

set_option maxHeartbeats 4000000 in
theorem index_drop (P : Me → Bool) (b0 b1 : Nat) (B : Nat) (p : Option Addr) (n c : Nat) (L : List Me) (w : World) (h : Sl w B p n c L) (hm : n ≤ 9223372036854775807)
    (hp : ∀ (x : Me) (W : World), (∃ i : Nat, L[i]? = some x) → Keeps Nil w W → Calls Try.prog 43 #[.agg #[.int .i64 x.ai, .int .u16 x.id, .int .u8 x.port, .bool x.up], .pointer (some ⟨b0, 0, Option.none⟩), .pointer (some ⟨b1, 0, Option.none⟩)] W fun e w' => e = .returned (.bool (P x)) ∧ Keeps Nil W w') :
    Calls Try.prog 49 #[.slice p n c, .func (.func 43) #[] #[.pointer (some ⟨b0, 0, Option.none⟩), .pointer (some ⟨b1, 0, Option.none⟩)]] w fun e w' => e = .returned (.int .i64 (idx (fun x => P x) L)) ∧ Keeps Nil w w' := by
  have HP := hid hp
  have H := hid h
  have HLEN := hid (show L.length = n from h.1)
  have HNC := hid (show n ≤ c from h.le)
  clear hp h
  go_enter Try.func49, Try.ntmps49
  go_wp2_with fail
  go_loopw [5, 8] (fun _ i wr => ∃ k : Nat, k ≤ n ∧ i = .int .i64 k ∧ Keeps Nil w wr ∧ Hid (∀ (j : Nat) (y : Me), j < k → L[j]? = some y → (P y) = false)) (fun _ i _ => n - (intOf i).toNat)
  case atStart => exact ⟨0, Nat.zero_le _, rfl, Keeps.refl _ _, hid (fun j y hj => by omega)⟩
  case round =>
    obtain ⟨k, hk, rfl, kk, hall⟩ := hrel
    by_cases hlt : k < n
    · have hnc := HNC.out
      obtain ⟨x, hx⟩ : ∃ x, L[k]? = some x := ⟨_, List.getElem?_eq_getElem (by have := HLEN.out; omega)⟩
      obtain ⟨hl, ⟨_, hn, _⟩ | ⟨g, rfl, hb, hr⟩⟩ := H.out.keepN kk
      · omega
      obtain ⟨⟨c0, c1, c2, c3⟩, _⟩ := hr.read hx
      clear hr hl
      have HX := hid hx
      have HC := HP.out x
      have HC := hid (fun W => HC W ⟨k, hx⟩)
      clear hx
      cases hq : (P x) with
      | true =>
        have HQ := hid hq
        rw [hq] at HC
        clear hq
        go_wp2_with fail
        refine (HC.out _ kk).mono ?_; rintro ee w' ⟨rfl, kz⟩
        go_wp2_with fail
        go_ret
        rw [idx_hit (fun x => P x) L k x HX.out HQ.out hall.out]
        exact ⟨rfl, kk.trans kz⟩
      | false =>
        have HQ := hid hq
        rw [hq] at HC
        clear hq
        go_wp2_with fail
        refine (HC.out _ kk).mono ?_; rintro ee w' ⟨rfl, kz⟩
        go_wp2_with fail
        go_roundw
        case rel =>
          refine ⟨k + 1, by omega, by go_num, kk.trans kz, hid (fun j y hj hy => ?_)⟩
          by_cases e : j = k
          · subst e
            rw [HX.out] at hy
            cases hy
            exact HQ.out
          · exact hall.out j y (by omega) hy
        case measure => simp only [intOf]; omega
    · obtain rfl : k = n := by omega
      have hmiss := idx_miss (fun x => P x) L (fun j y hy => hall.out j y (by have := (List.getElem?_eq_some_iff.1 hy).1; have := HLEN.out; omega) hy)
      have HMI := hid hmiss
      clear hmiss
      go_wp2_with fail
      go_ret
      rw [HMI.out]
      exact ⟨rfl, kk⟩

set_option maxHeartbeats 4000000 in
theorem contains_drop (P : Me → Bool) (b0 b1 : Nat) (B : Nat) (p : Option Addr) (n c : Nat) (L : List Me) (w : World) (h : Sl w B p n c L) (hm : n ≤ 9223372036854775807)
    (hp : ∀ (x : Me) (W : World), (∃ i : Nat, L[i]? = some x) → Keeps Nil w W → Calls Try.prog 43 #[.agg #[.int .i64 x.ai, .int .u16 x.id, .int .u8 x.port, .bool x.up], .pointer (some ⟨b0, 0, Option.none⟩), .pointer (some ⟨b1, 0, Option.none⟩)] W fun e w' => e = .returned (.bool (P x)) ∧ Keeps Nil W w') :
    Calls Try.prog 40 #[.slice p n c, .func (.func 43) #[] #[.pointer (some ⟨b0, 0, Option.none⟩), .pointer (some ⟨b1, 0, Option.none⟩)]] w fun e w' => e = .returned (.bool (L.any (fun x => P x))) ∧ Keeps Nil w w' := by
  have IX := index_drop P b0 b1 B p n c L w h hm hp
  clear hp h
  rcases idx_any (fun x => P x) L with ⟨hi, ha⟩ | ⟨k, hi, ha⟩
  · rw [hi] at IX
    rw [ha]
    clear hi ha
    go_enter Try.func40, Try.ntmps40
    go_wp2_with fail
    refine IX.mono ?_; rintro e w1 ⟨rfl, k1⟩
    go_wp2_with fail
    go_ret
    exact ⟨rfl, k1⟩
  · rw [hi] at IX
    rw [ha]
    clear hi ha
    go_enter Try.func40, Try.ntmps40
    go_wp2_with fail
    refine IX.mono ?_; rintro e w1 ⟨rfl, k1⟩
    go_wp2_with fail
    go_ret
    exact ⟨rfl, k1⟩

theorem run_clear_wide {P : Program} (w : World) (t e ty : TypeId) (z : Value) (ht : P.underlying t = some (.slice e)) (hv : ∀ w, (zeroValue e).run P w = .ok z w) (b o n c : Nat) (hn : 0 < n)
    (hc : ∀ j, j < n * z.cells.size → (w.cell? ⟨b, o + j, Option.none⟩).isSome = true) (hf : ∀ j, j < n * z.cells.size → w.frozen? ⟨b, o + j, Option.none⟩ = false) (h1 : ∀ v ∈ (Builtin.zeroCells z.cells n).toList, v.oneCell' = true) :
    (Builtin.clear_ #[t] ty #[.slice (some ⟨b, o, Option.none⟩) n c]).run P w = .ok (.tuple #[]) (w.setCells b o (Builtin.zeroCells z.cells n).toList) := by
  have hs : (Builtin.zeroCells z.cells n).toList.length = n * z.cells.size := by simp [Builtin.zeroCells]
  have hst := run_storeCells_cells (P := P) b o (Builtin.zeroCells z.cells n).toList 0 w (by rw [hs]; simpa using hc) (by rw [hs]; simpa using hf) h1
  simp only [Nat.add_zero] at hst
  obtain ⟨m, rfl⟩ : ∃ m, n = m + 1 := ⟨n - 1, by omega⟩
  simp [Builtin.clear_, run_underlying ht, hv, hst]
theorem block_setCells {b : Nat} {T : TypeId} : ∀ (vs : List Value) (o : Nat) (w : World) (cur : Array Value), w.heap[b]? = some (.cells cur T (0, 0)) →
    (∃ cur', (w.setCells b o vs).heap[b]? = some (.cells cur' T (0, 0)) ∧ cur'.size = cur.size ∧ ∀ i, i < o → cur'[i]? = cur[i]?) ∧ Keeps (At b) w (w.setCells b o vs)
  | [], o, w, cur, h => ⟨⟨cur, h, rfl, fun _ _ => rfl⟩, Keeps.refl _ _⟩
  | v :: r, o, w, cur, h => by
    have h1 := setCell_block h o v
    obtain ⟨⟨cur', h2, h3, h4⟩, k⟩ := block_setCells r (o + 1) _ _ h1
    refine ⟨⟨cur', h2, by rw [h3]; simp, fun i hi => ?_⟩, ((Keeps.refl (At b) w).set b o (at_self b) v).trans k⟩
    rw [h4 i (by omega), Array.getElem?_setIfInBounds]
    rw [if_neg (by omega)]

/-- One written into its place. -/
theorem setN {W : World} {b i : Nat} {cur : Array Value} (x : Me) (h : W.heap[b]? = some (.cells cur 59 (0, 0))) (hi : i * 4 + 4 ≤ cur.size) :
    ∃ W9, (((W.setCell ⟨b, i * 4, Option.none⟩ (.int .i64 x.ai)).setCell ⟨b, i * 4 + 1, Option.none⟩ (.int .u16 x.id)).setCell ⟨b, i * 4 + 2, Option.none⟩ (.int .u8 x.port)).setCell ⟨b, i * 4 + 3, Option.none⟩ (.bool x.up) = W9 ∧ (∃ cur', W9.heap[b]? = some (.cells cur' 59 (0, 0)) ∧ cur'.size = cur.size ∧ EAt cur' i x ∧ ∀ t y, t ≠ i → EAt cur t y → EAt cur' t y) ∧ Keeps (At b) W W9 := by
  have h0 := setCell_block h (i * 4) (.int .i64 x.ai)
  have h1 := setCell_block h0 (i * 4 + 1) (.int .u16 x.id)
  have h2 := setCell_block h1 (i * 4 + 2) (.int .u8 x.port)
  have h3 := setCell_block h2 (i * 4 + 3) (.bool x.up)
  refine ⟨_, rfl, ⟨_, h3, by simp, ?_, ?_⟩, (((((Keeps.refl (At b) W).set b (i * 4) (at_self b) (.int .i64 x.ai)).set b (i * 4 + 1) (at_self b) (.int .u16 x.id)).set b (i * 4 + 2) (at_self b) (.int .u8 x.port)).set b (i * 4 + 3) (at_self b) (.bool x.up))⟩
  · intro q v hv
    have hq : q < 4 := by have := (List.getElem?_eq_some_iff.1 hv).1; simpa using this
    have hc : q = 0 ∨ q = 1 ∨ q = 2 ∨ q = 3 := by omega
    rcases hc with rfl | rfl | rfl | rfl <;> (simp at hv; subst hv; simp [Array.getElem?_setIfInBounds]; omega)
  · intro t y ht hy q v hv
    have hq : q < 4 := by have := (List.getElem?_eq_some_iff.1 hv).1; simpa using this
    have := hy q v hv
    simp only [Array.getElem?_setIfInBounds]
    repeat rw [if_neg (by omega)]
    exact this
/-- While the kept ones are drawn together: j are looked at. -/
def Mid (w : World) (g c j : Nat) (P : Me → Bool) (L : List Me) : Prop :=
  ∃ cur, w.heap[g]? = some (.cells cur 59 (0, 0)) ∧ cur.size = c * 4 ∧ c ≤ maxLen ∧ L.length ≤ c ∧ (∀ (i : Nat) (x : Me), ((L.take j).filter (fun y => !P y))[i]? = some x → EAt cur i x) ∧ ∀ (i : Nat) (x : Me), j ≤ i → L[i]? = some x → EAt cur i x
theorem Mid.lt {w : World} {g c j : Nat} {P : Me → Bool} {L : List Me} (h : Mid w g c j P L) : g < w.heap.size := by obtain ⟨cur, h, _⟩ := h; exact lt_of_block h
theorem Mid.keep {S : Nat → Prop} {w w' : World} {g c j : Nat} {P : Me → Bool} {L : List Me} (h : Mid w g c j P L) (k : Keeps S w w') (hS : ¬ S g) : Mid w' g c j P L := by
  have hl := h.lt
  obtain ⟨cur, h, r⟩ := h; exact ⟨cur, (k.block g hl hS).trans h, r⟩
theorem Mid.read {w : World} {g c j : Nat} {P : Me → Bool} {L : List Me} (h : Mid w g c j P L) {x : Me} (hx : L[j]? = some x) :
    (w.cell? ⟨g, j * 4, Option.none⟩ = some (.int .i64 x.ai) ∧ w.cell? ⟨g, j * 4 + 1, Option.none⟩ = some (.int .u16 x.id) ∧ w.cell? ⟨g, j * 4 + 2, Option.none⟩ = some (.int .u8 x.port) ∧ w.cell? ⟨g, j * 4 + 3, Option.none⟩ = some (.bool x.up)) := by
  obtain ⟨cur, hb, _, _, _, _, hat⟩ := h
  have H := hat j x (Nat.le_refl _) hx
  have C : ∀ q v, (cellsE x)[q]? = some v → w.cell? ⟨g, j * 4 + q, Option.none⟩ = some v := fun q v hv => by
    have := H q v hv
    simp [World.cell?, hb, this]
  refine ⟨?_, C 1 _ rfl, C 2 _ rfl, C 3 _ rfl⟩
  have := C 0 _ rfl
  simpa using this
theorem take_more {L : List Me} {j : Nat} {x : Me} (hx : L[j]? = some x) (P : Me → Bool) : (L.take (j + 1)).filter (fun y => !P y) = (L.take j).filter (fun y => !P y) ++ if P x then [] else [x] := by
  have hl := (List.getElem?_eq_some_iff.1 hx).1
  rw [List.take_succ_eq_append_getElem hl, List.filter_append]
  have : L[j] = x := by rw [List.getElem?_eq_getElem hl] at hx; exact Option.some.inj hx
  rw [this]
  cases hp : P x <;> simp [hp]
theorem Mid.drop {w : World} {g c j : Nat} {P : Me → Bool} {L : List Me} (h : Mid w g c j P L) {x : Me} (hx : L[j]? = some x) (hp : P x = true) : Mid w g c (j + 1) P L := by
  obtain ⟨cur, hb, h1, h2, h3, h4, h5⟩ := h
  refine ⟨cur, hb, h1, h2, h3, fun i y hy => ?_, fun i y hi hy => h5 i y (by omega) hy⟩
  rw [take_more hx P, hp] at hy
  exact h4 i y (by simpa using hy)
theorem kept_le (L : List Me) (j : Nat) (P : Me → Bool) : ((L.take j).filter (fun y => !P y)).length ≤ j := Nat.le_trans (List.length_filter_le _ _) (List.length_take_le _ _)
theorem Mid.put {W : World} {g c j i : Nat} {P : Me → Bool} {L : List Me} (h : Mid W g c j P L) {x : Me} (hx : L[j]? = some x) (hp : P x = false) (hi : ((L.take j).filter (fun y => !P y)).length = i) :
    ∃ W9, (((W.setCell ⟨g, i * 4, Option.none⟩ (.int .i64 x.ai)).setCell ⟨g, i * 4 + 1, Option.none⟩ (.int .u16 x.id)).setCell ⟨g, i * 4 + 2, Option.none⟩ (.int .u8 x.port)).setCell ⟨g, i * 4 + 3, Option.none⟩ (.bool x.up) = W9 ∧ Mid W9 g c (j + 1) P L ∧ Keeps (At g) W W9 := by
  obtain ⟨cur, hb, h1, h2, h3, h4, h5⟩ := h
  have hl := (List.getElem?_eq_some_iff.1 hx).1
  have hij := kept_le L j P
  obtain ⟨W9, hW, ⟨cur', e1, e2, e3, e4⟩, k⟩ := setN (i := i) x hb (by omega)
  refine ⟨W9, hW, ⟨cur', e1, by rw [e2, h1], h2, h3, fun t y hy => ?_, fun t y ht hy => e4 t y (by omega) (h5 t y (by omega) hy)⟩, k⟩
  rw [take_more hx P, hp] at hy
  by_cases ht : t < i
  · rw [List.getElem?_append_left (by omega)] at hy
    exact e4 t y (by omega) (h4 t y hy)
  · rw [List.getElem?_append_right (by omega), hi] at hy
    have : t = i := by
      by_cases h0 : t - i = 0
      · omega
      · simp [h0] at hy
    subst this
    simp at hy
    subst hy
    exact e3
theorem idx_spec (P : Me → Bool) (L : List Me) : (idx P L = -1 ∧ L.filter (fun y => !P y) = L) ∨ ∃ k : Nat, idx P L = k ∧ k < L.length ∧ (L.take (k + 1)).filter (fun y => !P y) = L.take k := by
  induction L with
  | nil => exact .inl ⟨rfl, rfl⟩
  | cons x r ih =>
    cases hp : P x with
    | true => exact .inr ⟨0, by simp [idx, hp], by simp, by simp [hp]⟩
    | false =>
      rcases ih with ⟨h1, h2⟩ | ⟨k, h1, h2, h3⟩
      · exact .inl ⟨by simp [idx, hp, h1], by simp [hp, h2]⟩
      · refine .inr ⟨k + 1, ?_, by simp; omega, ?_⟩
        · simp only [idx, hp, h1]
          rw [if_neg (by simp), if_neg (by omega)]
          push_cast
          rfl
        · rw [List.take_succ_cons, List.filter_cons]
          simp only [hp, h3]
          simp
theorem Mid.start {w : World} {g c k : Nat} {P : Me → Bool} {L : List Me} (h : Row w g c L) (hk : (L.take (k + 1)).filter (fun y => !P y) = L.take k) : Mid w g c (k + 1) P L := by
  obtain ⟨cur, hb, h1, h2, h3, h4⟩ := h
  refine ⟨cur, hb, h1, h2, h3, fun i x hx => ?_, fun i x _ hx => h4 i x hx⟩
  rw [hk, List.getElem?_take] at hx
  split at hx
  · exact h4 i x hx
  · cases hx
theorem Mid.done {w w' : World} {g c n : Nat} {P : Me → Bool} {L : List Me} (h : Mid w g c n P L) (hn : L.length ≤ n) {vs : List Value} {o : Nat} (hw : w.setCells g o vs = w') (ho : o = (L.filter (fun y => !P y)).length * 4) :
    Row w' g c (L.filter (fun y => !P y)) ∧ Keeps (At g) w w' := by
  subst hw
  obtain ⟨cur, hb, h1, h2, h3, h4, h5⟩ := h
  obtain ⟨⟨cur', e1, e2, e3⟩, k⟩ := block_setCells vs o w cur hb
  refine ⟨⟨cur', e1, by rw [e2, h1], h2, Nat.le_trans (List.length_filter_le _ _) h3, fun i x hx q v hv => ?_⟩, k⟩
  have hi := (List.getElem?_eq_some_iff.1 hx).1
  have hq : q < 4 := by have := (List.getElem?_eq_some_iff.1 hv).1; simpa using this
  rw [e3 _ (by omega)]
  rw [List.take_of_length_le hn] at h4
  exact h4 i x hx q v hv
theorem zeroE (w : World) : (zeroValue 59).run Try.prog w = .ok (.agg #[.int .i64 0, .int .u16 0, .int .u8 0, .bool false]) w := by kernel_rfl
theorem zcells_one (n : Nat) : ∀ v ∈ (Builtin.zeroCells (Value.agg #[.int .i64 0, .int .u16 0, .int .u8 0, .bool false]).cells n).toList, v.oneCell' = true := by
  intro v hv
  simp [Builtin.zeroCells, Value.cells] at hv
  obtain ⟨a, ha, rfl⟩ := hv
  have : a % 4 < 4 := Nat.mod_lt _ (by omega)
  have hc : a % 4 = 0 ∨ a % 4 = 1 ∨ a % 4 = 2 ∨ a % 4 = 3 := by omega
  rcases hc with h | h | h | h <;> simp [h, Value.oneCell']
theorem nN_of {w : World} {b : Nat} {T : TypeId} {x0 x1 x2 x3 : Value} (h : w.heap[b]? = some (.cells #[x0, x1, x2, x3] T (0, 0))) :
    w.cell? ⟨b, 0, Option.none⟩ = some x0 ∧ w.cell? ⟨b, 1, Option.none⟩ = some x1 ∧ w.cell? ⟨b, 2, Option.none⟩ = some x2 ∧ w.cell? ⟨b, 3, Option.none⟩ = some x3 := by
  simp [World.cell?, h]
/-- A place to write at. -/
theorem Mid.spot {w : World} {g c j i : Nat} {P : Me → Bool} {L : List Me} (h : Mid w g c j P L) (hi : i < L.length) :
    (∃ v, w.cell? ⟨g, i * 4, Option.none⟩ = some v) ∧ (∃ v, w.cell? ⟨g, i * 4 + 1, Option.none⟩ = some v) ∧ (∃ v, w.cell? ⟨g, i * 4 + 2, Option.none⟩ = some v) ∧ (∃ v, w.cell? ⟨g, i * 4 + 3, Option.none⟩ = some v) ∧ ∀ q, w.frozen? ⟨g, q, Option.none⟩ = false := by
  obtain ⟨cur, hb, h1, h2, h3, h4, h5⟩ := h
  have C : ∀ q, q < 4 → ∃ v, w.cell? ⟨g, i * 4 + q, Option.none⟩ = some v := fun q hq => by
    have : i * 4 + q < cur.size := by omega
    exact ⟨cur[i * 4 + q], by simp [World.cell?, hb, this]⟩
  refine ⟨?_, C 1 (by omega), C 2 (by omega), C 3 (by omega), fun q => by simp [World.frozen?, hb]⟩
  have := C 0 (by omega)
  simpa using this
theorem clear_mid {w : World} {g c j i : Nat} {P : Me → Bool} {L : List Me} (h : Mid w g c j P L) (ty : TypeId) (hi : i < L.length) :
    (Builtin.clear_ #[53] ty #[.slice (some ⟨g, i * 4, Option.none⟩) (L.length - i) (c - i)]).run Try.prog w = .ok (.tuple #[]) (w.setCells g (i * 4) (Builtin.zeroCells (Value.agg #[.int .i64 0, .int .u16 0, .int .u8 0, .bool false]).cells (L.length - i)).toList) := by
  obtain ⟨cur, hb, h1, h2, h3, h4, h5⟩ := h
  refine run_clear_wide w 53 59 ty _ Try.underlying53 zeroE g (i * 4) _ _ (by omega) (fun q hq => ?_) (fun q hq => by simp [World.frozen?, hb]) (zcells_one _)
  have : i * 4 + q < cur.size := by simp [Value.cells] at hq; omega
  simp [World.cell?, hb, this]

set_option maxHeartbeats 8000000 in
theorem delete_drop (P : Me → Bool) (b0 b1 : Nat) (B : Nat) (p : Option Addr) (n c : Nat) (L : List Me) (w : World) (h : Sl w B p n c L)
    (hp : ∀ (x : Me) (W : World), (∃ i : Nat, L[i]? = some x) → Keeps (InP p) w W → Calls Try.prog 43 #[.agg #[.int .i64 x.ai, .int .u16 x.id, .int .u8 x.port, .bool x.up], .pointer (some ⟨b0, 0, Option.none⟩), .pointer (some ⟨b1, 0, Option.none⟩)] W fun e w' => e = .returned (.bool (P x)) ∧ Keeps Nil W w') :
    Calls Try.prog 42 #[.slice p n c, .func (.func 43) #[] #[.pointer (some ⟨b0, 0, Option.none⟩), .pointer (some ⟨b1, 0, Option.none⟩)]] w fun e w' => (∃ n', e = .returned (.slice p n' c) ∧ Sl w' B p n' c (L.filter (fun x => !(P x)))) ∧ Keeps (InP p) w w' := by
  have hm : n ≤ 9223372036854775807 := by
    obtain ⟨hl, ⟨_, hn, _⟩ | ⟨g, _, _, cur, _, _, hm, hle, _⟩⟩ := h
    · omega
    · unfold maxLen at hm; omega
  have HI : ∀ W, Keeps Nil w W → Hid (Calls Try.prog 49 #[.slice p n c, .func (.func 43) #[] #[.pointer (some ⟨b0, 0, Option.none⟩), .pointer (some ⟨b1, 0, Option.none⟩)]] W fun e w' => e = .returned (.int .i64 (idx (fun x => P x) L)) ∧ Keeps Nil W w') := fun W k =>
    hid (index_drop P b0 b1 B p n c L W (h.keepN k) hm (fun x V hx kv => hp x V hx ((k.trans kv).ofNil)))
  have HP := hid hp
  have H := hid h
  clear hp
  rcases idx_spec (fun x => P x) L with ⟨hi, hf⟩ | ⟨k0, hi, hk, hf⟩
  · rw [hi] at HI
    have HF := hid hf
    clear hf hi
    go_enter Try.func42, Try.ntmps42
    go_wp2_with fail
    refine (HI _ (Keeps.refl _ _)).out.mono ?_; rintro ee w2 ⟨rfl, k2⟩
    go_wp2_with fail
    go_ret
    rw [HF.out]
    exact ⟨⟨n, rfl, H.out.keepN k2⟩, k2.ofNil⟩
  · obtain ⟨hl, ⟨_, hn, _⟩ | ⟨g, rfl, hB, hr⟩⟩ := h
    · omega
    have hnc : n ≤ c := by
      obtain ⟨cur, _, _, hm, hle, _⟩ := hr
      omega
    have hS := Mid.start hr hf
    have hk0 : ((L.take (k0 + 1)).filter (fun y => !(fun x => P x) y)).length = k0 := by rw [hf]; simp; omega
    have MS := hid hS
    have HK0 := hid hk0
    have hne : ((k0 : Int) == -1) = false := by rw [beq_eq_false_iff_ne]; omega
    rw [hi] at HI
    have hkn : k0 < n := by omega
    have HL := hid hl
    clear hi hf hS hk0 hr hl hk
    go_enter Try.func42, Try.ntmps42
    go_wp2_with fail
    refine (HI _ (Keeps.refl _ _)).out.mono ?_; rintro ee w2 ⟨rfl, k2⟩
    go_wp2_with fail
    go_loopw [5, 6, 7] (fun s5 s6 _ wr => ∃ i j : Nat, j ≤ n ∧ i < j ∧ s5 = .int .i64 i ∧ s6 = .int .i64 j ∧ Keeps (InP (some ⟨g, 0, Option.none⟩)) w wr ∧ Hid (Mid wr g c j (fun x => P x) L ∧ ((L.take j).filter (fun y => !(fun x => P x) y)).length = i)) (fun _ s6 _ _ => n - (intOf s6).toNat)
    case atStart => exact ⟨k0, k0 + 1, by omega, by omega, rfl, by go_num, k2.ofNil, hid ⟨MS.out.keep k2 (fun e => e), HK0.out⟩⟩
    case round =>
      obtain ⟨i, j, hj, hij, rfl, rfl, kk, hM⟩ := hrel
      by_cases hlt : j < n
      · obtain ⟨x, hx⟩ : ∃ x, L[j]? = some x := ⟨_, List.getElem?_eq_getElem (by have := HL.out; omega)⟩
        obtain ⟨c0, c1, c2, c3⟩ := hM.out.1.read hx
        have HX := hid hx
        have HC := hid (fun W => HP.out x W ⟨j, hx⟩)
        clear hx
        go_upto_region 8 with (fail)
        have ka : Keeps Nil wr (wr.alloc (.cells #[.int .i64 x.ai, .int .u16 x.id, .int .u8 x.port, .bool x.up] 59 (0, 0))) := (Keeps.refl _ _).alloc _
        have ha := alloc_block wr (.cells #[.int .i64 x.ai, .int .u16 x.id, .int .u8 x.port, .bool x.up] 59 (0, 0))
        have hga := hM.out.1.lt
        generalize (wr.alloc (.cells #[.int .i64 x.ai, .int .u16 x.id, .int .u8 x.port, .bool x.up] 59 (0, 0))) = wa at *
        generalize wr.heap.size = b7 at *
        obtain ⟨d0, d1, d2, d3⟩ := nN_of ha
        have HAL := hid ha
        have KA := hid ka
        clear c0 c1 c2 c3 ha ka
        cases hq : (P x) with
        | true =>
          have HQ := hid hq
          rw [hq] at HC
          clear hq
          go_wp2_with fail
          refine (HC.out _ (kk.trans KA.out.ofNil)).mono ?_; rintro ee w' ⟨rfl, kz⟩
          go_wp2_with fail
          go_roundw
          case rel => exact ⟨i, j + 1, by omega, by omega, rfl, by go_num, (kk.trans KA.out.ofNil).trans kz.ofNil, hid ⟨((hM.out.1.drop HX.out HQ.out).keep KA.out (fun e => e)).keep kz (fun e => e), by rw [take_more HX.out (fun x => P x), HQ.out]; simpa using hM.out.2⟩⟩
          case measure => simp only [intOf]; omega
        | false =>
          have HQ := hid hq
          rw [hq] at HC
          clear hq
          go_wp2_with fail
          refine (HC.out _ (kk.trans KA.out.ofNil)).mono ?_; rintro ee w' ⟨rfl, kz⟩
          have M3 := hid ((hM.out.1.keep KA.out (fun e => e)).keep kz (fun e => e))
          have ha3 := (kz.block _ (lt_of_block HAL.out) (fun e => e)).trans HAL.out
          obtain ⟨d0, d1, d2, d3⟩ := nN_of ha3
          obtain ⟨⟨o0, e0⟩, ⟨o1, e1⟩, ⟨o2, e2⟩, ⟨o3, e3⟩, ef⟩ := M3.out.spot (i := i) (by have := HL.out; omega)
          clear ha3
          go_wp2_with fail
          go_roundw
          case rel =>
            obtain ⟨W9, hW, hM9, k9⟩ := M3.out.put HX.out HQ.out hM.out.2
            rw [hW]
            refine ⟨i + 1, j + 1, by omega, by omega, by go_num, by go_num, ((kk.trans KA.out.ofNil).trans kz.ofNil).trans (k9.mono (fun k e => by rw [At] at e; subst e; rfl)), hid ⟨hM9, by rw [take_more HX.out (fun x => P x), HQ.out]; simp; exact hM.out.2⟩⟩
          case measure => simp only [intOf]; omega
      · obtain rfl : j = n := by omega
        have hcl := fun ty => clear_mid hM.out.1 ty (i := i) (by have := HL.out; omega)
        rw [HL.out] at hcl
        obtain ⟨W9, hW⟩ : ∃ W9, wr.setCells g (i * 4) (Builtin.zeroCells (Value.agg #[.int .i64 0, .int .u16 0, .int .u8 0, .bool false]).cells (j - i)).toList = W9 := ⟨_, rfl⟩
        have hlen : (L.filter (fun y => !(fun x => P x) y)).length = i := by have := hM.out.2; rwa [List.take_of_length_le (by have := HL.out; omega)] at this
        obtain ⟨hR, kR⟩ := Mid.done hM.out.1 (Nat.le_of_eq HL.out) hW (by rw [hlen])
        rw [hW] at hcl
        have HR := hid hR
        have HLEN := hid hlen
        have hic : i ≤ c := by omega
        clear hW hR hlen
        go_wp2_with fail
        go_ret
        exact ⟨⟨i, rfl, HLEN.out, .inr ⟨g, rfl, hB, HR.out⟩⟩, kk.trans (kR.mono (fun k e => by rw [At] at e; subst e; rfl))⟩
end Go.Proofs.Ytbgijlfdgfhceaa
