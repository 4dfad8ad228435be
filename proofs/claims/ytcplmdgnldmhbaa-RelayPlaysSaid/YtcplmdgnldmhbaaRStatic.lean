/-
  Layer 8: the document's database: static, without. Conditions: its rows lie so; the place's numbers are in range.
-/
import Derived.Test.YtcplmdgnldmhbaaWV
namespace Go.Proofs.Ytcplmdgnldmhbaa
open Go.RowKit
set_option linter.unusedVariables false

abbrev scells (x : Pl × Int) : List Value := [.int .u16 x.1.v, .int .u8 x.1.a, .int .u8 x.1.b, .int .u8 x.1.c, .int .u8 x.1.d, .int .u8 x.1.e, .int .u8 x.1.f, .int .u8 x.2]
def flatS (S : List (Pl × Int)) : List Value := S.flatMap scells
theorem flatS_cons (x : Pl × Int) (S : List (Pl × Int)) : flatS (x :: S) = scells x ++ flatS S := rfl
theorem flatS_append (S R : List (Pl × Int)) : flatS (S ++ R) = flatS S ++ flatS R := by simp [flatS]
theorem flatS_len (S : List (Pl × Int)) : (flatS S).length = S.length * 8 := by
  induction S with
  | nil => rfl
  | cons x S ih => rw [flatS_cons, List.length_append, ih, List.length_cons]; simp; omega
theorem flatS_get (S : List (Pl × Int)) : ∀ (i q : Nat), q < 8 → (flatS S)[i * 8 + q]? = (S[i]?).bind (fun x => (scells x)[q]?) := by
  induction S with
  | nil => intro i q hq; simp [flatS]
  | cons x S ih =>
    intro i q hq
    rw [flatS_cons]
    cases i with
    | zero =>
      rw [Nat.zero_mul, Nat.zero_add, List.getElem?_append_left (by simpa using hq)]
      rfl
    | succ i =>
      rw [List.getElem?_append_right (by simp; omega)]
      have : (i + 1) * 8 + q - (scells x).length = i * 8 + q := by simp; omega
      rw [this, ih i q hq]
      rfl
theorem flatS_one (S : List (Pl × Int)) : ∀ u ∈ flatS S, u.oneCell' = true := by
  intro u hu
  obtain ⟨x, _, hx⟩ := List.mem_flatMap.1 hu
  simp [scells] at hx
  rcases hx with rfl | rfl | rfl | rfl | rfl | rfl | rfl | rfl <;> rfl

/-- The document's table by value. -/
abbrev rtab (pL : Option Addr) (nL cL : Nat) (pS : Option Addr) (nS cS : Nat) : Value := .agg #[.slice pL nL cL, .slice pS nS cS]
/-- Its rows read as the plain data. -/
def RT (w : World) (B : Nat) (pL : Option Addr) (cL : Nat) (pS : Option Addr) (cS : Nat) (τ : Tb) : Prop :=
  WV w B 9 pL τ.L.length cL (flat τ.L) ∧ WV w B 8 pS τ.S.length cS (flatS τ.S)
theorem RT.keepN {w w' : World} {B cL cS : Nat} {pL pS : Option Addr} {τ : Tb} (h : RT w B pL cL pS cS τ) (k : Keeps Nil w w') : RT w' B pL cL pS cS τ := ⟨h.1.keepN k, h.2.keepN k⟩

/-- An entry's cells in a row. -/
theorem WV.entry {w : World} {B c n : Nat} {p : Option Addr} {L : List En} (h : WV w B 9 p n c (flat L)) {i : Nat} {x : En} (hx : L[i]? = some x) : ∃ g off, p = some ⟨g, off, Option.none⟩ ∧ B ≤ g ∧ g < w.heap.size ∧
    (w.cell? ⟨g, off + i * 9, Option.none⟩ = some (.int .u16 x.p.v) ∧ w.cell? ⟨g, off + i * 9 + 1, Option.none⟩ = some (.int .u8 x.p.a) ∧ w.cell? ⟨g, off + i * 9 + 2, Option.none⟩ = some (.int .u8 x.p.b) ∧ w.cell? ⟨g, off + i * 9 + 3, Option.none⟩ = some (.int .u8 x.p.c) ∧
    w.cell? ⟨g, off + i * 9 + 4, Option.none⟩ = some (.int .u8 x.p.d) ∧ w.cell? ⟨g, off + i * 9 + 5, Option.none⟩ = some (.int .u8 x.p.e) ∧ w.cell? ⟨g, off + i * 9 + 6, Option.none⟩ = some (.int .u8 x.p.f) ∧ w.cell? ⟨g, off + i * 9 + 7, Option.none⟩ = some (.int .u8 x.port) ∧
    w.cell? ⟨g, off + i * 9 + 8, Option.none⟩ = some (.int .i64 x.age)) := by
  have hi := (List.getElem?_eq_some_iff.1 hx).1
  have hl := h.1
  rw [flat_len] at hl
  obtain ⟨g, off, e, hb, hg, hc⟩ := h.2.2 (by omega)
  have C : ∀ q v, x.cells[q]? = some v → w.cell? ⟨g, off + i * 9 + q, Option.none⟩ = some v := fun q v hv => by
    have hq : q < 9 := by have := (List.getElem?_eq_some_iff.1 hv).1; simpa using this
    have h2 := flat_get L i q hq
    rw [hx] at h2
    simp only [Option.bind_some, hv] at h2
    rw [Nat.add_assoc]
    exact hc _ _ h2
  exact ⟨g, off, e, hb, hg, C 0 _ rfl, C 1 _ rfl, C 2 _ rfl, C 3 _ rfl, C 4 _ rfl, C 5 _ rfl, C 6 _ rfl, C 7 _ rfl, C 8 _ rfl⟩
theorem WV.stat {w : World} {B c n : Nat} {p : Option Addr} {S : List (Pl × Int)} (h : WV w B 8 p n c (flatS S)) {i : Nat} {x : Pl × Int} (hx : S[i]? = some x) : ∃ g off, p = some ⟨g, off, Option.none⟩ ∧ B ≤ g ∧ g < w.heap.size ∧
    (w.cell? ⟨g, off + i * 8, Option.none⟩ = some (.int .u16 x.1.v) ∧ w.cell? ⟨g, off + i * 8 + 1, Option.none⟩ = some (.int .u8 x.1.a) ∧ w.cell? ⟨g, off + i * 8 + 2, Option.none⟩ = some (.int .u8 x.1.b) ∧ w.cell? ⟨g, off + i * 8 + 3, Option.none⟩ = some (.int .u8 x.1.c) ∧
    w.cell? ⟨g, off + i * 8 + 4, Option.none⟩ = some (.int .u8 x.1.d) ∧ w.cell? ⟨g, off + i * 8 + 5, Option.none⟩ = some (.int .u8 x.1.e) ∧ w.cell? ⟨g, off + i * 8 + 6, Option.none⟩ = some (.int .u8 x.1.f) ∧ w.cell? ⟨g, off + i * 8 + 7, Option.none⟩ = some (.int .u8 x.2)) := by
  have hi := (List.getElem?_eq_some_iff.1 hx).1
  have hl := h.1
  rw [flatS_len] at hl
  obtain ⟨g, off, e, hb, hg, hc⟩ := h.2.2 (by omega)
  have C : ∀ q v, (scells x)[q]? = some v → w.cell? ⟨g, off + i * 8 + q, Option.none⟩ = some v := fun q v hv => by
    have hq : q < 8 := by have := (List.getElem?_eq_some_iff.1 hv).1; simpa using this
    have h2 := flatS_get S i q hq
    rw [hx] at h2
    simp only [Option.bind_some, hv] at h2
    rw [Nat.add_assoc]
    exact hc _ _ h2
  exact ⟨g, off, e, hb, hg, C 0 _ rfl, C 1 _ rfl, C 2 _ rfl, C 3 _ rfl, C 4 _ rfl, C 5 _ rfl, C 6 _ rfl, C 7 _ rfl⟩

/-- The place of the first static entry of a place; -1: there is none. -/
def sidx (q : Pl) : List (Pl × Int) → Int
  | [] => -1
  | x :: r => if x.1 = q then 0 else if sidx q r < 0 then -1 else sidx q r + 1
theorem sidx_hit (q : Pl) : ∀ (S : List (Pl × Int)) (k : Nat) (x : Pl × Int), S[k]? = some x → x.1 = q → (∀ (j : Nat) (y : Pl × Int), j < k → S[j]? = some y → y.1 ≠ q) → sidx q S = k
  | [], k, x, h, _, _ => by simp at h
  | y :: r, 0, x, h, hp, _ => by simp at h; subst h; simp [sidx, hp]
  | y :: r, k + 1, x, h, hp, ha => by
    have h0 : y.1 ≠ q := ha 0 y (by omega) rfl
    have := sidx_hit q r k x (by simpa using h) hp (fun j z hj hz => ha (j + 1) z (by omega) (by simpa using hz))
    simp only [sidx, this]
    rw [if_neg h0, if_neg (by omega)]
    push_cast
    rfl
theorem sidx_miss (q : Pl) : ∀ (S : List (Pl × Int)), (∀ (j : Nat) (y : Pl × Int), S[j]? = some y → y.1 ≠ q) → sidx q S = -1
  | [], _ => rfl
  | y :: r, ha => by
    have h0 : y.1 ≠ q := ha 0 y rfl
    have := sidx_miss q r (fun j z hz => ha (j + 1) z (by simpa using hz))
    simp [sidx, h0, this]
/-- Three ways in which a place may be another one, or not. -/
theorem pl_three (x q : Pl) : x = q ∨ (x.v == q.v) = false ∨ (x ≠ q ∧ x.v = q.v ∧ ¬ (x.a = q.a ∧ x.b = q.b ∧ x.c = q.c ∧ x.d = q.d ∧ x.e = q.e ∧ x.f = q.f)) := by
  by_cases h : x = q
  · exact .inl h
  · by_cases hv : x.v = q.v
    · refine .inr (.inr ⟨h, hv, fun hm => h ?_⟩)
      cases x; cases q; simp_all
    · exact .inr (.inl (by simp [hv]))

set_option maxHeartbeats 8000000 in
theorem static_any (q : Pl) (B : Nat) (pL : Option Addr) (cL : Nat) (pS : Option Addr) (cS : Nat) (τ : Tb) (w : World) (h : RT w B pL cL pS cS τ) (hl : τ.S.length ≤ 1000) :
    Calls Try.prog 47 #[rtab pL τ.L.length cL pS τ.S.length cS, .int .u16 q.v, q.mac] w fun e w' => e = .returned (.int .i64 (sidx q τ.S)) ∧ Keeps Nil w w' := by
  obtain ⟨hA, hB⟩ := two_allocs w (.cells #[.slice pL τ.L.length cL, .slice pS τ.S.length cS] 61 (0, 0)) (.cells #[Value.int IntKind.u8 q.a, Value.int IntKind.u8 q.b, Value.int IntKind.u8 q.c, Value.int IntKind.u8 q.d, Value.int IntKind.u8 q.e, Value.int IntKind.u8 q.f] 31 (0, 0))
  have kz : Keeps Nil w ((w.alloc (.cells #[.slice pL τ.L.length cL, .slice pS τ.S.length cS] 61 (0, 0))).alloc (.cells #[Value.int IntKind.u8 q.a, Value.int IntKind.u8 q.b, Value.int IntKind.u8 q.c, Value.int IntKind.u8 q.d, Value.int IntKind.u8 q.e, Value.int IntKind.u8 q.f] 31 (0, 0))) := ((Keeps.refl _ _).alloc _).alloc _
  have HA := hid hA
  have HB := hid hB
  have KZ := hid kz
  have H := hid (h.keepN kz)
  clear hA hB kz h
  go_enter Try.func47, Try.ntmps47
  go_upto_region 1 with (fail)
  generalize ((w.alloc (.cells #[.slice pL τ.L.length cL, .slice pS τ.S.length cS] 61 (0, 0))).alloc (.cells #[Value.int IntKind.u8 q.a, Value.int IntKind.u8 q.b, Value.int IntKind.u8 q.c, Value.int IntKind.u8 q.d, Value.int IntKind.u8 q.e, Value.int IntKind.u8 q.f] 31 (0, 0))) = W at *
  generalize w.heap.size + 1 = b5 at *
  generalize w.heap.size = b3 at *
  obtain ⟨a0, a1⟩ := two_cells HA.out
  obtain ⟨m0, m1, m2, m3, m4, m5⟩ := six_of HB.out
  obtain ⟨n, hn⟩ : ∃ n, τ.S.length = n := ⟨_, rfl⟩
  rw [hn] at a1 hl
  have HN := hid hn
  clear hn
  go_wp2_with fail
  go_loopw [7] (fun i wr => ∃ k m : Nat, k ≤ n ∧ i = .int .i64 k ∧ wr = W.drewN m ∧ Hid (∀ (j : Nat) (y : Pl × Int), j < k → τ.S[j]? = some y → y.1 ≠ q)) (fun i _ => n - (intOf i).toNat)
  case atStart => exact ⟨0, 0, Nat.zero_le _, rfl, rfl, hid (fun j y hj => by omega)⟩
  case round =>
    obtain ⟨k, m, hk, rfl, rfl, hall⟩ := hrel
    by_cases hlt : k < n
    · obtain ⟨⟨x, u⟩, hx⟩ : ∃ x, τ.S[k]? = some x := ⟨_, List.getElem?_eq_getElem (by have := HN.out; omega)⟩
      obtain ⟨g, off, hp, _, hg, c0, c1, c2, c3, c4, c5, c6, c7⟩ := H.out.2.stat hx
      have HX := hid hx
      subst hp
      have hnc : n ≤ cS := by have := H.out.2.2.1; have := HN.out; omega
      clear hx c7
      simp only at c0 c1 c2 c3 c4 c5 c6
      rcases pl_three x q with hq | hv | ⟨hq, hv, hm⟩
      · subst hq
        have hE := eql25 x.a x.b x.c x.d x.e x.f x.a x.b x.c x.d x.e x.f true (by simp)
        go_wp2_with fail
        go_quiet (fail)
        go_wp2_with fail
        go_ret
        rw [sidx_hit x τ.S k (x, u) HX.out rfl hall.out]
        exact ⟨rfl, KZ.out.trans (by first | exact (Keeps.drewN _ _).trans (Keeps.drewN _ _) | exact Keeps.drewN _ _)⟩
      · have HQ := hid (show x ≠ q from fun e => by subst e; simp at hv)
        go_wp2_with fail
        go_quiet (fail)
        go_wp2_with fail
        go_roundw
        case rel =>
          refine ⟨k + 1, _, by omega, by go_num, rfl, hid (fun j y hj hy => ?_)⟩
          by_cases e : j = k
          · subst e
            rw [HX.out] at hy
            cases hy
            exact HQ.out
          · exact hall.out j y (by omega) hy
        case measure => simp only [intOf]; omega
      · have HQ := hid hq
        have hE := eql25 x.a x.b x.c x.d x.e x.f q.a q.b q.c q.d q.e q.f false (decide_eq_false hm)
        rw [hv] at c0
        clear hq hm hv
        go_wp2_with fail
        go_quiet (fail)
        go_wp2_with fail
        go_roundw
        case rel =>
          refine ⟨k + 1, _, by omega, by go_num, rfl, hid (fun j y hj hy => ?_)⟩
          by_cases e : j = k
          · subst e
            rw [HX.out] at hy
            cases hy
            exact HQ.out
          · exact hall.out j y (by omega) hy
        case measure => simp only [intOf]; omega
    · obtain rfl : k = n := by omega
      have hmiss := sidx_miss q τ.S (fun j y hy => hall.out j y (by have := (List.getElem?_eq_some_iff.1 hy).1; have := HN.out; omega) hy)
      have HMI := hid hmiss
      clear hmiss
      go_wp2_with fail
      go_ret
      rw [HMI.out]
      exact ⟨rfl, KZ.out.trans (by first | exact (Keeps.drewN _ _).trans (Keeps.drewN _ _) | exact Keeps.drewN _ _)⟩
end Go.Proofs.Ytcplmdgnldmhbaa
