/-
  Layer 8: the document's database: Look. Conditions: its rows lie so; the numbers are in range.
-/
import Derived.Test.YtcplmdgnldmhbaaRFlush
namespace Go.Proofs.Ytcplmdgnldmhbaa
open Go.RowKit
set_option linter.unusedVariables false

theorem sidx_spec (q : Pl) (S : List (Pl × Int)) : (sget S q = none ∧ sidx q S = -1) ∨ ∃ (k : Nat) (u : Int), sget S q = some u ∧ sidx q S = k ∧ S[k]? = some (q, u) := by
  induction S with
  | nil => exact .inl ⟨rfl, rfl⟩
  | cons x r ih =>
    unfold sget at ih ⊢
    rw [List.find?_cons]
    by_cases hx : x.1 = q
    · refine .inr ⟨0, x.2, by simp [hx], by simp [sidx, hx], ?_⟩
      obtain ⟨a, b⟩ := x
      simp only at hx
      subst hx
      rfl
    · simp only [hx, decide_false, sidx, if_false]
      rcases ih with ⟨h1, h2⟩ | ⟨k, u, h1, h2, h3⟩
      · exact .inl ⟨h1, by rw [h2]; rfl⟩
      · refine .inr ⟨k + 1, u, h1, ?_, by simpa using h3⟩
        rw [h2, if_neg (by omega)]
        push_cast
        rfl

set_option maxHeartbeats 8000000 in
theorem rlook_static (q : Pl) (u : Int) (B : Nat) (pL : Option Addr) (cL : Nat) (pS : Option Addr) (cS : Nat) (τ : Tb) (w : World) (h : RT w B pL cL pS cS τ) (hl : τ.S.length ≤ 1000) (hu : sget τ.S q = some u) :
    Calls Try.prog 52 #[rtab pL τ.L.length cL pS τ.S.length cS, .int .u16 q.v, q.mac] w fun e w' => e = .returned (.tuple #[.int .u8 u, .bool true]) ∧ Keeps Nil w w' := by
  obtain ⟨k, hi, hx⟩ : ∃ k : Nat, sidx q τ.S = k ∧ τ.S[k]? = some (q, u) := by
    rcases sidx_spec q τ.S with ⟨h1, _⟩ | ⟨k, v, h1, h2, h3⟩
    · rw [hu] at h1; cases h1
    · rw [hu] at h1; injection h1 with h1; subst h1; exact ⟨k, h2, h3⟩
  obtain ⟨hA, hB⟩ := two_allocs w (.cells #[.slice pL τ.L.length cL, .slice pS τ.S.length cS] 61 (0, 0)) (.cells #[Value.int IntKind.u8 q.a, Value.int IntKind.u8 q.b, Value.int IntKind.u8 q.c, Value.int IntKind.u8 q.d, Value.int IntKind.u8 q.e, Value.int IntKind.u8 q.f] 31 (0, 0))
  have kz : Keeps Nil w ((w.alloc (.cells #[.slice pL τ.L.length cL, .slice pS τ.S.length cS] 61 (0, 0))).alloc (.cells #[Value.int IntKind.u8 q.a, Value.int IntKind.u8 q.b, Value.int IntKind.u8 q.c, Value.int IntKind.u8 q.d, Value.int IntKind.u8 q.e, Value.int IntKind.u8 q.f] 31 (0, 0))) := ((Keeps.refl _ _).alloc _).alloc _
  have HA := hid hA
  have KZ := hid kz
  have H := hid (h.keepN kz)
  have HI := hid hi
  have HX := hid hx
  have hkn : k < τ.S.length := (List.getElem?_eq_some_iff.1 hx).1
  have hnc : τ.S.length ≤ cS := h.2.2.1
  clear hA hB kz h hi hu hx
  go_enter Try.func52, Try.ntmps52
  go_wp2_with fail
  refine (static_any q B pL cL pS cS τ _ H.out hl).mono ?_; rintro ee w2 ⟨rfl, k2⟩
  obtain ⟨a0, a1⟩ := two_cells ((k2.block _ (lt_of_block HA.out) (fun e => e)).trans HA.out)
  obtain ⟨g, off, hp, _, hg, c0, c1, c2, c3, c4, c5, c6, c7⟩ := (H.out.keepN k2).2.stat HX.out
  subst hp
  rw [HI.out]
  simp only at c7
  clear c0 c1 c2 c3 c4 c5 c6
  go_wp2_with fail
  go_ret2
  exact ⟨rfl, KZ.out.trans k2⟩

set_option maxHeartbeats 8000000 in
theorem rlook_any (q : Pl) (B : Nat) (pL : Option Addr) (cL : Nat) (pS : Option Addr) (cS : Nat) (τ : Tb) (w : World) (h : RT w B pL cL pS cS τ) (hl : τ.S.length ≤ 1000) (hL : τ.L.length ≤ 1000) (hin : ∀ x ∈ τ.L, InR x) (hu : sget τ.S q = none) :
    Calls Try.prog 52 #[rtab pL τ.L.length cL pS τ.S.length cS, .int .u16 q.v, q.mac] w fun e w' =>
      ((idx (fun x => decide (q = x.p)) τ.L = -1 ∧ e = .returned (.tuple #[.int .u8 0, .bool false])) ∨ ∃ (k : Nat) (x : En), idx (fun x => decide (q = x.p)) τ.L = k ∧ τ.L[k]? = some x ∧ e = .returned (.tuple #[.int .u8 (2 ^ x.port.toNat), .bool true])) ∧ Keeps Nil w w' := by
  have hi : sidx q τ.S = -1 := by
    rcases sidx_spec q τ.S with ⟨_, h2⟩ | ⟨k, v, h1, _⟩
    · exact h2
    · rw [hu] at h1; cases h1
  obtain ⟨hA, hB⟩ := two_allocs w (.cells #[.slice pL τ.L.length cL, .slice pS τ.S.length cS] 61 (0, 0)) (.cells #[Value.int IntKind.u8 q.a, Value.int IntKind.u8 q.b, Value.int IntKind.u8 q.c, Value.int IntKind.u8 q.d, Value.int IntKind.u8 q.e, Value.int IntKind.u8 q.f] 31 (0, 0))
  have kz : Keeps Nil w ((w.alloc (.cells #[.slice pL τ.L.length cL, .slice pS τ.S.length cS] 61 (0, 0))).alloc (.cells #[Value.int IntKind.u8 q.a, Value.int IntKind.u8 q.b, Value.int IntKind.u8 q.c, Value.int IntKind.u8 q.d, Value.int IntKind.u8 q.e, Value.int IntKind.u8 q.f] 31 (0, 0))) := ((Keeps.refl _ _).alloc _).alloc _
  have HA := hid hA
  have HB := hid hB
  have KZ := hid kz
  have H := hid (h.keepN kz)
  have HI := hid hi
  have HIN := hid hin
  clear hA hB kz h hi hu hin
  go_enter Try.func52, Try.ntmps52
  go_wp2_with fail
  refine (static_any q B pL cL pS cS τ _ H.out hl).mono ?_; rintro ee w2 ⟨rfl, k2⟩
  have HA2 := hid ((k2.block _ (lt_of_block HA.out) (fun e => e)).trans HA.out)
  have HB2 := hid ((k2.block _ (lt_of_block HB.out) (fun e => e)).trans HB.out)
  have HL2 := hid ((H.out.keepN k2).1)
  have KZ2 := hid (KZ.out.trans k2)
  obtain ⟨a0, a1⟩ := two_cells HA2.out
  obtain ⟨m0, m1, m2, m3, m4, m5⟩ := six_of HB2.out
  clear HA HB H KZ
  obtain ⟨n, hn⟩ : ∃ n, τ.L.length = n := ⟨_, rfl⟩
  rw [hn] at a0 hL
  have HN := hid hn
  rw [HI.out]
  clear hn k2
  go_wp2_with fail
  go_loopw [9, 10, 11] (fun s9 _ _ wr => ∃ k m : Nat, k ≤ n ∧ s9 = .int .i64 k ∧ wr = w2.drewN m ∧ Hid (∀ (j : Nat) (y : En), j < k → τ.L[j]? = some y → decide (q = y.p) = false)) (fun s9 _ _ _ => n - (intOf s9).toNat)
  case atStart => exact ⟨0, 0, Nat.zero_le _, rfl, rfl, hid (fun j y hj => by omega)⟩
  case round =>
    obtain ⟨k, m, hk, rfl, rfl, hall⟩ := hrel
    by_cases hlt : k < n
    · obtain ⟨x, hx⟩ : ∃ x, τ.L[k]? = some x := ⟨_, List.getElem?_eq_getElem (by have := HN.out; omega)⟩
      obtain ⟨g, off, hp, _, hg, c0, c1, c2, c3, c4, c5, c6, c7, c8⟩ := HL2.out.entry hx
      have HX := hid hx
      have hr := HIN.out x (List.mem_of_getElem? hx)
      have hr0 := hr.1
      have hr1 := hr.2
      subst hp
      have hnc : n ≤ cL := by have := HL2.out.2.1; have := HN.out; omega
      clear hx hr
      rcases pl_three x.p q with hq | hv | ⟨hq, hv, hm⟩
      · have hE : ∀ W, (binOp .eql 31 (.agg #[.int .u8 x.p.a, .int .u8 x.p.b, .int .u8 x.p.c, .int .u8 x.p.d, .int .u8 x.p.e, .int .u8 x.p.f]) (.agg #[.int .u8 q.a, .int .u8 q.b, .int .u8 q.c, .int .u8 q.d, .int .u8 q.e, .int .u8 q.f])).run Try.prog W = .ok (.bool true) W := fun W => eql25 x.p.a x.p.b x.p.c x.p.d x.p.e x.p.f q.a q.b q.c q.d q.e q.f true (by rw [hq]; simp) W
        have hv : (x.p.v == q.v) = true := by rw [hq]; simp
        have HQ := hid (show decide (q = x.p) = true from by rw [hq]; simp)
        clear hq
        obtain ⟨po, hpo⟩ : ∃ po : Nat, x.port = po := Int.eq_ofNat_of_zero_le hr0
        have HPO := hid hpo
        rw [hpo] at c7 hr1
        go_wp2_with fail
        go_quiet (fail)
        go_wp2_with fail
        go_loopw [10, 11] (fun s10 s11 wr => ∃ j m' : Nat, j ≤ po ∧ s11 = .int .u8 j ∧ s10 = .int .u8 ((2 ^ j : Nat) : Int) ∧ wr = w2.drewN m') (fun _ s11 _ => po - (intOf s11).toNat)
        case atStart => exact ⟨0, m + nq, Nat.zero_le _, rfl, rfl, by first | rfl | simp⟩
        case round =>
          obtain ⟨j, m', hj, rfl, rfl, rfl⟩ := hrel
          have hp2 : (2 ^ j : Nat) ≤ 128 := by
            have : 2 ^ j ≤ 2 ^ 7 := Nat.pow_le_pow_right (by omega) (by omega)
            simpa using this
          have hps : 2 ^ (j + 1) = 2 ^ j * 2 := Nat.pow_succ ..
          obtain ⟨y, hy⟩ : ∃ y, 2 ^ j = y := ⟨_, rfl⟩
          rw [hy] at hp2 hps ⊢
          have HY := hid hy
          have HPS := hid hps
          clear hy hps
          by_cases hjl : j < po
          · have hw : IntKind.u8.wrap ((y : Int) * 2) = (y : Int) * 2 := by
              have hle : 2 ^ (j + 1) ≤ 2 ^ 7 := Nat.pow_le_pow_right (by omega) (by omega)
              rw [HPS.out] at hle
              have : IntKind.u8.wrap ((y : Int) * 2) = ((y : Int) * 2) % 256 := by rfl
              rw [this]; omega
            go_wp2_with fail
            go_roundw
            case rel => exact ⟨j + 1, _, by omega, by go_num, by rw [HPS.out]; push_cast; rfl, rfl⟩
            case measure => simp only [intOf]; omega
          · obtain rfl : j = po := by omega
            go_wp2_with fail
            go_ret2
            refine ⟨.inr ⟨k, x, idx_hit _ _ _ x HX.out HQ.out hall.out, HX.out, ?_⟩, KZ2.out.trans (Keeps.drewN _ _)⟩
            rw [HPO.out, ← HY.out]
            simp
      · have HQ := hid (show decide (q = x.p) = false from by apply decide_eq_false; intro e; subst e; simp at hv)
        go_wp2_with fail
        go_quiet (fail)
        go_wp2_with fail
        go_roundw
        case rel =>
          refine ⟨k + 1, _, by omega, by go_num, rfl, hid (fun j y hj hy => ?_)⟩
          by_cases e : j = k
          · subst e
            rw [HX.out] at hy
            cases hy
            exact HQ.out
          · exact hall.out j y (by omega) hy
        case measure => simp only [intOf]; omega
      · have HQ := hid (show decide (q = x.p) = false from decide_eq_false (fun e => hq e.symm))
        have hE : ∀ W, (binOp .eql 31 (.agg #[.int .u8 x.p.a, .int .u8 x.p.b, .int .u8 x.p.c, .int .u8 x.p.d, .int .u8 x.p.e, .int .u8 x.p.f]) (.agg #[.int .u8 q.a, .int .u8 q.b, .int .u8 q.c, .int .u8 q.d, .int .u8 q.e, .int .u8 q.f])).run Try.prog W = .ok (.bool false) W := fun W => eql25 x.p.a x.p.b x.p.c x.p.d x.p.e x.p.f q.a q.b q.c q.d q.e q.f false (decide_eq_false hm) W
        have hv' : (x.p.v == q.v) = true := by simp [hv]
        clear hq hv hm
        go_wp2_with fail
        go_quiet (fail)
        go_wp2_with fail
        go_roundw
        case rel =>
          refine ⟨k + 1, _, by omega, by go_num, rfl, hid (fun j y hj hy => ?_)⟩
          by_cases e : j = k
          · subst e
            rw [HX.out] at hy
            cases hy
            exact HQ.out
          · exact hall.out j y (by omega) hy
        case measure => simp only [intOf]; omega
    · obtain rfl : k = n := by omega
      have hmiss := idx_miss (fun x => decide (q = x.p)) τ.L (fun j y hy => hall.out j y (by have := (List.getElem?_eq_some_iff.1 hy).1; have := HN.out; omega) hy)
      have HMI := hid hmiss
      clear hmiss
      go_wp2_with fail
      go_ret2
      exact ⟨.inl ⟨HMI.out, rfl⟩, KZ2.out.trans (Keeps.drewN _ _)⟩
end Go.Proofs.Ytcplmdgnldmhbaa
