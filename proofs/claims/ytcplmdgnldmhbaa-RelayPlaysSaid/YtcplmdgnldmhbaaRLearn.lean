/-
  Layer 8: the document's database: Learn. Conditions: its rows lie so; the numbers are in range.
-/
import Derived.Test.YtcplmdgnldmhbaaRLook
import Derived.Deep.RegionHeld3
import Derived.StillTailTactics
namespace Go.Proofs.Ytcplmdgnldmhbaa
open Go.RowKit
set_option linter.unusedVariables false

theorem tmod_odd (a : Int) (h : 0 ≤ a) : (a.tmod 2 == 1) = decide (a % 2 = 1) := by
  rw [Int.tmod_eq_emod_of_nonneg h]
  rw [Bool.eq_iff_iff]
  simp
theorem sidx_none {q : Pl} {S : List (Pl × Int)} (hu : sget S q = none) : sidx q S = -1 := by
  rcases sidx_spec q S with ⟨_, h2⟩ | ⟨k, v, h1, _⟩
  · exact h2
  · rw [hu] at h1; cases h1
theorem sidx_some {q : Pl} {S : List (Pl × Int)} {u : Int} (hu : sget S q = some u) : ∃ k : Nat, sidx q S = k ∧ S[k]? = some (q, u) := by
  rcases sidx_spec q S with ⟨h1, _⟩ | ⟨k, v, h1, h2, h3⟩
  · rw [hu] at h1; cases h1
  · rw [hu] at h1; injection h1 with h1; subst h1; exact ⟨k, h2, h3⟩
attribute [local go_sem ↓] Go.wp_at_zero Go.wp_at_succ

/-- Two cells written anew. -/
theorem set2 {w : World} {b : Nat} {T : TypeId} {x y : Value} (h : w.heap[b]? = some (.cells #[x, y] T (0, 0))) (u v : Value) : ∃ w2, (w.setCell ⟨b, 0, Option.none⟩ u).setCell ⟨b, 1, Option.none⟩ v = w2 ∧ w2.heap[b]? = some (.cells #[u, v] T (0, 0)) ∧ Keeps (At b) w w2 :=
  ⟨_, rfl, setCell_block (setCell_block h 0 u) 1 v, ((Keeps.refl _ _).set _ _ (at_self _) _).set _ _ (at_self _) _⟩

set_option maxHeartbeats 8000000 in
theorem rlearn_no (q : Pl) (hq : q.Ok) (port : Int) (hp : 0 ≤ port) (B : Nat) (pL : Option Addr) (cL : Nat) (pS : Option Addr) (cS : Nat) (τ : Tb) (w : World) (h : RT w B pL cL pS cS τ) (hl : τ.S.length ≤ 1000) (hno : ¬ mayLearn q port) :
    Calls Try.prog 51 #[rtab pL τ.L.length cL pS τ.S.length cS, .int .u16 q.v, q.mac, .int .u8 port] w fun e w' => e = .returned (rtab pL τ.L.length cL pS τ.S.length cS) ∧ Keeps Nil w w' := by
  obtain ⟨hA, hB, hC⟩ := three_allocs w (.cells #[.slice pL τ.L.length cL, .slice pS τ.S.length cS] 61 (0, 0)) (.cells #[Value.int IntKind.u8 q.a, Value.int IntKind.u8 q.b, Value.int IntKind.u8 q.c, Value.int IntKind.u8 q.d, Value.int IntKind.u8 q.e, Value.int IntKind.u8 q.f] 31 (0, 0)) (.cells #[.slice Option.none 0 0, .slice Option.none 0 0] 61 (0, 0))
  have kz : Keeps Nil w (((w.alloc (.cells #[.slice pL τ.L.length cL, .slice pS τ.S.length cS] 61 (0, 0))).alloc (.cells #[Value.int IntKind.u8 q.a, Value.int IntKind.u8 q.b, Value.int IntKind.u8 q.c, Value.int IntKind.u8 q.d, Value.int IntKind.u8 q.e, Value.int IntKind.u8 q.f] 31 (0, 0))).alloc (.cells #[.slice Option.none 0 0, .slice Option.none 0 0] 61 (0, 0))) := (((Keeps.refl _ _).alloc _).alloc _).alloc _
  have HA := hid hA
  have HB := hid hB
  have HCB := hid hC
  have KZ := hid kz
  have H := hid (h.keepN kz)
  clear hA hB hC kz h
  by_cases g1 : q.a % 2 = 1
  · have g1' : (q.a.tmod 2 == 1) = true := by rw [tmod_odd _ hq.2.1.1]; simp [g1]
    clear hno g1
    go_enter Try.func51, Try.ntmps51
    go_upto_region 1 with (fail)
    generalize (((w.alloc (.cells #[.slice pL τ.L.length cL, .slice pS τ.S.length cS] 61 (0, 0))).alloc (.cells #[Value.int IntKind.u8 q.a, Value.int IntKind.u8 q.b, Value.int IntKind.u8 q.c, Value.int IntKind.u8 q.d, Value.int IntKind.u8 q.e, Value.int IntKind.u8 q.f] 31 (0, 0))).alloc (.cells #[.slice Option.none 0 0, .slice Option.none 0 0] 61 (0, 0))) = W at *
    generalize hb8 : w.heap.size + 1 + 1 = b8 at *
    generalize hb6 : w.heap.size + 1 = b6 at *
    have HB8 := hid hb8
    have HB6 := hid hb6
    clear hb8 hb6
    obtain ⟨a0, a1⟩ := two_cells HA.out
    obtain ⟨m0, m1, m2, m3, m4, m5⟩ := six_of HB.out
    obtain ⟨z0, z1⟩ := two_cells HCB.out
    obtain ⟨f0, f1⟩ := two_free HCB.out
    go_wp2_with fail
    have HC9 := HCB
    have KZ9 := KZ
    clear a0 a1 m0 m1 m2 m3 m4 m5 z0 z1 f0 f1
    obtain ⟨w9, hw9, hF, k9⟩ := set2 HC9.out (.slice pL τ.L.length cL) (.slice pS τ.S.length cS)
    rw [hw9]
    obtain ⟨y0, y1⟩ := two_cells hF
    refine bodyPost_ret (v := rtab pL τ.L.length cL pS τ.S.length cS) (by simp [results, Try.results51, go_sem, y0, y1]) rfl ?_
    exact ⟨rfl, (KZ9.out).thenAt k9 (by have := HB8.out; have := HB6.out; omega)⟩
  by_cases g2 : port < 8
  · have g1' : (q.a.tmod 2 == 1) = false := by rw [tmod_odd _ hq.2.1.1]; simp [g1]
    have g2' : decide (7 < port) = false := by simp; omega
    by_cases g3 : 1 ≤ q.v
    · have g3' : decide (q.v < 1) = false := by simp; omega
      have g4' : decide (4094 < q.v) = true := by
        have : ¬ q.v ≤ 4094 := fun b => hno ⟨g1, g2, g3, b⟩
        simp; omega
      clear hno g1 g2 g3
      go_enter Try.func51, Try.ntmps51
      go_upto_region 1 with (fail)
      generalize (((w.alloc (.cells #[.slice pL τ.L.length cL, .slice pS τ.S.length cS] 61 (0, 0))).alloc (.cells #[Value.int IntKind.u8 q.a, Value.int IntKind.u8 q.b, Value.int IntKind.u8 q.c, Value.int IntKind.u8 q.d, Value.int IntKind.u8 q.e, Value.int IntKind.u8 q.f] 31 (0, 0))).alloc (.cells #[.slice Option.none 0 0, .slice Option.none 0 0] 61 (0, 0))) = W at *
      generalize hb8 : w.heap.size + 1 + 1 = b8 at *
      generalize hb6 : w.heap.size + 1 = b6 at *
      have HB8 := hid hb8
      have HB6 := hid hb6
      clear hb8 hb6
      obtain ⟨a0, a1⟩ := two_cells HA.out
      obtain ⟨m0, m1, m2, m3, m4, m5⟩ := six_of HB.out
      obtain ⟨z0, z1⟩ := two_cells HCB.out
      obtain ⟨f0, f1⟩ := two_free HCB.out
      go_wp2_with fail
      have HC9 := HCB
      have KZ9 := KZ
      clear a0 a1 m0 m1 m2 m3 m4 m5 z0 z1 f0 f1
      obtain ⟨w9, hw9, hF, k9⟩ := set2 HC9.out (.slice pL τ.L.length cL) (.slice pS τ.S.length cS)
      rw [hw9]
      obtain ⟨y0, y1⟩ := two_cells hF
      refine bodyPost_ret (v := rtab pL τ.L.length cL pS τ.S.length cS) (by simp [results, Try.results51, go_sem, y0, y1]) rfl ?_
      exact ⟨rfl, (KZ9.out).thenAt k9 (by have := HB8.out; have := HB6.out; omega)⟩

    · have g3' : decide (q.v < 1) = true := by simp; omega
      clear hno g1 g2 g3
      go_enter Try.func51, Try.ntmps51
      go_upto_region 1 with (fail)
      generalize (((w.alloc (.cells #[.slice pL τ.L.length cL, .slice pS τ.S.length cS] 61 (0, 0))).alloc (.cells #[Value.int IntKind.u8 q.a, Value.int IntKind.u8 q.b, Value.int IntKind.u8 q.c, Value.int IntKind.u8 q.d, Value.int IntKind.u8 q.e, Value.int IntKind.u8 q.f] 31 (0, 0))).alloc (.cells #[.slice Option.none 0 0, .slice Option.none 0 0] 61 (0, 0))) = W at *
      generalize hb8 : w.heap.size + 1 + 1 = b8 at *
      generalize hb6 : w.heap.size + 1 = b6 at *
      have HB8 := hid hb8
      have HB6 := hid hb6
      clear hb8 hb6
      obtain ⟨a0, a1⟩ := two_cells HA.out
      obtain ⟨m0, m1, m2, m3, m4, m5⟩ := six_of HB.out
      obtain ⟨z0, z1⟩ := two_cells HCB.out
      obtain ⟨f0, f1⟩ := two_free HCB.out
      go_wp2_with fail
      have HC9 := HCB
      have KZ9 := KZ
      clear a0 a1 m0 m1 m2 m3 m4 m5 z0 z1 f0 f1
      obtain ⟨w9, hw9, hF, k9⟩ := set2 HC9.out (.slice pL τ.L.length cL) (.slice pS τ.S.length cS)
      rw [hw9]
      obtain ⟨y0, y1⟩ := two_cells hF
      refine bodyPost_ret (v := rtab pL τ.L.length cL pS τ.S.length cS) (by simp [results, Try.results51, go_sem, y0, y1]) rfl ?_
      exact ⟨rfl, (KZ9.out).thenAt k9 (by have := HB8.out; have := HB6.out; omega)⟩

  · have g1' : (q.a.tmod 2 == 1) = false := by rw [tmod_odd _ hq.2.1.1]; simp [g1]
    have g2' : decide (7 < port) = true := by simp; omega
    clear hno g1 g2
    go_enter Try.func51, Try.ntmps51
    go_upto_region 1 with (fail)
    generalize (((w.alloc (.cells #[.slice pL τ.L.length cL, .slice pS τ.S.length cS] 61 (0, 0))).alloc (.cells #[Value.int IntKind.u8 q.a, Value.int IntKind.u8 q.b, Value.int IntKind.u8 q.c, Value.int IntKind.u8 q.d, Value.int IntKind.u8 q.e, Value.int IntKind.u8 q.f] 31 (0, 0))).alloc (.cells #[.slice Option.none 0 0, .slice Option.none 0 0] 61 (0, 0))) = W at *
    generalize hb8 : w.heap.size + 1 + 1 = b8 at *
    generalize hb6 : w.heap.size + 1 = b6 at *
    have HB8 := hid hb8
    have HB6 := hid hb6
    clear hb8 hb6
    obtain ⟨a0, a1⟩ := two_cells HA.out
    obtain ⟨m0, m1, m2, m3, m4, m5⟩ := six_of HB.out
    obtain ⟨z0, z1⟩ := two_cells HCB.out
    obtain ⟨f0, f1⟩ := two_free HCB.out
    go_wp2_with fail
    have HC9 := HCB
    have KZ9 := KZ
    clear a0 a1 m0 m1 m2 m3 m4 m5 z0 z1 f0 f1
    obtain ⟨w9, hw9, hF, k9⟩ := set2 HC9.out (.slice pL τ.L.length cL) (.slice pS τ.S.length cS)
    rw [hw9]
    obtain ⟨y0, y1⟩ := two_cells hF
    refine bodyPost_ret (v := rtab pL τ.L.length cL pS τ.S.length cS) (by simp [results, Try.results51, go_sem, y0, y1]) rfl ?_
    exact ⟨rfl, (KZ9.out).thenAt k9 (by have := HB8.out; have := HB6.out; omega)⟩


set_option maxHeartbeats 8000000 in
theorem rlearn_static (q : Pl) (hq : q.Ok) (port : Int) (u : Int) (B : Nat) (pL : Option Addr) (cL : Nat) (pS : Option Addr) (cS : Nat) (τ : Tb) (w : World) (h : RT w B pL cL pS cS τ) (hl : τ.S.length ≤ 1000) (hmay : mayLearn q port) (hu : sget τ.S q = some u) :
    Calls Try.prog 51 #[rtab pL τ.L.length cL pS τ.S.length cS, .int .u16 q.v, q.mac, .int .u8 port] w fun e w' => e = .returned (rtab pL τ.L.length cL pS τ.S.length cS) ∧ Keeps Nil w w' := by
  obtain ⟨k, hi, _⟩ := sidx_some hu
  obtain ⟨g1, g2, g3, g4⟩ := hmay
  have g1' : (q.a.tmod 2 == 1) = false := by rw [tmod_odd _ hq.2.1.1]; simp [g1]
  have g2' : decide (7 < port) = false := by simp; omega
  have g3' : decide (q.v < 1) = false := by simp; omega
  have g4' : decide (4094 < q.v) = false := by simp; omega
  clear g1 g2 g3 g4
  obtain ⟨hA, hB, hC⟩ := three_allocs w (.cells #[.slice pL τ.L.length cL, .slice pS τ.S.length cS] 61 (0, 0)) (.cells #[Value.int IntKind.u8 q.a, Value.int IntKind.u8 q.b, Value.int IntKind.u8 q.c, Value.int IntKind.u8 q.d, Value.int IntKind.u8 q.e, Value.int IntKind.u8 q.f] 31 (0, 0)) (.cells #[.slice Option.none 0 0, .slice Option.none 0 0] 61 (0, 0))
  have kz : Keeps Nil w (((w.alloc (.cells #[.slice pL τ.L.length cL, .slice pS τ.S.length cS] 61 (0, 0))).alloc (.cells #[Value.int IntKind.u8 q.a, Value.int IntKind.u8 q.b, Value.int IntKind.u8 q.c, Value.int IntKind.u8 q.d, Value.int IntKind.u8 q.e, Value.int IntKind.u8 q.f] 31 (0, 0))).alloc (.cells #[.slice Option.none 0 0, .slice Option.none 0 0] 61 (0, 0))) := (((Keeps.refl _ _).alloc _).alloc _).alloc _
  have HA := hid hA
  have HB := hid hB
  have HCB := hid hC
  have KZ := hid kz
  have H := hid (h.keepN kz)
  clear hA hB hC kz h
  have HI := hid hi
  clear hi hu
  go_enter Try.func51, Try.ntmps51
  go_upto_region 1 with (fail)
  generalize (((w.alloc (.cells #[.slice pL τ.L.length cL, .slice pS τ.S.length cS] 61 (0, 0))).alloc (.cells #[Value.int IntKind.u8 q.a, Value.int IntKind.u8 q.b, Value.int IntKind.u8 q.c, Value.int IntKind.u8 q.d, Value.int IntKind.u8 q.e, Value.int IntKind.u8 q.f] 31 (0, 0))).alloc (.cells #[.slice Option.none 0 0, .slice Option.none 0 0] 61 (0, 0))) = W at *
  generalize hb8 : w.heap.size + 1 + 1 = b8 at *
  generalize hb6 : w.heap.size + 1 = b6 at *
  have HB8 := hid hb8
  have HB6 := hid hb6
  clear hb8 hb6
  obtain ⟨a0, a1⟩ := two_cells HA.out
  obtain ⟨m0, m1, m2, m3, m4, m5⟩ := six_of HB.out
  obtain ⟨z0, z1⟩ := two_cells HCB.out
  obtain ⟨f0, f1⟩ := two_free HCB.out
  go_wp2_with fail
  refine (static_any q B pL cL pS cS τ _ H.out hl).mono ?_; rintro ee w2 ⟨rfl, k2⟩
  rw [HI.out]
  clear a0 a1 m0 m1 m2 m3 m4 m5 z0 z1 f0 f1
  obtain ⟨a0, a1⟩ := two_cells ((k2.block _ (lt_of_block HA.out) (fun e => e)).trans HA.out)
  obtain ⟨m0, m1, m2, m3, m4, m5⟩ := six_of ((k2.block _ (lt_of_block HB.out) (fun e => e)).trans HB.out)
  have HC9 := hid ((k2.block _ (lt_of_block HCB.out) (fun e => e)).trans HCB.out)
  have KZ9 := hid (KZ.out.trans k2)
  obtain ⟨z0, z1⟩ := two_cells HC9.out
  obtain ⟨f0, f1⟩ := two_free HC9.out
  have hne : b8 ≠ w.heap.size := by have := HB8.out; have := HB6.out; omega
  go_wp2_with fail
  clear a0 a1 m0 m1 m2 m3 m4 m5 z0 z1 f0 f1
  obtain ⟨w9, hw9, hF, k9⟩ := set2 HC9.out (.slice pL τ.L.length cL) (.slice pS τ.S.length cS)
  rw [hw9]
  obtain ⟨y0, y1⟩ := two_cells hF
  refine bodyPost_ret (v := rtab pL τ.L.length cL pS τ.S.length cS) (by simp [results, Try.results51, go_sem, y0, y1]) rfl ?_
  exact ⟨rfl, (KZ9.out).thenAt k9 (by have := HB8.out; have := HB6.out; omega)⟩
end Go.Proofs.Ytcplmdgnldmhbaa
