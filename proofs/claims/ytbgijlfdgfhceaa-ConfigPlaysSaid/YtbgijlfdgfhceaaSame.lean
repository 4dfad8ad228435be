/-
  Layer 16: the test of AddMep. Conditions: the table lies so; the end point's association is there.
-/
import Derived.Test.YtbgijlfdgfhceaaTbl
import Derived.Deep.RegionHeld3
import Derived.BigRegion
import Derived.RegionTactic
namespace Go.Proofs.Ytbgijlfdgfhceaa
open Go.RowKit
set_option linter.unusedVariables false
set_option linter.unusedSimpArgs false

def zeroA : As := ⟨0, ⟨#[]⟩, ⟨#[]⟩, 0, 0, [], Option.none, 0⟩
/-- An end point's association. -/
def CT.of (τ : CT) (x : Me) : As := τ.A.getD x.ai.toNat zeroA
/-- Is an end point there already, by number, or by level and way? -/
def addB (b : As) (m : Me) (a : As) (x : Me) : Bool := (decide (x.ai = m.ai) && decide (x.id = m.id)) || (decide (x.port = m.port) && decide (x.up = m.up) && decide (b.vid = a.vid) && decide (b.lv = a.lv))
theorem bare_vid (x : As) : x.bare.vid = x.vid := rfl
theorem bare_lv (x : As) : x.bare.lv = x.lv := rfl

set_option maxRecDepth 8000 in
set_option maxHeartbeats 4000000 in
theorem add_test (x m : Me) (b a : As) (b0 b1 b2 t : Nat) (n : Int) (pa : Option Addr) (la ca g off : Nat) (c2 c3 : Value) (w : World)
    (h0 : w.heap[b0]? = some (.cells #[.pointer (some ⟨t, 0, Option.none⟩)] 26 (0, 0))) (h1 : w.heap[b1]? = some (.cells #[.int .i64 m.ai, .int .u16 m.id, .int .u8 m.port, .bool m.up] 59 (0, 0)))
    (h2 : w.heap[b2]? = some (.cells #[.int .u8 a.lv, .string a.dom, .string a.own, .int .u16 a.vid, .int .u8 a.iv, .slice a.p a.ms.length a.c] 50 (0, 0)))
    (ht : w.heap[t]? = some (.cells #[.int .i64 n, .slice (some ⟨g, off, Option.none⟩) la ca, c2, c3] 69 (0, 0))) (k : Nat) (hx : x.ai = (k : Int)) (hk : k < la) (hc : la ≤ ca) (hm : ca ≤ 9223372036854775807) (hg : g < w.heap.size)
    (d0 : w.cell? ⟨g, off + k * 6, Option.none⟩ = some (.int .u8 b.lv)) (d1 : w.cell? ⟨g, off + k * 6 + 1, Option.none⟩ = some (.string b.dom)) (d2 : w.cell? ⟨g, off + k * 6 + 2, Option.none⟩ = some (.string b.own))
    (d3 : w.cell? ⟨g, off + k * 6 + 3, Option.none⟩ = some (.int .u16 b.vid)) (d4 : w.cell? ⟨g, off + k * 6 + 4, Option.none⟩ = some (.int .u8 b.iv)) (d5 : w.cell? ⟨g, off + k * 6 + 5, Option.none⟩ = some (.slice b.p b.ms.length b.c)) :
    Calls Try.prog 39 #[.agg #[.int .i64 x.ai, .int .u16 x.id, .int .u8 x.port, .bool x.up], .pointer (some ⟨b0, 0, Option.none⟩), .pointer (some ⟨b1, 0, Option.none⟩), .pointer (some ⟨b2, 0, Option.none⟩)] w fun e w' => e = .returned (.bool (addB b m a x)) ∧ Keeps Nil w w' := by
  obtain ⟨ai, id, po, up⟩ := x
  simp only at hx
  subst hx
  have H1 := hid h1
  have H2 := hid h2
  have H0 := hid h0
  have l0 := lt_of_block h0
  have l1 := lt_of_block h1
  have l2 := lt_of_block h2
  have lt := lt_of_block ht
  obtain ⟨m0, m1, m2, m3⟩ := four_block h1
  obtain ⟨a0, a1, a2, a3, a4, a5⟩ := six_block h2
  obtain ⟨t0, t1, t2, t3⟩ := four_block ht
  have p0 : w.cell? ⟨b0, 0, Option.none⟩ = some (.pointer (some ⟨t, 0, Option.none⟩)) := by simp [World.cell?, h0]
  clear h0 h1 h2 ht
  by_cases e1 : (k : Int) = m.ai
  · by_cases e2 : id = m.id
    · have HN := hid (show addB b m a ⟨k, id, po, up⟩ = true by simp [addB, e1, e2])
      have HB : (((k : Int) == m.ai) = true) ∧ ((id == m.id) = true) := ⟨by simp [e1], by simp [e2]⟩
      obtain ⟨qe1, qe2⟩ := HB
      clear e1 e2
      go_enter Try.func39, Try.ntmps39
      go_wp2_with fail
      go_region
      all_goals
        go_wp2_with fail
        go_ret
        exact ⟨by rw [HN.out]; rfl, (((Keeps.refl _ _).alloc _).alloc _).drew⟩
    · by_cases e3 : po = m.port
      · by_cases e4 : up = m.up
        · by_cases e5 : b.vid = a.vid
          · by_cases e6 : b.lv = a.lv
            · have HN := hid (show addB b m a ⟨k, id, po, up⟩ = true by simp [addB, e1, e2, e3, e4, e5, e6])
              have HB : (((k : Int) == m.ai) = true) ∧ ((id == m.id) = false) ∧ ((po == m.port) = true) ∧ ((up == m.up) = true) ∧ ((b.vid == a.vid) = true) ∧ ((b.lv == a.lv) = true) := ⟨by simp [e1], by simp [e2], by simp [e3], by simp [e4], by simp [e5], by simp [e6]⟩
              obtain ⟨qe1, qe2, qe3, qe4, qe5, qe6⟩ := HB
              clear e1 e2 e3 e4 e5 e6
              go_enter Try.func39, Try.ntmps39
              go_wp2_with fail
              go_region
              all_goals
                go_wp2_with fail
                go_ret
                exact ⟨by rw [HN.out]; rfl, (((Keeps.refl _ _).alloc _).alloc _).drew⟩
            · have HN := hid (show addB b m a ⟨k, id, po, up⟩ = false by simp [addB, e1, e2, e3, e4, e5, e6])
              have HB : (((k : Int) == m.ai) = true) ∧ ((id == m.id) = false) ∧ ((po == m.port) = true) ∧ ((up == m.up) = true) ∧ ((b.vid == a.vid) = true) ∧ ((b.lv == a.lv) = false) := ⟨by simp [e1], by simp [e2], by simp [e3], by simp [e4], by simp [e5], by simp [e6]⟩
              obtain ⟨qe1, qe2, qe3, qe4, qe5, qe6⟩ := HB
              clear e1 e2 e3 e4 e5 e6
              go_enter Try.func39, Try.ntmps39
              go_wp2_with fail
              go_region
              all_goals
                go_wp2_with fail
                go_ret
                exact ⟨by rw [HN.out]; rfl, (((Keeps.refl _ _).alloc _).alloc _).drew⟩
          · have HN := hid (show addB b m a ⟨k, id, po, up⟩ = false by simp [addB, e1, e2, e3, e4, e5])
            have HB : (((k : Int) == m.ai) = true) ∧ ((id == m.id) = false) ∧ ((po == m.port) = true) ∧ ((up == m.up) = true) ∧ ((b.vid == a.vid) = false) := ⟨by simp [e1], by simp [e2], by simp [e3], by simp [e4], by simp [e5]⟩
            obtain ⟨qe1, qe2, qe3, qe4, qe5⟩ := HB
            clear e1 e2 e3 e4 e5
            go_enter Try.func39, Try.ntmps39
            go_wp2_with fail
            go_region
            all_goals
              go_wp2_with fail
              go_ret
              exact ⟨by rw [HN.out]; rfl, (((Keeps.refl _ _).alloc _).alloc _).drew⟩
        · have HN := hid (show addB b m a ⟨k, id, po, up⟩ = false by simp [addB, e1, e2, e3, e4])
          have HB : (((k : Int) == m.ai) = true) ∧ ((id == m.id) = false) ∧ ((po == m.port) = true) ∧ ((up == m.up) = false) := ⟨by simp [e1], by simp [e2], by simp [e3], by simp [e4]⟩
          obtain ⟨qe1, qe2, qe3, qe4⟩ := HB
          clear e1 e2 e3 e4
          go_enter Try.func39, Try.ntmps39
          go_wp2_with fail
          go_region
          all_goals
            go_wp2_with fail
            go_ret
            exact ⟨by rw [HN.out]; rfl, (((Keeps.refl _ _).alloc _).alloc _).drew⟩
      · have HN := hid (show addB b m a ⟨k, id, po, up⟩ = false by simp [addB, e1, e2, e3])
        have HB : (((k : Int) == m.ai) = true) ∧ ((id == m.id) = false) ∧ ((po == m.port) = false) := ⟨by simp [e1], by simp [e2], by simp [e3]⟩
        obtain ⟨qe1, qe2, qe3⟩ := HB
        clear e1 e2 e3
        go_enter Try.func39, Try.ntmps39
        go_wp2_with fail
        go_region
        all_goals
          go_wp2_with fail
          go_ret
          exact ⟨by rw [HN.out]; rfl, (((Keeps.refl _ _).alloc _).alloc _).drew⟩
  · by_cases e3 : po = m.port
    · by_cases e4 : up = m.up
      · by_cases e5 : b.vid = a.vid
        · by_cases e6 : b.lv = a.lv
          · have HN := hid (show addB b m a ⟨k, id, po, up⟩ = true by simp [addB, e1, e3, e4, e5, e6])
            have HB : (((k : Int) == m.ai) = false) ∧ ((po == m.port) = true) ∧ ((up == m.up) = true) ∧ ((b.vid == a.vid) = true) ∧ ((b.lv == a.lv) = true) := ⟨by simp [e1], by simp [e3], by simp [e4], by simp [e5], by simp [e6]⟩
            obtain ⟨qe1, qe3, qe4, qe5, qe6⟩ := HB
            clear e1 e3 e4 e5 e6
            go_enter Try.func39, Try.ntmps39
            go_wp2_with fail
            go_region
            all_goals
              go_wp2_with fail
              go_ret
              exact ⟨by rw [HN.out]; rfl, (((Keeps.refl _ _).alloc _).alloc _).drew⟩
          · have HN := hid (show addB b m a ⟨k, id, po, up⟩ = false by simp [addB, e1, e3, e4, e5, e6])
            have HB : (((k : Int) == m.ai) = false) ∧ ((po == m.port) = true) ∧ ((up == m.up) = true) ∧ ((b.vid == a.vid) = true) ∧ ((b.lv == a.lv) = false) := ⟨by simp [e1], by simp [e3], by simp [e4], by simp [e5], by simp [e6]⟩
            obtain ⟨qe1, qe3, qe4, qe5, qe6⟩ := HB
            clear e1 e3 e4 e5 e6
            go_enter Try.func39, Try.ntmps39
            go_wp2_with fail
            go_region
            all_goals
              go_wp2_with fail
              go_ret
              exact ⟨by rw [HN.out]; rfl, (((Keeps.refl _ _).alloc _).alloc _).drew⟩
        · have HN := hid (show addB b m a ⟨k, id, po, up⟩ = false by simp [addB, e1, e3, e4, e5])
          have HB : (((k : Int) == m.ai) = false) ∧ ((po == m.port) = true) ∧ ((up == m.up) = true) ∧ ((b.vid == a.vid) = false) := ⟨by simp [e1], by simp [e3], by simp [e4], by simp [e5]⟩
          obtain ⟨qe1, qe3, qe4, qe5⟩ := HB
          clear e1 e3 e4 e5
          go_enter Try.func39, Try.ntmps39
          go_wp2_with fail
          go_region
          all_goals
            go_wp2_with fail
            go_ret
            exact ⟨by rw [HN.out]; rfl, (((Keeps.refl _ _).alloc _).alloc _).drew⟩
      · have HN := hid (show addB b m a ⟨k, id, po, up⟩ = false by simp [addB, e1, e3, e4])
        have HB : (((k : Int) == m.ai) = false) ∧ ((po == m.port) = true) ∧ ((up == m.up) = false) := ⟨by simp [e1], by simp [e3], by simp [e4]⟩
        obtain ⟨qe1, qe3, qe4⟩ := HB
        clear e1 e3 e4
        go_enter Try.func39, Try.ntmps39
        go_wp2_with fail
        go_region
        all_goals
          go_wp2_with fail
          go_ret
          exact ⟨by rw [HN.out]; rfl, (((Keeps.refl _ _).alloc _).alloc _).drew⟩
    · have HN := hid (show addB b m a ⟨k, id, po, up⟩ = false by simp [addB, e1, e3])
      have HB : (((k : Int) == m.ai) = false) ∧ ((po == m.port) = false) := ⟨by simp [e1], by simp [e3]⟩
      obtain ⟨qe1, qe3⟩ := HB
      clear e1 e3
      go_enter Try.func39, Try.ntmps39
      go_wp2_with fail
      go_region
      all_goals
        go_wp2_with fail
        go_ret
        exact ⟨by rw [HN.out]; rfl, (((Keeps.refl _ _).alloc _).alloc _).drew⟩

end Go.Proofs.Ytbgijlfdgfhceaa
