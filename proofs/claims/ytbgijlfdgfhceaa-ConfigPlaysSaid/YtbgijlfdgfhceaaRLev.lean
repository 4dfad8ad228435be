/-
  Layer 16: the document's table: Levels, Set. Conditions: it lies so; the numbers are in range.
-/
import Derived.Test.YtbgijlfdgfhceaaRTab
import Derived.Test.YtbgijlfdgfhceaaLaw16
import Derived.Deep.RegionHeld3
namespace Go.Proofs.Ytbgijlfdgfhceaa
open Go.RowKit
set_option linter.unusedVariables false
set_option linter.unusedSimpArgs false
set_option maxRecDepth 8000

/-- A bit. -/
def bt (b : BitVec 8) (i : Nat) : Bool := b.getLsbD i
/-- A row of eight Bools. -/
def bcells (b : BitVec 8) : Array Value := #[.bool (bt b 0), .bool (bt b 1), .bool (bt b 2), .bool (bt b 3), .bool (bt b 4), .bool (bt b 5), .bool (bt b 6), .bool (bt b 7)]
theorem bcells_set (b : BitVec 8) (l : Nat) (h : l < 8) : (bcells b).setIfInBounds l (.bool true) = bcells (b ||| B8 (2 ^ ((l : Nat) : Int).toNat)) := by
  have key : ∀ i, i < 8 → (b ||| B8 (2 ^ ((l : Nat) : Int).toNat)).getLsbD i = (b.getLsbD i || decide (l = i)) := fun i hi => by
    rw [BitVec.getLsbD_or, pow8 _ (by omega) (by omega) i hi]
    congr 1
    rw [decide_eq_decide]
    omega
  unfold bcells bt
  rw [key 0 (by omega), key 1 (by omega), key 2 (by omega), key 3 (by omega), key 4 (by omega), key 5 (by omega), key 6 (by omega), key 7 (by omega)]
  rcases (show l = 0 ∨ l = 1 ∨ l = 2 ∨ l = 3 ∨ l = 4 ∨ l = 5 ∨ l = 6 ∨ l = 7 by omega) with e | e | e | e | e | e | e | e <;> subst e <;> simp
theorem lsetV_take {τ : CT} (port vid : Int) (up : Bool) {L : List Me} {k : Nat} {x : Me} (hx : L[k]? = some x) : τ.lsetV port vid up (L.take (k + 1)) = if τ.inB port vid up x then τ.lsetV port vid up (L.take k) ||| B8 (2 ^ (τ.of x).lv.toNat) else τ.lsetV port vid up (L.take k) := by
  have hl := (List.getElem?_eq_some_iff.1 hx).1
  have e : L[k] = x := by rw [List.getElem?_eq_getElem hl] at hx; exact Option.some.inj hx
  unfold CT.lsetV
  rw [List.take_succ_eq_append_getElem hl, List.foldl_append, e]
  rfl
theorem eight_block {w : World} {b : Nat} {c0 c1 c2 c3 c4 c5 c6 c7 : Value} {T : TypeId} (h : w.heap[b]? = some (.cells #[c0, c1, c2, c3, c4, c5, c6, c7] T (0, 0))) :
    w.cell? ⟨b, 0, Option.none⟩ = some c0 ∧ w.cell? ⟨b, 1, Option.none⟩ = some c1 ∧ w.cell? ⟨b, 2, Option.none⟩ = some c2 ∧ w.cell? ⟨b, 3, Option.none⟩ = some c3 ∧ w.cell? ⟨b, 4, Option.none⟩ = some c4 ∧ w.cell? ⟨b, 5, Option.none⟩ = some c5 ∧ w.cell? ⟨b, 6, Option.none⟩ = some c6 ∧ w.cell? ⟨b, 7, Option.none⟩ = some c7 := by
  simp [World.cell?, h]
theorem set8 {w : World} {b : Nat} {T : TypeId} {x0 x1 x2 x3 x4 x5 x6 x7 : Value} (h : w.heap[b]? = some (.cells #[x0, x1, x2, x3, x4, x5, x6, x7] T (0, 0))) (u0 u1 u2 u3 u4 u5 u6 u7 : Value) :
    ∃ w2, ((((((((w.setCell ⟨b, 0, Option.none⟩ u0).setCell ⟨b, 1, Option.none⟩ u1).setCell ⟨b, 2, Option.none⟩ u2).setCell ⟨b, 3, Option.none⟩ u3).setCell ⟨b, 4, Option.none⟩ u4).setCell ⟨b, 5, Option.none⟩ u5).setCell ⟨b, 6, Option.none⟩ u6).setCell ⟨b, 7, Option.none⟩ u7) = w2 ∧ w2.heap[b]? = some (.cells #[u0, u1, u2, u3, u4, u5, u6, u7] T (0, 0)) ∧ Keeps (At b) w w2 := by
  have h0 : (w.setCell ⟨b, 0, Option.none⟩ u0).heap[b]? = some (.cells #[u0, x1, x2, x3, x4, x5, x6, x7] T (0, 0)) := setCell_block h 0 u0
  have h1 : ((w.setCell ⟨b, 0, Option.none⟩ u0).setCell ⟨b, 1, Option.none⟩ u1).heap[b]? = some (.cells #[u0, u1, x2, x3, x4, x5, x6, x7] T (0, 0)) := setCell_block h0 1 u1
  have h2 : (((w.setCell ⟨b, 0, Option.none⟩ u0).setCell ⟨b, 1, Option.none⟩ u1).setCell ⟨b, 2, Option.none⟩ u2).heap[b]? = some (.cells #[u0, u1, u2, x3, x4, x5, x6, x7] T (0, 0)) := setCell_block h1 2 u2
  have h3 : ((((w.setCell ⟨b, 0, Option.none⟩ u0).setCell ⟨b, 1, Option.none⟩ u1).setCell ⟨b, 2, Option.none⟩ u2).setCell ⟨b, 3, Option.none⟩ u3).heap[b]? = some (.cells #[u0, u1, u2, u3, x4, x5, x6, x7] T (0, 0)) := setCell_block h2 3 u3
  have h4 : (((((w.setCell ⟨b, 0, Option.none⟩ u0).setCell ⟨b, 1, Option.none⟩ u1).setCell ⟨b, 2, Option.none⟩ u2).setCell ⟨b, 3, Option.none⟩ u3).setCell ⟨b, 4, Option.none⟩ u4).heap[b]? = some (.cells #[u0, u1, u2, u3, u4, x5, x6, x7] T (0, 0)) := setCell_block h3 4 u4
  have h5 : ((((((w.setCell ⟨b, 0, Option.none⟩ u0).setCell ⟨b, 1, Option.none⟩ u1).setCell ⟨b, 2, Option.none⟩ u2).setCell ⟨b, 3, Option.none⟩ u3).setCell ⟨b, 4, Option.none⟩ u4).setCell ⟨b, 5, Option.none⟩ u5).heap[b]? = some (.cells #[u0, u1, u2, u3, u4, u5, x6, x7] T (0, 0)) := setCell_block h4 5 u5
  have h6 : (((((((w.setCell ⟨b, 0, Option.none⟩ u0).setCell ⟨b, 1, Option.none⟩ u1).setCell ⟨b, 2, Option.none⟩ u2).setCell ⟨b, 3, Option.none⟩ u3).setCell ⟨b, 4, Option.none⟩ u4).setCell ⟨b, 5, Option.none⟩ u5).setCell ⟨b, 6, Option.none⟩ u6).heap[b]? = some (.cells #[u0, u1, u2, u3, u4, u5, u6, x7] T (0, 0)) := setCell_block h5 6 u6
  have h7 : ((((((((w.setCell ⟨b, 0, Option.none⟩ u0).setCell ⟨b, 1, Option.none⟩ u1).setCell ⟨b, 2, Option.none⟩ u2).setCell ⟨b, 3, Option.none⟩ u3).setCell ⟨b, 4, Option.none⟩ u4).setCell ⟨b, 5, Option.none⟩ u5).setCell ⟨b, 6, Option.none⟩ u6).setCell ⟨b, 7, Option.none⟩ u7).heap[b]? = some (.cells #[u0, u1, u2, u3, u4, u5, u6, u7] T (0, 0)) := setCell_block h6 7 u7
  exact ⟨_, rfl, h7, ((((((((Keeps.refl _ _).set _ _ (at_self _) _).set _ _ (at_self _) _).set _ _ (at_self _) _).set _ _ (at_self _) _).set _ _ (at_self _) _).set _ _ (at_self _) _).set _ _ (at_self _) _).set _ _ (at_self _) _⟩
theorem mul_bit (b : BitVec 8) (j : Nat) (hj : j < 8) : ((b >>> (j + 1)).toNat : Int) * 2 + (if b.getLsbD j then 1 else 0) = ((b >>> j).toNat : Int) ∧ ((b >>> (j + 1)).toNat : Int) * 2 ≤ 254 := by
  have key : ∀ (n : Fin 256) (q : Fin 8), (((BitVec.ofNat 8 n) >>> ((q : Nat) + 1)).toNat : Int) * 2 + (if (BitVec.ofNat 8 n).getLsbD q then 1 else 0) = (((BitVec.ofNat 8 n) >>> (q : Nat)).toNat : Int) ∧ (((BitVec.ofNat 8 n) >>> ((q : Nat) + 1)).toNat : Int) * 2 ≤ 254 := by decide +kernel
  have := key ⟨b.toNat, b.isLt⟩ ⟨j, hj⟩
  simpa using this
theorem bcells_at (b : BitVec 8) (j : Nat) (hj : j < 8) : (bcells b)[j]? = some (.bool (bt b j)) := by
  rcases (show j = 0 ∨ j = 1 ∨ j = 2 ∨ j = 3 ∨ j = 4 ∨ j = 5 ∨ j = 6 ∨ j = 7 by omega) with e | e | e | e | e | e | e | e <;> subst e <;> rfl
set_option maxHeartbeats 4000000 in
theorem r_set (b : BitVec 8) (w : World) : Calls Try.prog 29 #[.agg (bcells b)] w fun e w' => e = .returned (.int .u8 (b.toNat : Int)) ∧ Keeps Nil w w' := by
  have hA := alloc_block w (.cells (bcells b) 81 (0, 0))
  have kz : Keeps Nil w (w.alloc (.cells (bcells b) 81 (0, 0))) := (Keeps.refl _ _).alloc _
  have hc : ∀ j, j < 8 → (w.alloc (.cells (bcells b) 81 (0, 0))).cell? ⟨w.heap.size, j, Option.none⟩ = some (.bool (bt b j)) := fun j hj => by
    have := bcells_at b j hj
    simp only [World.cell?, hA]
    exact this
  have hA := lt_of_block hA
  have HC := hid hc
  have KZ := hid kz
  have hz : b >>> 8 = 0#8 := by
    have key : ∀ n : Fin 256, (BitVec.ofNat 8 n) >>> 8 = 0#8 := by decide +kernel
    have := key ⟨b.toNat, b.isLt⟩
    simpa using this
  have HZ := hid hz
  clear hc kz hz
  unfold bcells at *
  go_enter Try.func29, Try.ntmps29
  go_upto_region 1 with (fail)
  generalize (w.alloc (.cells #[.bool (bt b 0), .bool (bt b 1), .bool (bt b 2), .bool (bt b 3), .bool (bt b 4), .bool (bt b 5), .bool (bt b 6), .bool (bt b 7)] 81 (0, 0))) = W at *
  generalize w.heap.size = b0 at *
  go_wp2_with fail
  go_loop [3, 4] (fun s3 s4 => ∃ (j : Nat) (z : Int), j ≤ 8 ∧ s4 = .int .i64 ((j : Int) - 1) ∧ s3 = .int .u8 z ∧ Hid (z = ((b >>> j).toNat : Int))) (fun _ s4 => (intOf s4 + 1).toNat)
  case atStart => exact ⟨8, 0, by omega, rfl, rfl, hid (by rw [HZ.out]; rfl)⟩
  case round =>
    obtain ⟨j, z, hj, rfl, rfl, hzz⟩ := hrel
    rcases j with _ | j
    · have h0 : ¬ ((0 : Nat) : Int) - 1 ≥ 0 := by omega
      have e0 : (((0 : Nat) : Int) - 1) = -1 := rfl
      rw [e0]
      clear h0 e0
      go_wp2_with fail
      go_ret
      exact ⟨by rw [hzz.out]; simp, KZ.out⟩
    · have hm := mul_bit b j (by omega)
      rw [show b.getLsbD j = bt b j from rfl] at hm
      rw [show (((j + 1 : Nat) : Int) - 1) = (j : Int) from by omega]
      have hcj := HC.out j (by omega)
      have hb0 : (0 : Int) ≤ ((b >>> (j + 1)).toNat : Int) := by omega
      rw [← hzz.out] at hm hb0
      have HM := hid hm.1
      have hz2 : z * 2 ≤ 254 := hm.2
      clear hm
      cases hq : bt b j with
      | true =>
        have HM2 := hid (show z * 2 + 1 = ((b >>> j).toNat : Int) by have := HM.out; rw [hq] at this; simpa using this)
        rw [hq] at hcj
        clear hq
        go_wp2_with fail
        go_round
        case rel => exact ⟨j, _, by omega, rfl, rfl, hid (by rw [← HM2.out])⟩
        case measure => simp only [intOf]; omega
      | false =>
        have HM2 := hid (show z * 2 = ((b >>> j).toNat : Int) by have := HM.out; rw [hq] at this; simpa using this)
        rw [hq] at hcj
        clear hq
        go_wp2_with fail
        go_round
        case rel => exact ⟨j, _, by omega, rfl, rfl, hid (by rw [← HM2.out])⟩
        case measure => simp only [intOf]; omega
set_option maxHeartbeats 8000000 in
theorem r_levels (p v : Int) (up : Bool) (hpv : ALv p v) (k : Nat) {w0 w : World} {τ : CT} {x : Value} (h : RV w0 w k τ x) (hg : τ.Good) :
    Calls Try.prog 30 #[x, .int .u8 p, .int .u16 v, .bool up] w fun e w' => e = .returned (.agg (bcells (τ.lsetV p v up τ.E))) ∧ Keeps Nil w w' := by
  obtain ⟨pA, cA, pE, cE, pM, cM, L, R, rfl, h⟩ := h
  obtain ⟨hA, hB, hC⟩ := three_alloc w (.cells #[.int .i64 τ.n, .slice pA L.length cA, .slice pE τ.E.length cE, .slice pM R.length cM] 34 (0, 0)) (.cells #[.bool false, .bool false, .bool false, .bool false, .bool false, .bool false, .bool false, .bool false] 81 (0, 0)) (.cells #[.bool false, .bool false, .bool false, .bool false, .bool false, .bool false, .bool false, .bool false] 81 (0, 0))
  have kz : Keeps Nil w (((w.alloc (.cells #[.int .i64 τ.n, .slice pA L.length cA, .slice pE τ.E.length cE, .slice pM R.length cM] 34 (0, 0))).alloc (.cells #[.bool false, .bool false, .bool false, .bool false, .bool false, .bool false, .bool false, .bool false] 81 (0, 0))).alloc (.cells #[.bool false, .bool false, .bool false, .bool false, .bool false, .bool false, .bool false, .bool false] 81 (0, 0))) := (((Keeps.refl _ _).alloc _).alloc _).alloc _
  have KZ := hid kz
  have H0 := hid h
  have HG := hid hg
  have hlen := hg.E
  have hncE := h.rowE.2.1
  have hncA := h.rowA.2.1
  have HA := hid hA
  have HB0 := hid hB
  have HC0 := hid hC
  clear kz h hg hA hB hC
  go_enter Try.func30, Try.ntmps30
  go_upto_region 2 with (fail)
  generalize (((w.alloc (.cells #[.int .i64 τ.n, .slice pA L.length cA, .slice pE τ.E.length cE, .slice pM R.length cM] 34 (0, 0))).alloc (.cells #[.bool false, .bool false, .bool false, .bool false, .bool false, .bool false, .bool false, .bool false] 81 (0, 0))).alloc (.cells #[.bool false, .bool false, .bool false, .bool false, .bool false, .bool false, .bool false, .bool false] 81 (0, 0))) = W at *
  generalize hb2 : w.heap.size + 1 + 1 = b2 at *
  generalize hb1 : w.heap.size + 1 = b1 at *
  have HB1 := hid hb1
  have HB2 := hid hb2
  have hbW : w.heap.size < W.heap.size ∧ b1 < W.heap.size ∧ b2 < W.heap.size := ⟨lt_of_block HA.out, lt_of_block HB0.out, lt_of_block HC0.out⟩
  have hne : b1 ≠ b2 := by omega
  have hbs : w.heap.size < b1 ∧ b1 < b2 := by omega
  have HW := hid hbW
  clear hb1 hb2 hbW
  go_wp2_with fail
  go_loopw [10] (fun s10 wr => ∃ j : Nat, j ≤ τ.E.length ∧ s10 = .int .i64 j ∧ Hid (Keeps Nil w wr ∧ Keeps (At b2) W wr ∧ wr.heap[b2]? = some (.cells (bcells (τ.lsetV p v up (τ.E.take j))) 81 (0, 0)))) (fun s10 _ => τ.E.length - (intOf s10).toNat)
  case atStart => exact ⟨0, Nat.zero_le _, rfl, hid ⟨KZ.out, Keeps.refl _ _, by rw [show bcells (τ.lsetV p v up (τ.E.take 0)) = #[.bool false, .bool false, .bool false, .bool false, .bool false, .bool false, .bool false, .bool false] from by rw [List.take_zero]; simp [bcells, bt, CT.lsetV]]; exact HC0.out⟩⟩
  case round =>
    obtain ⟨j, hj, rfl, HR⟩ := hrel
    have H := hid (H0.out.keepN HR.out.1)
    have hA := HR.out.2.1.lies HA.out (fun e => by rw [At] at e; omega)
    obtain ⟨a0, a1, a2, a3⟩ := four_block hA
    have lA := lt_of_block hA
    by_cases hlt : j < τ.E.length
    · obtain ⟨y, hy⟩ : ∃ y, τ.E[j]? = some y := ⟨_, List.getElem?_eq_getElem hlt⟩
      obtain ⟨g, off, hp, _, hgl, _, c0, c1, c2, c3⟩ := H.out.rowE.atE hy
      subst hp
      obtain ⟨i, z, hi, hz, hil, hzv, hzl, hzb⟩ := H.out.ofE HG.out (List.mem_of_getElem? hy)
      obtain ⟨g', off', hp', _, hgl', _, d0, d1, d2, d3, d4, d5⟩ := H.out.rowA.atA hz
      subst hp'
      have hms := H.out.ms HG.out (List.mem_of_getElem? hz)
      obtain ⟨l, hl⟩ : ∃ l : Nat, z.lv = (l : Int) := ⟨z.lv.toNat, by omega⟩
      have hl7 : l < 8 := by omega
      rw [hi] at c0
      rw [hl] at d0
      have HL := hid (hzl.trans hl)
      have HV := hid hzv
      have HY := hid hy
      have hsz : HR.out.1.size = HR.out.1.size := rfl
      have K := hid (And.intro HR.out.1 HR.out.2.1)
      have hD := HR.out.2.2
      have HD := hid hD
      have hin := show τ.inB p v up y = (decide (y.port = p) && decide (z.vid = v) && (y.up == up)) by unfold CT.inB; rw [hzv]
      have HIN := hid hin
      have HA2 := hid hA
      have hil' : (i : Int) < (L.length : Int) := by omega
      have hS : ∀ X, Keeps Nil wr X → X.cell? ⟨w.heap.size, 1, Option.none⟩ = some (.slice (some ⟨g', off', Option.none⟩) L.length cA) ∧ X.cell? ⟨w.heap.size, 2, Option.none⟩ = some (.slice (some ⟨g, off, Option.none⟩) τ.E.length cE) ∧ X.cell? ⟨g, off + j * 4, Option.none⟩ = some (.int .i64 (i : Int)) ∧ X.cell? ⟨g', off' + i * 6, Option.none⟩ = some (.int .u8 (l : Int)) ∧ X.cell? ⟨g', off' + i * 6 + 1, Option.none⟩ = some (.string z.dom) ∧ X.cell? ⟨g', off' + i * 6 + 2, Option.none⟩ = some (.string z.own) ∧ X.cell? ⟨g', off' + i * 6 + 3, Option.none⟩ = some (.int .u16 z.vid) ∧ X.cell? ⟨g', off' + i * 6 + 4, Option.none⟩ = some (.int .u8 z.iv) ∧ X.cell? ⟨g', off' + i * 6 + 5, Option.none⟩ = some (.slice z.p z.ms.length z.c) := fun X kx =>
        ⟨(kx.cell lA (fun e => e)).trans a1, (kx.cell lA (fun e => e)).trans a2, (kx.cell hgl (fun e => e)).trans c0, (kx.cell hgl' (fun e => e)).trans d0, (kx.cell hgl' (fun e => e)).trans d1, (kx.cell hgl' (fun e => e)).trans d2, (kx.cell hgl' (fun e => e)).trans d3, (kx.cell hgl' (fun e => e)).trans d4, (kx.cell hgl' (fun e => e)).trans d5⟩
      have HS := hid hS
      clear hy hi hz hzv hzl hzb hl hD hin hA hms hsz HR hS
      have HE2 := hid (show ∀ X, Keeps Nil wr X → X.cell? ⟨g, off + j * 4 + 2, Option.none⟩ = some (.int .u8 y.port) ∧ X.cell? ⟨g, off + j * 4 + 3, Option.none⟩ = some (.bool y.up) from fun X kx => ⟨(kx.cell hgl (fun e => e)).trans c2, (kx.cell hgl (fun e => e)).trans c3⟩)
      go_wp2_with fail
      go_cut [11] (fun s11 wx => ∃ b, s11 = .pointer (some ⟨b, 0, Option.none⟩) ∧ Hid (wx.heap[b]? = some (.cells #[.int .u8 (l : Int), .string z.dom, .string z.own, .int .u16 z.vid, .int .u8 z.iv, .slice z.p z.ms.length z.c] 37 (0, 0)) ∧ Keeps Nil wr wx))
      case first =>
        go_region_held3 (fun X => X.cell? ⟨w.heap.size, 1, Option.none⟩ = some (.slice (some ⟨g', off', Option.none⟩) L.length cA) ∧ X.cell? ⟨w.heap.size, 2, Option.none⟩ = some (.slice (some ⟨g, off, Option.none⟩) τ.E.length cE) ∧ X.cell? ⟨g, off + j * 4, Option.none⟩ = some (.int .i64 (i : Int)) ∧ X.cell? ⟨g', off' + i * 6, Option.none⟩ = some (.int .u8 (l : Int)) ∧ X.cell? ⟨g', off' + i * 6 + 1, Option.none⟩ = some (.string z.dom) ∧ X.cell? ⟨g', off' + i * 6 + 2, Option.none⟩ = some (.string z.own) ∧ X.cell? ⟨g', off' + i * 6 + 3, Option.none⟩ = some (.int .u16 z.vid) ∧ X.cell? ⟨g', off' + i * 6 + 4, Option.none⟩ = some (.int .u8 z.iv) ∧ X.cell? ⟨g', off' + i * 6 + 5, Option.none⟩ = some (.slice z.p z.ms.length z.c)) ((refine HS.out _ ?_; repeat' (first | exact Keeps.refl _ _ | refine Keeps.drew ?_ | refine Keeps.alloc ?_ _ | refine Keeps.setCell ?_ (fun h => absurd h (Nat.lt_irrefl _)) _))) (fail)
        all_goals (go_wp2_with fail; go_meet)
        exact ⟨_, rfl, hid ⟨alloc_block wr _, ((Keeps.refl _ _).alloc _).drew⟩⟩
      case rest =>
        obtain ⟨b, rfl, HC⟩ := hcut
        obtain ⟨a0', a1', a2', a3'⟩ := four_block (HC.out.2.lies HA2.out)
        have lA' := lt_of_block (HC.out.2.lies HA2.out)
        obtain ⟨e2, e3⟩ := HE2.out wc HC.out.2
        have hgc : g < wc.heap.size := Nat.lt_of_lt_of_le hgl HC.out.2.size
        obtain ⟨z0, z1, z2, z3, z4, z5⟩ := six_block HC.out.1
        have lz := lt_of_block HC.out.1
        have hD := HC.out.2.lies HD.out
        have hq : wc.cell? ⟨b2, l, Option.none⟩ = some (.bool (bt (τ.lsetV p v up (τ.E.take j)) l)) := by
          have h1 := bcells_at (τ.lsetV p v up (τ.E.take j)) l hl7
          simp only [World.cell?, hD]
          exact h1
        have hqf := free_block hD l
        have lq := lt_of_block hD
        have KD := hid (And.intro (K.out.1.trans HC.out.2) (K.out.2.trans' HC.out.2 (fun _ _ e => e.elim)))
        have HD2 := hid hD
        have next : τ.inB p v up y = false → Hid (Keeps Nil w wc ∧ Keeps (At b2) W wc ∧ wc.heap[b2]? = some (.cells (bcells (τ.lsetV p v up (τ.E.take (j + 1)))) 81 (0, 0))) := fun hf => hid ⟨KD.out.1, KD.out.2, by rw [lsetV_take _ _ _ HY.out, hf]; exact HD2.out⟩
        have NX := hid next
        clear next hD a1 a2 a0 a3 lA c0 c1 c2 c3 d0 d1 d2 d3 d4 d5
        cases q1 : (y.port == p) with
        | false =>
          have HF := NX.out (by rw [HIN.out]; simp at q1; simp [q1])
          go_wp2_with fail
          go_roundw
          case rel => exact ⟨j + 1, by omega, by go_num, HF⟩
          case measure => simp only [intOf]; omega
        | true =>
          cases q2 : (z.vid == v) with
          | false =>
            have HF := NX.out (by rw [HIN.out]; simp at q2; simp [q2])
            go_wp2_with fail
            go_roundw
            case rel => exact ⟨j + 1, by omega, by go_num, HF⟩
            case measure => simp only [intOf]; omega
          | true =>
            cases q3 : (y.up == up) with
            | false =>
              have HF := NX.out (by rw [HIN.out, q3]; simp)
              go_wp2_with fail
              go_roundw
              case rel => exact ⟨j + 1, by omega, by go_num, HF⟩
              case measure => simp only [intOf]; omega
            | true =>
              have HT := hid (show τ.inB p v up y = true by rw [HIN.out, q3]; simp at q1 q2; simp [q1, q2])
              go_wp2_with fail
              go_roundw
              case rel =>
                have kq : Keeps (At b2) wc (wc.setCell ⟨b2, l, Option.none⟩ (.bool true)) := (Keeps.refl _ _).set _ _ (at_self _) _
                refine ⟨j + 1, by omega, by go_num, hid ⟨KD.out.1.thenAt kq (by omega), KD.out.2.trans kq, ?_⟩⟩
                rw [lsetV_take _ _ _ HY.out, HT.out, if_pos rfl, HL.out, ← bcells_set _ _ hl7]
                exact setCell_block HD2.out l _
              case measure => simp only [intOf]; omega
    · obtain rfl : j = τ.E.length := by omega
      have h9 := HR.out.2.2
      rw [List.take_length] at h9
      have KK := hid HR.out.1
      have KW := hid HR.out.2.1
      have h8 := KW.out.lies HB0.out (fun e => by rw [At] at e; exact hne e)
      clear hlt
      obtain ⟨r, hr⟩ : ∃ r, r = τ.lsetV p v up τ.E := ⟨_, rfl⟩
      rw [← hr] at h9
      have HRR := hid hr
      clear hr
      unfold bcells at h9
      obtain ⟨r0, r1, r2, r3, r4, r5, r6, r7⟩ := eight_block h9
      obtain ⟨q0, q1, q2, q3, q4, q5, q6, q7⟩ := eight_block h8
      have l9 := lt_of_block h9
      have l8 := lt_of_block h8
      have hf8 : ∀ q, wr.frozen? ⟨b1, q, Option.none⟩ = false := fun q => free_block h8 q
      have H8 := hid h8
      clear h8 h9 HR
      go_wp2_with fail
      obtain ⟨w2, hw2, hF, k2⟩ := set8 H8.out (.bool (bt r 0)) (.bool (bt r 1)) (.bool (bt r 2)) (.bool (bt r 3)) (.bool (bt r 4)) (.bool (bt r 5)) (.bool (bt r 6)) (.bool (bt r 7))
      rw [hw2]
      obtain ⟨y0, y1, y2, y3, y4, y5, y6, y7⟩ := eight_block hF
      clear r0 r1 r2 r3 r4 r5 r6 r7 q0 q1 q2 q3 q4 q5 q6 q7 hf8 hw2
      have KF := hid (KK.out.thenAt k2 (by omega))
      refine bodyPost_ret (v := .agg (bcells r)) (by simp [results, Try.results30, go_sem, y0, y1, y2, y3, y4, y5, y6, y7, bcells]) rfl ⟨by rw [HRR.out], KF.out⟩
end Go.Proofs.Ytbgijlfdgfhceaa
