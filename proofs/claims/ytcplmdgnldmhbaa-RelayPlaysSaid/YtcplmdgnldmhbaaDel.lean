/-
  Layer 8: slices.DeleteFunc over entries, by each kind of test. Conditions: the entries lie in their row.
-/
import Derived.Test.YtcplmdgnldmhbaaDel0
namespace Go.Proofs.Ytcplmdgnldmhbaa
open Go.RowKit
set_option linter.unusedVariables false

theorem zero64 (w : World) : (zeroValue 95).run Try.prog w = .ok (.agg #[.int .u16 0, .int .u8 0, .int .u8 0, .int .u8 0, .int .u8 0, .int .u8 0, .int .u8 0, .int .u8 0, .int .i64 0]) w := by kernel_rfl
theorem zcells_one (n : Nat) : ∀ v ∈ (Builtin.zeroCells (Value.agg #[.int .u16 0, .int .u8 0, .int .u8 0, .int .u8 0, .int .u8 0, .int .u8 0, .int .u8 0, .int .u8 0, .int .i64 0]).cells n).toList, v.oneCell' = true := by
  intro v hv
  simp [Builtin.zeroCells, Value.cells] at hv
  obtain ⟨a, ha, rfl⟩ := hv
  have : a % 9 < 9 := Nat.mod_lt _ (by omega)
  have hc : a % 9 = 0 ∨ a % 9 = 1 ∨ a % 9 = 2 ∨ a % 9 = 3 ∨ a % 9 = 4 ∨ a % 9 = 5 ∨ a % 9 = 6 ∨ a % 9 = 7 ∨ a % 9 = 8 := by omega
  rcases hc with h | h | h | h | h | h | h | h | h <;> simp [h, Value.oneCell']

theorem nine_of {w : World} {b : Nat} {T : TypeId} {x0 x1 x2 x3 x4 x5 x6 x7 x8 : Value} (h : w.heap[b]? = some (.cells #[x0, x1, x2, x3, x4, x5, x6, x7, x8] T (0, 0))) :
    w.cell? ⟨b, 0, Option.none⟩ = some x0 ∧ w.cell? ⟨b, 1, Option.none⟩ = some x1 ∧ w.cell? ⟨b, 2, Option.none⟩ = some x2 ∧ w.cell? ⟨b, 3, Option.none⟩ = some x3 ∧ w.cell? ⟨b, 4, Option.none⟩ = some x4 ∧ w.cell? ⟨b, 5, Option.none⟩ = some x5 ∧ w.cell? ⟨b, 6, Option.none⟩ = some x6 ∧ w.cell? ⟨b, 7, Option.none⟩ = some x7 ∧ w.cell? ⟨b, 8, Option.none⟩ = some x8 := by
  simp [World.cell?, h]
/-- A place to write at. -/
theorem Mid.spot {w : World} {g c j i : Nat} {P : En → Bool} {L : List En} (h : Mid w g c j P L) (hi : i < L.length) :
    (∃ v, w.cell? ⟨g, i * 9, Option.none⟩ = some v) ∧ (∃ v, w.cell? ⟨g, i * 9 + 1, Option.none⟩ = some v) ∧ (∃ v, w.cell? ⟨g, i * 9 + 2, Option.none⟩ = some v) ∧ (∃ v, w.cell? ⟨g, i * 9 + 3, Option.none⟩ = some v) ∧ (∃ v, w.cell? ⟨g, i * 9 + 4, Option.none⟩ = some v) ∧
    (∃ v, w.cell? ⟨g, i * 9 + 5, Option.none⟩ = some v) ∧ (∃ v, w.cell? ⟨g, i * 9 + 6, Option.none⟩ = some v) ∧ (∃ v, w.cell? ⟨g, i * 9 + 7, Option.none⟩ = some v) ∧ (∃ v, w.cell? ⟨g, i * 9 + 8, Option.none⟩ = some v) ∧ ∀ q, w.frozen? ⟨g, q, Option.none⟩ = false := by
  obtain ⟨cur, hb, h1, h2, h3, h4, h5⟩ := h
  have C : ∀ q, q < 9 → ∃ v, w.cell? ⟨g, i * 9 + q, Option.none⟩ = some v := fun q hq => by
    have : i * 9 + q < cur.size := by omega
    exact ⟨cur[i * 9 + q], by simp [World.cell?, hb, this]⟩
  refine ⟨?_, C 1 (by omega), C 2 (by omega), C 3 (by omega), C 4 (by omega), C 5 (by omega), C 6 (by omega), C 7 (by omega), C 8 (by omega), fun q => by simp [World.frozen?, hb]⟩
  have := C 0 (by omega)
  simpa using this

theorem clear_mid {w : World} {g c j i : Nat} {P : En → Bool} {L : List En} (h : Mid w g c j P L) (ty : TypeId) (hi : i < L.length) :
    (Builtin.clear_ #[47] ty #[.slice (some ⟨g, i * 9, Option.none⟩) (L.length - i) (c - i)]).run Try.prog w = .ok (.tuple #[]) (w.setCells g (i * 9) (Builtin.zeroCells (Value.agg #[.int .u16 0, .int .u8 0, .int .u8 0, .int .u8 0, .int .u8 0, .int .u8 0, .int .u8 0, .int .u8 0, .int .i64 0]).cells (L.length - i)).toList) := by
  obtain ⟨cur, hb, h1, h2, h3, h4, h5⟩ := h
  refine run_clear_wide w 47 95 ty _ Try.underlying47 zero64 g (i * 9) _ _ (by omega) (fun q hq => ?_) (fun q hq => by simp [World.frozen?, hb]) (zcells_one _)
  have : i * 9 + q < cur.size := by simp [Value.cells] at hq; omega
  simp [World.cell?, hb, this]

set_option maxHeartbeats 8000000 in
theorem delete_of (q : Pl) (B : Nat) (p : Option Addr) (n c : Nat) (L : List En) (w : World) (h : Sl w B p n c L)
    (hp : ∀ (x : En) (W : World), (∃ i : Nat, L[i]? = some x) → Keeps (InP p) w W → Calls Try.prog 35 #[q.val, x.val] W fun e w' => e = .returned (.bool (decide (q = x.p))) ∧ Keeps Nil W w') :
    Calls Try.prog 55 #[.slice p n c, .func (.func 35) #[q.val] #[]] w fun e w' => (∃ n', e = .returned (.slice p n' c) ∧ Sl w' B p n' c (L.filter (fun x => !(decide (q = x.p))))) ∧ Keeps (InP p) w w' := by
  have HI : ∀ W, Keeps Nil w W → Hid (Calls Try.prog 38 #[.slice p n c, .func (.func 35) #[q.val] #[]] W fun e w' => e = .returned (.int .i64 (idx (fun x => decide (q = x.p)) L)) ∧ Keeps Nil W w') := fun W k =>
    hid (index_of q B p n c L W (h.keepN k) (fun x V hx kv => hp x V hx ((k.trans kv).ofNil)))
  have HP := hid hp
  have H := hid h
  clear hp
  rcases idx_spec (fun x => decide (q = x.p)) L with ⟨hi, hf⟩ | ⟨k0, hi, hk, hf⟩
  · rw [hi] at HI
    have HF := hid hf
    clear hf hi
    go_enter Try.func55, Try.ntmps55
    go_wp2_with fail
    refine (HI _ (Keeps.refl _ _)).out.mono ?_; rintro ee w2 ⟨rfl, k2⟩
    go_wp2_with fail
    go_ret
    rw [HF.out]
    exact ⟨⟨n, rfl, H.out.keepN k2⟩, k2.ofNil⟩
  · obtain ⟨hl, ⟨_, hn, _⟩ | ⟨g, rfl, hB, hr⟩⟩ := h
    · omega
    have hm : n ≤ 9223372036854775807 := by
      obtain ⟨cur, _, _, hm, hle, _⟩ := hr
      unfold maxLen at hm; omega
    have hnc : n ≤ c := by
      obtain ⟨cur, _, _, hm, hle, _⟩ := hr
      omega
    have hS := Mid.start hr hf
    have hk0 : ((L.take (k0 + 1)).filter (fun y => !(fun x => decide (q = x.p)) y)).length = k0 := by rw [hf]; simp; omega
    have MS := hid hS
    have HK0 := hid hk0
    have hne : ((k0 : Int) == -1) = false := by rw [beq_eq_false_iff_ne]; omega
    rw [hi] at HI
    have hkn : k0 < n := by omega
    have HL := hid hl
    clear hi hf hS hk0 hr hl hk
    go_enter Try.func55, Try.ntmps55
    go_wp2_with fail
    refine (HI _ (Keeps.refl _ _)).out.mono ?_; rintro ee w2 ⟨rfl, k2⟩
    go_wp2_with fail
    go_loopw [5, 6, 7] (fun s5 s6 _ wr => ∃ i j : Nat, j ≤ n ∧ i < j ∧ s5 = .int .i64 i ∧ s6 = .int .i64 j ∧ Keeps (InP (some ⟨g, 0, Option.none⟩)) w wr ∧ Hid (Mid wr g c j (fun x => decide (q = x.p)) L ∧ ((L.take j).filter (fun y => !(fun x => decide (q = x.p)) y)).length = i)) (fun _ s6 _ _ => n - (intOf s6).toNat)
    case atStart => exact ⟨k0, k0 + 1, by omega, by omega, rfl, by go_num, k2.ofNil, hid ⟨MS.out.keep k2 (fun e => e), HK0.out⟩⟩
    case round =>
      obtain ⟨i, j, hj, hij, rfl, rfl, kk, hM⟩ := hrel
      by_cases hlt : j < n
      · obtain ⟨x, hx⟩ : ∃ x, L[j]? = some x := ⟨_, List.getElem?_eq_getElem (by have := HL.out; omega)⟩
        obtain ⟨c0, c1, c2, c3, c4, c5, c6, c7, c8⟩ := hM.out.1.read hx
        have HX := hid hx
        have HC := hid (fun W => HP.out x W ⟨j, hx⟩)
        clear hx
        go_upto_region 8 with (fail)
        have ka : Keeps Nil wr (wr.alloc (.cells #[.int .u16 x.p.v, .int .u8 x.p.a, .int .u8 x.p.b, .int .u8 x.p.c, .int .u8 x.p.d, .int .u8 x.p.e, .int .u8 x.p.f, .int .u8 x.port, .int .i64 x.age] 95 (0, 0))) := (Keeps.refl _ _).alloc _
        have ha := alloc_block wr (.cells #[.int .u16 x.p.v, .int .u8 x.p.a, .int .u8 x.p.b, .int .u8 x.p.c, .int .u8 x.p.d, .int .u8 x.p.e, .int .u8 x.p.f, .int .u8 x.port, .int .i64 x.age] 95 (0, 0))
        have hga := hM.out.1.lt
        generalize (wr.alloc (.cells #[.int .u16 x.p.v, .int .u8 x.p.a, .int .u8 x.p.b, .int .u8 x.p.c, .int .u8 x.p.d, .int .u8 x.p.e, .int .u8 x.p.f, .int .u8 x.port, .int .i64 x.age] 95 (0, 0))) = wa at *
        generalize wr.heap.size = b7 at *
        obtain ⟨d0, d1, d2, d3, d4, d5, d6, d7, d8⟩ := nine_of ha
        have HAL := hid ha
        have KA := hid ka
        clear c0 c1 c2 c3 c4 c5 c6 c7 c8 ha ka
        cases hq : (decide (q = x.p)) with
        | true =>
          have HQ := hid hq
          rw [hq] at HC
          clear hq
          go_wp2_with fail
          refine (HC.out _ (kk.trans KA.out.ofNil)).mono ?_; rintro ee w' ⟨rfl, kz⟩
          go_wp2_with fail
          go_roundw
          case rel => exact ⟨i, j + 1, by omega, by omega, rfl, by go_num, (kk.trans KA.out.ofNil).trans kz.ofNil, hid ⟨((hM.out.1.drop HX.out HQ.out).keep KA.out (fun e => e)).keep kz (fun e => e), by rw [take_more HX.out (fun x => decide (q = x.p)), HQ.out]; simpa using hM.out.2⟩⟩
          case measure => simp only [intOf]; omega
        | false =>
          have HQ := hid hq
          rw [hq] at HC
          clear hq
          go_wp2_with fail
          refine (HC.out _ (kk.trans KA.out.ofNil)).mono ?_; rintro ee w' ⟨rfl, kz⟩
          have M3 := hid ((hM.out.1.keep KA.out (fun e => e)).keep kz (fun e => e))
          have ha3 := (kz.block _ (lt_of_block HAL.out) (fun e => e)).trans HAL.out
          obtain ⟨d0, d1, d2, d3, d4, d5, d6, d7, d8⟩ := nine_of ha3
          obtain ⟨⟨o0, e0⟩, ⟨o1, e1⟩, ⟨o2, e2⟩, ⟨o3, e3⟩, ⟨o4, e4⟩, ⟨o5, e5⟩, ⟨o6, e6⟩, ⟨o7, e7⟩, ⟨o8, e8⟩, ef⟩ := M3.out.spot (i := i) (by have := HL.out; omega)
          clear ha3
          go_wp2_with fail
          go_roundw
          case rel =>
            obtain ⟨W9, hW, hM9, k9⟩ := M3.out.put HX.out HQ.out hM.out.2
            rw [hW]
            refine ⟨i + 1, j + 1, by omega, by omega, by go_num, by go_num, ((kk.trans KA.out.ofNil).trans kz.ofNil).trans (k9.mono (fun k e => by rw [At] at e; subst e; rfl)), hid ⟨hM9, by rw [take_more HX.out (fun x => decide (q = x.p)), HQ.out]; simp; exact hM.out.2⟩⟩
          case measure => simp only [intOf]; omega
      · obtain rfl : j = n := by omega
        have hcl := fun ty => clear_mid hM.out.1 ty (i := i) (by have := HL.out; omega)
        rw [HL.out] at hcl
        obtain ⟨W9, hW⟩ : ∃ W9, wr.setCells g (i * 9) (Builtin.zeroCells (Value.agg #[.int .u16 0, .int .u8 0, .int .u8 0, .int .u8 0, .int .u8 0, .int .u8 0, .int .u8 0, .int .u8 0, .int .i64 0]).cells (j - i)).toList = W9 := ⟨_, rfl⟩
        have hlen : (L.filter (fun y => !(fun x => decide (q = x.p)) y)).length = i := by have := hM.out.2; rwa [List.take_of_length_le (by have := HL.out; omega)] at this
        obtain ⟨hR, kR⟩ := Mid.done hM.out.1 (Nat.le_of_eq HL.out) hW (by rw [hlen])
        rw [hW] at hcl
        have HR := hid hR
        have HLEN := hid hlen
        have hic : i ≤ c := by omega
        clear hW hR hlen
        go_wp2_with fail
        go_ret
        exact ⟨⟨i, rfl, HLEN.out, .inr ⟨g, rfl, hB, HR.out⟩⟩, kk.trans (kR.mono (fun k e => by rw [At] at e; subst e; rfl))⟩

set_option maxHeartbeats 8000000 in
theorem delete_tick  (B : Nat) (p : Option Addr) (n c : Nat) (L : List En) (w : World) (h : Sl w B p n c L)
    (hp : ∀ (x : En) (W : World), (∃ i : Nat, L[i]? = some x) → Keeps (InP p) w W → Calls Try.prog 36 #[x.val] W fun e w' => e = .returned (.bool (decide (40 ≤ x.age))) ∧ Keeps Nil W w') :
    Calls Try.prog 55 #[.slice p n c, .func (.func 36) #[] #[]] w fun e w' => (∃ n', e = .returned (.slice p n' c) ∧ Sl w' B p n' c (L.filter (fun x => !(decide (40 ≤ x.age))))) ∧ Keeps (InP p) w w' := by
  have HI : ∀ W, Keeps Nil w W → Hid (Calls Try.prog 38 #[.slice p n c, .func (.func 36) #[] #[]] W fun e w' => e = .returned (.int .i64 (idx (fun x => decide (40 ≤ x.age)) L)) ∧ Keeps Nil W w') := fun W k =>
    hid (index_tick  B p n c L W (h.keepN k) (fun x V hx kv => hp x V hx ((k.trans kv).ofNil)))
  have HP := hid hp
  have H := hid h
  clear hp
  rcases idx_spec (fun x => decide (40 ≤ x.age)) L with ⟨hi, hf⟩ | ⟨k0, hi, hk, hf⟩
  · rw [hi] at HI
    have HF := hid hf
    clear hf hi
    go_enter Try.func55, Try.ntmps55
    go_wp2_with fail
    refine (HI _ (Keeps.refl _ _)).out.mono ?_; rintro ee w2 ⟨rfl, k2⟩
    go_wp2_with fail
    go_ret
    rw [HF.out]
    exact ⟨⟨n, rfl, H.out.keepN k2⟩, k2.ofNil⟩
  · obtain ⟨hl, ⟨_, hn, _⟩ | ⟨g, rfl, hB, hr⟩⟩ := h
    · omega
    have hm : n ≤ 9223372036854775807 := by
      obtain ⟨cur, _, _, hm, hle, _⟩ := hr
      unfold maxLen at hm; omega
    have hnc : n ≤ c := by
      obtain ⟨cur, _, _, hm, hle, _⟩ := hr
      omega
    have hS := Mid.start hr hf
    have hk0 : ((L.take (k0 + 1)).filter (fun y => !(fun x => decide (40 ≤ x.age)) y)).length = k0 := by rw [hf]; simp; omega
    have MS := hid hS
    have HK0 := hid hk0
    have hne : ((k0 : Int) == -1) = false := by rw [beq_eq_false_iff_ne]; omega
    rw [hi] at HI
    have hkn : k0 < n := by omega
    have HL := hid hl
    clear hi hf hS hk0 hr hl hk
    go_enter Try.func55, Try.ntmps55
    go_wp2_with fail
    refine (HI _ (Keeps.refl _ _)).out.mono ?_; rintro ee w2 ⟨rfl, k2⟩
    go_wp2_with fail
    go_loopw [5, 6, 7] (fun s5 s6 _ wr => ∃ i j : Nat, j ≤ n ∧ i < j ∧ s5 = .int .i64 i ∧ s6 = .int .i64 j ∧ Keeps (InP (some ⟨g, 0, Option.none⟩)) w wr ∧ Hid (Mid wr g c j (fun x => decide (40 ≤ x.age)) L ∧ ((L.take j).filter (fun y => !(fun x => decide (40 ≤ x.age)) y)).length = i)) (fun _ s6 _ _ => n - (intOf s6).toNat)
    case atStart => exact ⟨k0, k0 + 1, by omega, by omega, rfl, by go_num, k2.ofNil, hid ⟨MS.out.keep k2 (fun e => e), HK0.out⟩⟩
    case round =>
      obtain ⟨i, j, hj, hij, rfl, rfl, kk, hM⟩ := hrel
      by_cases hlt : j < n
      · obtain ⟨x, hx⟩ : ∃ x, L[j]? = some x := ⟨_, List.getElem?_eq_getElem (by have := HL.out; omega)⟩
        obtain ⟨c0, c1, c2, c3, c4, c5, c6, c7, c8⟩ := hM.out.1.read hx
        have HX := hid hx
        have HC := hid (fun W => HP.out x W ⟨j, hx⟩)
        clear hx
        go_upto_region 8 with (fail)
        have ka : Keeps Nil wr (wr.alloc (.cells #[.int .u16 x.p.v, .int .u8 x.p.a, .int .u8 x.p.b, .int .u8 x.p.c, .int .u8 x.p.d, .int .u8 x.p.e, .int .u8 x.p.f, .int .u8 x.port, .int .i64 x.age] 95 (0, 0))) := (Keeps.refl _ _).alloc _
        have ha := alloc_block wr (.cells #[.int .u16 x.p.v, .int .u8 x.p.a, .int .u8 x.p.b, .int .u8 x.p.c, .int .u8 x.p.d, .int .u8 x.p.e, .int .u8 x.p.f, .int .u8 x.port, .int .i64 x.age] 95 (0, 0))
        have hga := hM.out.1.lt
        generalize (wr.alloc (.cells #[.int .u16 x.p.v, .int .u8 x.p.a, .int .u8 x.p.b, .int .u8 x.p.c, .int .u8 x.p.d, .int .u8 x.p.e, .int .u8 x.p.f, .int .u8 x.port, .int .i64 x.age] 95 (0, 0))) = wa at *
        generalize wr.heap.size = b7 at *
        obtain ⟨d0, d1, d2, d3, d4, d5, d6, d7, d8⟩ := nine_of ha
        have HAL := hid ha
        have KA := hid ka
        clear c0 c1 c2 c3 c4 c5 c6 c7 c8 ha ka
        cases hq : (decide (40 ≤ x.age)) with
        | true =>
          have HQ := hid hq
          rw [hq] at HC
          clear hq
          go_wp2_with fail
          refine (HC.out _ (kk.trans KA.out.ofNil)).mono ?_; rintro ee w' ⟨rfl, kz⟩
          go_wp2_with fail
          go_roundw
          case rel => exact ⟨i, j + 1, by omega, by omega, rfl, by go_num, (kk.trans KA.out.ofNil).trans kz.ofNil, hid ⟨((hM.out.1.drop HX.out HQ.out).keep KA.out (fun e => e)).keep kz (fun e => e), by rw [take_more HX.out (fun x => decide (40 ≤ x.age)), HQ.out]; simpa using hM.out.2⟩⟩
          case measure => simp only [intOf]; omega
        | false =>
          have HQ := hid hq
          rw [hq] at HC
          clear hq
          go_wp2_with fail
          refine (HC.out _ (kk.trans KA.out.ofNil)).mono ?_; rintro ee w' ⟨rfl, kz⟩
          have M3 := hid ((hM.out.1.keep KA.out (fun e => e)).keep kz (fun e => e))
          have ha3 := (kz.block _ (lt_of_block HAL.out) (fun e => e)).trans HAL.out
          obtain ⟨d0, d1, d2, d3, d4, d5, d6, d7, d8⟩ := nine_of ha3
          obtain ⟨⟨o0, e0⟩, ⟨o1, e1⟩, ⟨o2, e2⟩, ⟨o3, e3⟩, ⟨o4, e4⟩, ⟨o5, e5⟩, ⟨o6, e6⟩, ⟨o7, e7⟩, ⟨o8, e8⟩, ef⟩ := M3.out.spot (i := i) (by have := HL.out; omega)
          clear ha3
          go_wp2_with fail
          go_roundw
          case rel =>
            obtain ⟨W9, hW, hM9, k9⟩ := M3.out.put HX.out HQ.out hM.out.2
            rw [hW]
            refine ⟨i + 1, j + 1, by omega, by omega, by go_num, by go_num, ((kk.trans KA.out.ofNil).trans kz.ofNil).trans (k9.mono (fun k e => by rw [At] at e; subst e; rfl)), hid ⟨hM9, by rw [take_more HX.out (fun x => decide (40 ≤ x.age)), HQ.out]; simp; exact hM.out.2⟩⟩
          case measure => simp only [intOf]; omega
      · obtain rfl : j = n := by omega
        have hcl := fun ty => clear_mid hM.out.1 ty (i := i) (by have := HL.out; omega)
        rw [HL.out] at hcl
        obtain ⟨W9, hW⟩ : ∃ W9, wr.setCells g (i * 9) (Builtin.zeroCells (Value.agg #[.int .u16 0, .int .u8 0, .int .u8 0, .int .u8 0, .int .u8 0, .int .u8 0, .int .u8 0, .int .u8 0, .int .i64 0]).cells (j - i)).toList = W9 := ⟨_, rfl⟩
        have hlen : (L.filter (fun y => !(fun x => decide (40 ≤ x.age)) y)).length = i := by have := hM.out.2; rwa [List.take_of_length_le (by have := HL.out; omega)] at this
        obtain ⟨hR, kR⟩ := Mid.done hM.out.1 (Nat.le_of_eq HL.out) hW (by rw [hlen])
        rw [hW] at hcl
        have HR := hid hR
        have HLEN := hid hlen
        have hic : i ≤ c := by omega
        clear hW hR hlen
        go_wp2_with fail
        go_ret
        exact ⟨⟨i, rfl, HLEN.out, .inr ⟨g, rfl, hB, HR.out⟩⟩, kk.trans (kR.mono (fun k e => by rw [At] at e; subst e; rfl))⟩

set_option maxHeartbeats 8000000 in
theorem delete_flush (q : Int) (bx : Nat) (B : Nat) (p : Option Addr) (n c : Nat) (L : List En) (w : World) (h : Sl w B p n c L)
    (hp : ∀ (x : En) (W : World), (∃ i : Nat, L[i]? = some x) → Keeps (InP p) w W → Calls Try.prog 37 #[x.val, .pointer (some ⟨bx, 0, Option.none⟩)] W fun e w' => e = .returned (.bool ((bits BinOp.and .u8 (q / 2 ^ x.port.toNat) 1 == 1))) ∧ Keeps Nil W w') :
    Calls Try.prog 55 #[.slice p n c, .func (.func 37) #[] #[.pointer (some ⟨bx, 0, Option.none⟩)]] w fun e w' => (∃ n', e = .returned (.slice p n' c) ∧ Sl w' B p n' c (L.filter (fun x => !((bits BinOp.and .u8 (q / 2 ^ x.port.toNat) 1 == 1))))) ∧ Keeps (InP p) w w' := by
  have HI : ∀ W, Keeps Nil w W → Hid (Calls Try.prog 38 #[.slice p n c, .func (.func 37) #[] #[.pointer (some ⟨bx, 0, Option.none⟩)]] W fun e w' => e = .returned (.int .i64 (idx (fun x => (bits BinOp.and .u8 (q / 2 ^ x.port.toNat) 1 == 1)) L)) ∧ Keeps Nil W w') := fun W k =>
    hid (index_flush q bx B p n c L W (h.keepN k) (fun x V hx kv => hp x V hx ((k.trans kv).ofNil)))
  have HP := hid hp
  have H := hid h
  clear hp
  rcases idx_spec (fun x => (bits BinOp.and .u8 (q / 2 ^ x.port.toNat) 1 == 1)) L with ⟨hi, hf⟩ | ⟨k0, hi, hk, hf⟩
  · rw [hi] at HI
    have HF := hid hf
    clear hf hi
    go_enter Try.func55, Try.ntmps55
    go_wp2_with fail
    refine (HI _ (Keeps.refl _ _)).out.mono ?_; rintro ee w2 ⟨rfl, k2⟩
    go_wp2_with fail
    go_ret
    rw [HF.out]
    exact ⟨⟨n, rfl, H.out.keepN k2⟩, k2.ofNil⟩
  · obtain ⟨hl, ⟨_, hn, _⟩ | ⟨g, rfl, hB, hr⟩⟩ := h
    · omega
    have hm : n ≤ 9223372036854775807 := by
      obtain ⟨cur, _, _, hm, hle, _⟩ := hr
      unfold maxLen at hm; omega
    have hnc : n ≤ c := by
      obtain ⟨cur, _, _, hm, hle, _⟩ := hr
      omega
    have hS := Mid.start hr hf
    have hk0 : ((L.take (k0 + 1)).filter (fun y => !(fun x => (bits BinOp.and .u8 (q / 2 ^ x.port.toNat) 1 == 1)) y)).length = k0 := by rw [hf]; simp; omega
    have MS := hid hS
    have HK0 := hid hk0
    have hne : ((k0 : Int) == -1) = false := by rw [beq_eq_false_iff_ne]; omega
    rw [hi] at HI
    have hkn : k0 < n := by omega
    have HL := hid hl
    clear hi hf hS hk0 hr hl hk
    go_enter Try.func55, Try.ntmps55
    go_wp2_with fail
    refine (HI _ (Keeps.refl _ _)).out.mono ?_; rintro ee w2 ⟨rfl, k2⟩
    go_wp2_with fail
    go_loopw [5, 6, 7] (fun s5 s6 _ wr => ∃ i j : Nat, j ≤ n ∧ i < j ∧ s5 = .int .i64 i ∧ s6 = .int .i64 j ∧ Keeps (InP (some ⟨g, 0, Option.none⟩)) w wr ∧ Hid (Mid wr g c j (fun x => (bits BinOp.and .u8 (q / 2 ^ x.port.toNat) 1 == 1)) L ∧ ((L.take j).filter (fun y => !(fun x => (bits BinOp.and .u8 (q / 2 ^ x.port.toNat) 1 == 1)) y)).length = i)) (fun _ s6 _ _ => n - (intOf s6).toNat)
    case atStart => exact ⟨k0, k0 + 1, by omega, by omega, rfl, by go_num, k2.ofNil, hid ⟨MS.out.keep k2 (fun e => e), HK0.out⟩⟩
    case round =>
      obtain ⟨i, j, hj, hij, rfl, rfl, kk, hM⟩ := hrel
      by_cases hlt : j < n
      · obtain ⟨x, hx⟩ : ∃ x, L[j]? = some x := ⟨_, List.getElem?_eq_getElem (by have := HL.out; omega)⟩
        obtain ⟨c0, c1, c2, c3, c4, c5, c6, c7, c8⟩ := hM.out.1.read hx
        have HX := hid hx
        have HC := hid (fun W => HP.out x W ⟨j, hx⟩)
        clear hx
        go_upto_region 8 with (fail)
        have ka : Keeps Nil wr (wr.alloc (.cells #[.int .u16 x.p.v, .int .u8 x.p.a, .int .u8 x.p.b, .int .u8 x.p.c, .int .u8 x.p.d, .int .u8 x.p.e, .int .u8 x.p.f, .int .u8 x.port, .int .i64 x.age] 95 (0, 0))) := (Keeps.refl _ _).alloc _
        have ha := alloc_block wr (.cells #[.int .u16 x.p.v, .int .u8 x.p.a, .int .u8 x.p.b, .int .u8 x.p.c, .int .u8 x.p.d, .int .u8 x.p.e, .int .u8 x.p.f, .int .u8 x.port, .int .i64 x.age] 95 (0, 0))
        have hga := hM.out.1.lt
        generalize (wr.alloc (.cells #[.int .u16 x.p.v, .int .u8 x.p.a, .int .u8 x.p.b, .int .u8 x.p.c, .int .u8 x.p.d, .int .u8 x.p.e, .int .u8 x.p.f, .int .u8 x.port, .int .i64 x.age] 95 (0, 0))) = wa at *
        generalize wr.heap.size = b7 at *
        obtain ⟨d0, d1, d2, d3, d4, d5, d6, d7, d8⟩ := nine_of ha
        have HAL := hid ha
        have KA := hid ka
        clear c0 c1 c2 c3 c4 c5 c6 c7 c8 ha ka
        cases hq : ((bits BinOp.and .u8 (q / 2 ^ x.port.toNat) 1 == 1)) with
        | true =>
          have HQ := hid hq
          rw [hq] at HC
          clear hq
          go_wp2_with fail
          refine (HC.out _ (kk.trans KA.out.ofNil)).mono ?_; rintro ee w' ⟨rfl, kz⟩
          go_wp2_with fail
          go_roundw
          case rel => exact ⟨i, j + 1, by omega, by omega, rfl, by go_num, (kk.trans KA.out.ofNil).trans kz.ofNil, hid ⟨((hM.out.1.drop HX.out HQ.out).keep KA.out (fun e => e)).keep kz (fun e => e), by rw [take_more HX.out (fun x => (bits BinOp.and .u8 (q / 2 ^ x.port.toNat) 1 == 1)), HQ.out]; simpa using hM.out.2⟩⟩
          case measure => simp only [intOf]; omega
        | false =>
          have HQ := hid hq
          rw [hq] at HC
          clear hq
          go_wp2_with fail
          refine (HC.out _ (kk.trans KA.out.ofNil)).mono ?_; rintro ee w' ⟨rfl, kz⟩
          have M3 := hid ((hM.out.1.keep KA.out (fun e => e)).keep kz (fun e => e))
          have ha3 := (kz.block _ (lt_of_block HAL.out) (fun e => e)).trans HAL.out
          obtain ⟨d0, d1, d2, d3, d4, d5, d6, d7, d8⟩ := nine_of ha3
          obtain ⟨⟨o0, e0⟩, ⟨o1, e1⟩, ⟨o2, e2⟩, ⟨o3, e3⟩, ⟨o4, e4⟩, ⟨o5, e5⟩, ⟨o6, e6⟩, ⟨o7, e7⟩, ⟨o8, e8⟩, ef⟩ := M3.out.spot (i := i) (by have := HL.out; omega)
          clear ha3
          go_wp2_with fail
          go_roundw
          case rel =>
            obtain ⟨W9, hW, hM9, k9⟩ := M3.out.put HX.out HQ.out hM.out.2
            rw [hW]
            refine ⟨i + 1, j + 1, by omega, by omega, by go_num, by go_num, ((kk.trans KA.out.ofNil).trans kz.ofNil).trans (k9.mono (fun k e => by rw [At] at e; subst e; rfl)), hid ⟨hM9, by rw [take_more HX.out (fun x => (bits BinOp.and .u8 (q / 2 ^ x.port.toNat) 1 == 1)), HQ.out]; simp; exact hM.out.2⟩⟩
          case measure => simp only [intOf]; omega
      · obtain rfl : j = n := by omega
        have hcl := fun ty => clear_mid hM.out.1 ty (i := i) (by have := HL.out; omega)
        rw [HL.out] at hcl
        obtain ⟨W9, hW⟩ : ∃ W9, wr.setCells g (i * 9) (Builtin.zeroCells (Value.agg #[.int .u16 0, .int .u8 0, .int .u8 0, .int .u8 0, .int .u8 0, .int .u8 0, .int .u8 0, .int .u8 0, .int .i64 0]).cells (j - i)).toList = W9 := ⟨_, rfl⟩
        have hlen : (L.filter (fun y => !(fun x => (bits BinOp.and .u8 (q / 2 ^ x.port.toNat) 1 == 1)) y)).length = i := by have := hM.out.2; rwa [List.take_of_length_le (by have := HL.out; omega)] at this
        obtain ⟨hR, kR⟩ := Mid.done hM.out.1 (Nat.le_of_eq HL.out) hW (by rw [hlen])
        rw [hW] at hcl
        have HR := hid hR
        have HLEN := hid hlen
        have hic : i ≤ c := by omega
        clear hW hR hlen
        go_wp2_with fail
        go_ret
        exact ⟨⟨i, rfl, HLEN.out, .inr ⟨g, rfl, hB, HR.out⟩⟩, kk.trans (kR.mono (fun k e => by rw [At] at e; subst e; rfl))⟩
end Go.Proofs.Ytcplmdgnldmhbaa
