/-
  Layer 8: Tick, Flush. Conditions: it lies so; the numbers are in range.
-/
import Derived.Test.YtcplmdgnldmhbaaList
namespace Go.Proofs.Ytcplmdgnldmhbaa
open Go.RowKit
set_option linter.unusedVariables false

def older (x : En) : En := ⟨x.p, x.port, x.age + 1⟩
/-- While entries age: k are older already. -/
def Mix (w : World) (g c k : Nat) (L : List En) : Prop :=
  ∃ cur, w.heap[g]? = some (.cells cur 95 (0, 0)) ∧ cur.size = c * 9 ∧ c ≤ maxLen ∧ L.length ≤ c ∧ ∀ (i : Nat) (x : En), L[i]? = some x → EAt cur i (if i < k then older x else x)
theorem Mix.start {w : World} {g c : Nat} {L : List En} (h : Row w g c L) : Mix w g c 0 L := by
  obtain ⟨cur, h0, h1, h2, h3, h4⟩ := h
  exact ⟨cur, h0, h1, h2, h3, fun i x hx => by simpa using h4 i x hx⟩
theorem Mix.done {w : World} {g c : Nat} {L : List En} (h : Mix w g c L.length L) : Row w g c (L.map older) := by
  obtain ⟨cur, h0, h1, h2, h3, h4⟩ := h
  refine ⟨cur, h0, h1, h2, by simpa using h3, fun i y hy => ?_⟩
  rw [List.getElem?_map] at hy
  obtain ⟨x, hx, rfl⟩ := Option.map_eq_some_iff.1 hy
  have hi := (List.getElem?_eq_some_iff.1 hx).1
  have := h4 i x hx
  rwa [if_pos hi] at this
theorem Mix.age {w : World} {g c k : Nat} {L : List En} (h : Mix w g c k L) {x : En} (hx : L[k]? = some x) : w.cell? ⟨g, k * 9 + 8, Option.none⟩ = some (.int .i64 x.age) ∧ w.frozen? ⟨g, k * 9 + 8, Option.none⟩ = false := by
  obtain ⟨cur, hb, h1, h2, h3, h4⟩ := h
  have := h4 k x hx
  rw [if_neg (Nat.lt_irrefl _)] at this
  have := this 8 _ rfl
  exact ⟨by simp [World.cell?, hb, this], by simp [World.frozen?, hb]⟩
theorem Mix.step {w : World} {g c k : Nat} {L : List En} (h : Mix w g c k L) {x : En} (hx : L[k]? = some x) : Mix (w.setCell ⟨g, k * 9 + 8, Option.none⟩ (.int .i64 (x.age + 1))) g c (k + 1) L := by
  obtain ⟨cur, hb, h1, h2, h3, h4⟩ := h
  have hk := (List.getElem?_eq_some_iff.1 hx).1
  refine ⟨_, setCell_block hb _ _, by rw [Array.size_setIfInBounds]; exact h1, h2, h3, fun i y hy => ?_⟩
  intro q v hv
  have hq : q < 9 := by have := (List.getElem?_eq_some_iff.1 hv).1; simpa using this
  have H := h4 i y hy
  rw [Array.getElem?_setIfInBounds]
  by_cases hi : i = k
  · subst hi
    rw [hx] at hy
    cases hy
    rw [if_pos (by omega)] at hv
    rw [if_neg (by omega)] at H
    by_cases h8 : q = 8
    · subst h8
      rw [if_pos rfl, if_pos (by omega)]
      simpa [older] using hv
    · rw [if_neg (by omega)]
      refine H q v ?_
      have hc : q = 0 ∨ q = 1 ∨ q = 2 ∨ q = 3 ∨ q = 4 ∨ q = 5 ∨ q = 6 ∨ q = 7 := by omega
      rcases hc with rfl | rfl | rfl | rfl | rfl | rfl | rfl | rfl <;> simpa [older] using hv
  · rw [if_neg (by omega)]
    have e : (if i < k + 1 then older y else y) = (if i < k then older y else y) := by
      by_cases h : i < k
      · rw [if_pos (by omega), if_pos h]
      · rw [if_neg (by omega), if_neg h]
    rw [e] at hv
    exact H q v hv

set_option maxHeartbeats 8000000 in
theorem tick_any (B t mb : Nat) (p : Option Addr) (n c : Nat) (τ : Tb) (w : World) (h : TbIs w B t mb p n c τ) (hn : n ≤ 1000) (hage : ∀ x ∈ τ.L, 0 ≤ x.age ∧ x.age < 1000000) :
    Calls Try.prog 13 #[.pointer (some ⟨t, 0, Option.none⟩)] w fun e w' => e = .returned (.tuple #[]) ∧ (∃ n', TbIs w' B t mb p n' c ⟨(τ.L.map older).filter (fun x => !(decide (40 ≤ x.age))), τ.S⟩) ∧ Keeps (TOwn t mb p) w w' := by
  have H := hid h
  have HA := hid hage
  obtain ⟨a0, a1⟩ := two_cells h.1
  have hnt := h.not_t
  have hnm := h.not_m
  have hl := h.2.1.1
  have HL := hid hl
  rcases h.2.1.2 with ⟨hp, hz, hc⟩ | ⟨g, hp, hB, hr⟩
  · subst hp hz hc
    have hL0 : τ.L = [] := List.eq_nil_of_length_eq_zero hl
    have T2 : ∀ W, Keeps Nil w W → Hid (TbIs W B t mb Option.none 0 0 ⟨τ.L.map older, τ.S⟩) := fun W k => hid ((h.keepN k) |> fun T => ⟨T.1, ⟨by rw [hL0]; rfl, .inl ⟨rfl, rfl, rfl⟩⟩, T.2.2⟩)
    clear h hage hl hnt hnm hL0
    go_enter Try.func13, Try.ntmps13
    go_wp2_with fail
    go_loopw [2, 10] (fun _ s10 wr => s10 = .int .i64 0 ∧ wr = w) (fun _ _ _ => 0)
    case atStart => exact ⟨rfl, rfl⟩
    case round =>
      obtain ⟨rfl, rfl⟩ := hrel
      go_wp2_with fail
      refine (drop_tick B t mb Option.none 0 0 ⟨τ.L.map older, τ.S⟩ wr (T2 _ (Keeps.refl _ _)).out (by omega) (fun x W _ _ => tick1_any x W)).mono ?_; rintro ee w3 ⟨⟨n', hn', rfl, T3⟩, k3⟩
      go_wp2_with fail
      go_returns
      exact ⟨rfl, ⟨n', T3⟩, k3⟩
  · subst hp
    have hnc : n ≤ c := h.2.1.le
    have HM := hid (Mix.start hr)
    have hgt : ¬ At g t := fun e => hnt (by rw [At] at e; subst e; rfl)
    have hgm : ¬ At g mb := fun e => hnm (by rw [At] at e; subst e; rfl)
    have HGT := hid hgt
    have HGM := hid hgm
    clear h hage hl hr hnt hnm hgt hgm
    go_enter Try.func13, Try.ntmps13
    go_wp2_with fail
    go_loopw [2, 10] (fun _ s10 wr => ∃ k : Nat, k ≤ n ∧ s10 = .int .i64 k ∧ Keeps (At g) w wr ∧ Hid (Mix wr g c k τ.L)) (fun _ s10 _ => n - (intOf s10).toNat)
    case atStart => exact ⟨0, Nat.zero_le _, rfl, Keeps.refl _ _, HM⟩
    case round =>
      obtain ⟨k, hk, rfl, kk, hM⟩ := hrel
      clear a0 a1
      obtain ⟨a0, a1⟩ := two_cells ((kk.block _ H.out.t_lt HGT.out).trans H.out.1)
      by_cases hlt : k < n
      · obtain ⟨x, hx⟩ : ∃ x, τ.L[k]? = some x := ⟨_, List.getElem?_eq_getElem (by have := HL.out; omega)⟩
        obtain ⟨c8, f8⟩ := hM.out.age hx
        have hag := HA.out x (List.mem_of_getElem? hx)
        have hw : IntKind.i64.wrap (x.age + 1) = x.age + 1 := by rw [IntKind.wrap_i64]; omega
        have HX := hid hx
        clear hx
        go_wp2_with fail
        go_roundw
        case rel => exact ⟨k + 1, by omega, by go_num, kk.trans ((Keeps.refl _ _).set _ _ (at_self _) _), hid (hM.out.step HX.out)⟩
        case measure => simp only [intOf]; omega
      · obtain rfl : k = n := by omega
        have hlen := HL.out
        have hMd : Mix wr g c τ.L.length τ.L := by rw [hlen]; exact hM.out
        have T2 : TbIs wr B t mb (some ⟨g, 0, Option.none⟩) k c ⟨τ.L.map older, τ.S⟩ := ⟨(kk.block _ H.out.t_lt HGT.out).trans H.out.1, ⟨by simpa using hlen, .inr ⟨g, rfl, hB, hMd.done⟩⟩, H.out.2.2.keep kk HGM.out⟩
        have T2 := hid T2
        clear hMd
        go_wp2_with fail
        refine (drop_tick B t mb _ k c ⟨τ.L.map older, τ.S⟩ wr T2.out hn (fun x W _ _ => tick1_any x W)).mono ?_; rintro ee w3 ⟨⟨n', hn', rfl, T3⟩, k3⟩
        go_wp2_with fail
        go_returns
        exact ⟨rfl, ⟨n', T3⟩, (kk.mono (fun k e => .inr (.inr (by rw [At] at e; subst e; rfl)))).trans k3⟩

set_option maxHeartbeats 8000000 in
theorem flush_any (q : Int) (hq : 0 ≤ q ∧ q < 256) (B t mb : Nat) (p : Option Addr) (n c : Nat) (τ : Tb) (w : World) (h : TbIs w B t mb p n c τ) (hn : n ≤ 1000) (hin : ∀ x ∈ τ.L, InR x) :
    Calls Try.prog 14 #[.pointer (some ⟨t, 0, Option.none⟩), .int .u8 q] w fun e w' => (∃ n' : Nat, n' ≤ n ∧ e = .returned (.int .i64 ((n : Int) - n')) ∧ TbIs w' B t mb p n' c ⟨τ.L.filter (fun x => !(bits BinOp.and .u8 (q / 2 ^ x.port.toNat) 1 == 1)), τ.S⟩) ∧ Keeps (TOwn t mb p) w w' := by
  have H := hid h
  have HIN := hid hin
  have kz : Keeps Nil w (w.alloc (.cells #[.int .u8 q] 5 (0, 0))) := (Keeps.refl _ _).alloc _
  have hbx := alloc_block w (.cells #[.int .u8 q] 5 (0, 0))
  have KZ := hid kz
  have HBX := hid hbx
  have H2 := hid (h.keepN kz)
  clear h hin kz hbx
  go_enter Try.func14, Try.ntmps14
  go_wp2_with fail
  refine (drop_flush q w.heap.size B t mb p n c τ _ H2.out hn (fun x W hx kw => ?_)).mono ?_
  · obtain ⟨i, hx⟩ := hx
    have hr := HIN.out x (List.mem_of_getElem? hx)
    have hb := (kw.block _ (lt_of_block HBX.out) (H2.out.2.1.ne_cells HBX.out (by decide))).trans HBX.out
    exact flush1_any x q w.heap.size W (cell_of_one hb) (lt_of_block hb) hr.1 hr.2 hq.1 hq.2
  rintro ee w3 ⟨⟨n', hn', rfl, T3⟩, k3⟩
  go_wp2_with fail
  go_ret
  exact ⟨⟨n', hn', rfl, T3⟩, KZ.out.ofNil.trans k3⟩
end Go.Proofs.Ytcplmdgnldmhbaa
