/-
  Layer 16: vlan, Ticks, may. Condition: the numbers lie so.
-/
import Derived.Test.YtbgijlfdgfhceaaPut
import Derived.Test.YtbgijlfdgfhceaaRows16
namespace Go.Proofs.Ytbgijlfdgfhceaa
open Go.RowKit
set_option linter.unusedVariables false
set_option linter.unusedSimpArgs false

def vlanB (v : Int) : Bool := decide (1 ≤ v) && decide (v ≤ 4094)
theorem vlan_any (v : Int) (w : World) : Calls Try.prog 41 #[.int .u16 v] w fun e w' => e = .returned (.bool (vlanB v)) ∧ w' = w := by
  by_cases h1 : 1 ≤ v
  · by_cases h2 : v ≤ 4094
    · have HN := hid (show vlanB v = true by simp [vlanB]; omega)
      go_enter Try.func41, Try.ntmps41
      go_wp2_with fail
      go_ret
      exact ⟨by rw [HN.out]; rfl, rfl⟩
    · have HN := hid (show vlanB v = false by simp [vlanB]; omega)
      go_enter Try.func41, Try.ntmps41
      go_wp2_with fail
      go_ret
      exact ⟨by rw [HN.out]; rfl, rfl⟩
  · have HN := hid (show vlanB v = false by simp [vlanB]; omega)
    go_enter Try.func41, Try.ntmps41
    go_wp2_with fail
    go_ret
    exact ⟨by rw [HN.out]; rfl, rfl⟩
def ivB (v : Int) : Bool := v == 4 || v == 5
theorem ticks_any (v : Int) (w : World) : Calls Try.prog 46 #[.int .u8 v] w fun e w' => (∃ n, e = .returned (.int .i64 n) ∧ ((n == 0) = !ivB v)) ∧ w' = w := by
  by_cases h1 : v = 4
  · have HN := hid (show ivB v = true by simp [ivB]; omega)
    subst h1
    go_enter Try.func46, Try.ntmps46
    go_wp2_with fail
    go_ret
    exact ⟨⟨_, rfl, by rw [HN.out]; rfl⟩, rfl⟩
  · by_cases h2 : v = 5
    · have HN := hid (show ivB v = true by simp [ivB]; omega)
      subst h2
      go_enter Try.func46, Try.ntmps46
      go_wp2_with fail
      go_ret
      exact ⟨⟨_, rfl, by rw [HN.out]; rfl⟩, rfl⟩
    · have HN := hid (show ivB v = false by simp [ivB]; omega)
      go_enter Try.func46, Try.ntmps46
      go_wp2_with fail
      go_ret
      exact ⟨⟨_, rfl, by rw [HN.out]; rfl⟩, rfl⟩

/-- Is a number in its place? -/
def numB (l : List Int) (i : Nat) : Bool := decide (1 ≤ l.getD i 0) && decide (l.getD i 0 ≤ 8191) && (i == 0 || decide (l.getD (i - 1) 0 < l.getD i 0))
theorem numB_eq {l : List Int} {i : Nat} {y : Int} (h : l.getD i 0 = y) : numB l i = (decide (1 ≤ y) && decide (y ≤ 8191) && (i == 0 || decide (l.getD (i - 1) 0 < y))) := by unfold numB; rw [h]
def risB (l : List Int) : Bool := (List.range l.length).all (numB l)
theorem ris_not {l : List Int} {i : Nat} (hi : i < l.length) (h : numB l i = false) : risB l = false := by
  unfold risB
  rw [List.all_eq_false]
  exact ⟨i, List.mem_range.2 hi, by simp [h]⟩
theorem ris_all {l : List Int} (h : ∀ i, i < l.length → numB l i = true) : risB l = true := by
  unfold risB
  rw [List.all_eq_true]
  exact fun i hi => h i (List.mem_range.1 hi)
/-- May an association be? -/
def mayA (x : As) : Bool := nameB x.dom x.own && decide (x.lv ≤ 7) && vlanB x.vid && ivB x.iv && decide (1 ≤ x.ms.length) && decide (x.ms.length ≤ 8) && risB x.ms
/-- An association's numbers lie so. -/
abbrev MsV (w : World) (B : Nat) (x : As) : Prop := WV w B 1 x.p x.ms.length x.c (flatU x.ms)
theorem six_block {w : World} {b : Nat} {c0 c1 c2 c3 c4 c5 : Value} {T : TypeId} (h : w.heap[b]? = some (.cells #[c0, c1, c2, c3, c4, c5] T (0, 0))) :
    w.cell? ⟨b, 0, Option.none⟩ = some c0 ∧ w.cell? ⟨b, 1, Option.none⟩ = some c1 ∧ w.cell? ⟨b, 2, Option.none⟩ = some c2 ∧ w.cell? ⟨b, 3, Option.none⟩ = some c3 ∧ w.cell? ⟨b, 4, Option.none⟩ = some c4 ∧ w.cell? ⟨b, 5, Option.none⟩ = some c5 := by
  simp [World.cell?, h]
theorem four_block {w : World} {b : Nat} {c0 c1 c2 c3 : Value} {T : TypeId} (h : w.heap[b]? = some (.cells #[c0, c1, c2, c3] T (0, 0))) :
    w.cell? ⟨b, 0, Option.none⟩ = some c0 ∧ w.cell? ⟨b, 1, Option.none⟩ = some c1 ∧ w.cell? ⟨b, 2, Option.none⟩ = some c2 ∧ w.cell? ⟨b, 3, Option.none⟩ = some c3 := by
  simp [World.cell?, h]
theorem three_block {w : World} {b : Nat} {c0 c1 c2 : Value} {T : TypeId} (h : w.heap[b]? = some (.cells #[c0, c1, c2] T (0, 0))) :
    w.cell? ⟨b, 0, Option.none⟩ = some c0 ∧ w.cell? ⟨b, 1, Option.none⟩ = some c1 ∧ w.cell? ⟨b, 2, Option.none⟩ = some c2 := by
  simp [World.cell?, h]

set_option maxRecDepth 8000 in
set_option maxHeartbeats 8000000 in
theorem may_any (x : As) (B : Nat) (w : World) (h : MsV w B x) : Calls Try.prog 35 #[.agg #[.int .u8 x.lv, .string x.dom, .string x.own, .int .u16 x.vid, .int .u8 x.iv, .slice x.p x.ms.length x.c]] w fun e w' => e = .returned (.bool (mayA x)) ∧ Keeps Nil w w' := by
  have kz : Keeps Nil w (w.alloc (.cells #[.int .u8 x.lv, .string x.dom, .string x.own, .int .u16 x.vid, .int .u8 x.iv, .slice x.p x.ms.length x.c] 50 (0, 0))) := (Keeps.refl _ _).alloc _
  have hA := alloc_block w (.cells #[.int .u8 x.lv, .string x.dom, .string x.own, .int .u16 x.vid, .int .u8 x.iv, .slice x.p x.ms.length x.c] 50 (0, 0))
  have H := hid (h.keepN kz)
  have KZ := hid kz
  have HA := hid hA
  clear kz hA h
  cases hN : nameB x.dom x.own with
  | false =>
    have HM := hid (show mayA x = false by simp [mayA, hN])
    have HNm := hid hN
    clear hN
    go_enter Try.func35, Try.ntmps35
    go_upto_region 1 with (fail)
    generalize (w.alloc (.cells #[.int .u8 x.lv, .string x.dom, .string x.own, .int .u16 x.vid, .int .u8 x.iv, .slice x.p x.ms.length x.c] 50 (0, 0))) = W at *
    generalize w.heap.size = b at *
    obtain ⟨a0, a1, a2, a3, a4, a5⟩ := six_block HA.out
    go_wp2_with fail
    refine (put_names x.dom x.own _).mono ?_; rintro e w1 ⟨⟨s, er, rfl, her⟩, k1⟩
    rw [HNm.out] at her
    have HK1 := hid (KZ.out.trans k1)
    have H1 := hid (H.out.keepN k1)
    have hA1 := (k1.block _ (lt_of_block HA.out) (fun e => e)).trans HA.out
    clear a0 a1 a2 a3 a4 a5 k1
    obtain ⟨a0, a1, a2, a3, a4, a5⟩ := six_block hA1
    have HA1 := hid hA1
    clear hA1
    have her : er ≠ 0 := by simpa using her
    go_wp2_with fail
    go_ret
    exact ⟨by rw [HM.out]; rfl, HK1.out⟩
  | true =>
  have HNm := hid hN
  by_cases hL : 7 < x.lv
  · have HM := hid (show mayA x = false by simp [mayA]; intros; omega)
    clear hN
    go_enter Try.func35, Try.ntmps35
    go_upto_region 1 with (fail)
    generalize (w.alloc (.cells #[.int .u8 x.lv, .string x.dom, .string x.own, .int .u16 x.vid, .int .u8 x.iv, .slice x.p x.ms.length x.c] 50 (0, 0))) = W at *
    generalize w.heap.size = b at *
    obtain ⟨a0, a1, a2, a3, a4, a5⟩ := six_block HA.out
    go_wp2_with fail
    refine (put_names x.dom x.own _).mono ?_; rintro e w1 ⟨⟨s, er, rfl, her⟩, k1⟩
    rw [HNm.out] at her
    have HK1 := hid (KZ.out.trans k1)
    have H1 := hid (H.out.keepN k1)
    have hA1 := (k1.block _ (lt_of_block HA.out) (fun e => e)).trans HA.out
    clear a0 a1 a2 a3 a4 a5 k1
    obtain ⟨a0, a1, a2, a3, a4, a5⟩ := six_block hA1
    have HA1 := hid hA1
    clear hA1
    obtain rfl : er = 0 := by simpa using her
    clear her
    go_wp2_with fail
    go_ret
    exact ⟨by rw [HM.out]; rfl, HK1.out⟩
  cases hV : vlanB x.vid with
  | false =>
    have HM := hid (show mayA x = false by simp [mayA, hV])
    clear hN
    go_enter Try.func35, Try.ntmps35
    go_upto_region 1 with (fail)
    generalize (w.alloc (.cells #[.int .u8 x.lv, .string x.dom, .string x.own, .int .u16 x.vid, .int .u8 x.iv, .slice x.p x.ms.length x.c] 50 (0, 0))) = W at *
    generalize w.heap.size = b at *
    obtain ⟨a0, a1, a2, a3, a4, a5⟩ := six_block HA.out
    go_wp2_with fail
    refine (put_names x.dom x.own _).mono ?_; rintro e w1 ⟨⟨s, er, rfl, her⟩, k1⟩
    rw [HNm.out] at her
    have HK1 := hid (KZ.out.trans k1)
    have H1 := hid (H.out.keepN k1)
    have hA1 := (k1.block _ (lt_of_block HA.out) (fun e => e)).trans HA.out
    clear a0 a1 a2 a3 a4 a5 k1
    obtain ⟨a0, a1, a2, a3, a4, a5⟩ := six_block hA1
    have HA1 := hid hA1
    clear hA1
    obtain rfl : er = 0 := by simpa using her
    clear her
    have VL := vlan_any x.vid w1
    rw [hV] at VL
    go_wp2_with fail
    refine VL.mono ?_; rintro e w2 ⟨rfl, rfl⟩
    go_wp2_with fail
    go_ret
    exact ⟨by rw [HM.out]; rfl, HK1.out⟩
  | true =>
  cases hI : ivB x.iv with
  | false =>
    have HM := hid (show mayA x = false by simp [mayA, hI])
    have HIm := hid hI
    clear hN hI
    go_enter Try.func35, Try.ntmps35
    go_upto_region 1 with (fail)
    generalize (w.alloc (.cells #[.int .u8 x.lv, .string x.dom, .string x.own, .int .u16 x.vid, .int .u8 x.iv, .slice x.p x.ms.length x.c] 50 (0, 0))) = W at *
    generalize w.heap.size = b at *
    obtain ⟨a0, a1, a2, a3, a4, a5⟩ := six_block HA.out
    go_wp2_with fail
    refine (put_names x.dom x.own _).mono ?_; rintro e w1 ⟨⟨s, er, rfl, her⟩, k1⟩
    rw [HNm.out] at her
    have HK1 := hid (KZ.out.trans k1)
    have H1 := hid (H.out.keepN k1)
    have hA1 := (k1.block _ (lt_of_block HA.out) (fun e => e)).trans HA.out
    clear a0 a1 a2 a3 a4 a5 k1
    obtain ⟨a0, a1, a2, a3, a4, a5⟩ := six_block hA1
    have HA1 := hid hA1
    clear hA1
    obtain rfl : er = 0 := by simpa using her
    clear her
    have VL := vlan_any x.vid w1
    rw [hV] at VL
    go_wp2_with fail
    refine VL.mono ?_; rintro e w2 ⟨rfl, rfl⟩
    go_wp2_with fail
    refine (ticks_any _ _).mono ?_; rintro e w2 ⟨⟨nt, rfl, hnt⟩, rfl⟩
    rw [HIm.out] at hnt
    obtain rfl : nt = 0 := by simpa using hnt
    go_wp2_with fail
    go_ret
    exact ⟨by rw [HM.out]; rfl, HK1.out⟩
  | true =>
  have HIm := hid hI
  by_cases h1 : x.ms.length < 1
  · have HM := hid (show mayA x = false by simp [mayA]; intros; omega)
    have i1 : (x.ms.length : Int) < 1 := by omega
    clear hN hI
    go_enter Try.func35, Try.ntmps35
    go_upto_region 1 with (fail)
    generalize (w.alloc (.cells #[.int .u8 x.lv, .string x.dom, .string x.own, .int .u16 x.vid, .int .u8 x.iv, .slice x.p x.ms.length x.c] 50 (0, 0))) = W at *
    generalize w.heap.size = b at *
    obtain ⟨a0, a1, a2, a3, a4, a5⟩ := six_block HA.out
    go_wp2_with fail
    refine (put_names x.dom x.own _).mono ?_; rintro e w1 ⟨⟨s, er, rfl, her⟩, k1⟩
    rw [HNm.out] at her
    have HK1 := hid (KZ.out.trans k1)
    have H1 := hid (H.out.keepN k1)
    have hA1 := (k1.block _ (lt_of_block HA.out) (fun e => e)).trans HA.out
    clear a0 a1 a2 a3 a4 a5 k1
    obtain ⟨a0, a1, a2, a3, a4, a5⟩ := six_block hA1
    have HA1 := hid hA1
    clear hA1
    obtain rfl : er = 0 := by simpa using her
    clear her
    have VL := vlan_any x.vid w1
    rw [hV] at VL
    go_wp2_with fail
    refine VL.mono ?_; rintro e w2 ⟨rfl, rfl⟩
    go_wp2_with fail
    refine (ticks_any _ _).mono ?_; rintro e w2 ⟨⟨nt, rfl, hnt⟩, rfl⟩
    rw [HIm.out] at hnt
    have hnt : nt ≠ 0 := by simpa using hnt
    go_wp2_with fail
    go_ret
    exact ⟨by rw [HM.out]; rfl, HK1.out⟩
  have i1 : ¬ (x.ms.length : Int) < 1 := by omega
  by_cases h8 : 8 < x.ms.length
  · have HM := hid (show mayA x = false by simp [mayA]; intros; omega)
    have i8 : 8 < (x.ms.length : Int) := by omega
    clear hN hI
    go_enter Try.func35, Try.ntmps35
    go_upto_region 1 with (fail)
    generalize (w.alloc (.cells #[.int .u8 x.lv, .string x.dom, .string x.own, .int .u16 x.vid, .int .u8 x.iv, .slice x.p x.ms.length x.c] 50 (0, 0))) = W at *
    generalize w.heap.size = b at *
    obtain ⟨a0, a1, a2, a3, a4, a5⟩ := six_block HA.out
    go_wp2_with fail
    refine (put_names x.dom x.own _).mono ?_; rintro e w1 ⟨⟨s, er, rfl, her⟩, k1⟩
    rw [HNm.out] at her
    have HK1 := hid (KZ.out.trans k1)
    have H1 := hid (H.out.keepN k1)
    have hA1 := (k1.block _ (lt_of_block HA.out) (fun e => e)).trans HA.out
    clear a0 a1 a2 a3 a4 a5 k1
    obtain ⟨a0, a1, a2, a3, a4, a5⟩ := six_block hA1
    have HA1 := hid hA1
    clear hA1
    obtain rfl : er = 0 := by simpa using her
    clear her
    have VL := vlan_any x.vid w1
    rw [hV] at VL
    go_wp2_with fail
    refine VL.mono ?_; rintro e w2 ⟨rfl, rfl⟩
    go_wp2_with fail
    refine (ticks_any _ _).mono ?_; rintro e w2 ⟨⟨nt, rfl, hnt⟩, rfl⟩
    rw [HIm.out] at hnt
    have hnt : nt ≠ 0 := by simpa using hnt
    go_wp2_with fail
    go_ret
    exact ⟨by rw [HM.out]; rfl, HK1.out⟩
  have i8 : ¬ 8 < (x.ms.length : Int) := by omega
  have HM := hid (show mayA x = risB x.ms by simp [mayA, hN, hV, hI]; intros; omega)
  clear hN hI
  go_enter Try.func35, Try.ntmps35
  go_upto_region 1 with (fail)
  generalize (w.alloc (.cells #[.int .u8 x.lv, .string x.dom, .string x.own, .int .u16 x.vid, .int .u8 x.iv, .slice x.p x.ms.length x.c] 50 (0, 0))) = W at *
  generalize w.heap.size = b at *
  obtain ⟨a0, a1, a2, a3, a4, a5⟩ := six_block HA.out
  go_wp2_with fail
  refine (put_names x.dom x.own _).mono ?_; rintro e w1 ⟨⟨s, er, rfl, her⟩, k1⟩
  rw [HNm.out] at her
  have HK1 := hid (KZ.out.trans k1)
  have H1 := hid (H.out.keepN k1)
  have hA1 := (k1.block _ (lt_of_block HA.out) (fun e => e)).trans HA.out
  clear a0 a1 a2 a3 a4 a5 k1
  obtain ⟨a0, a1, a2, a3, a4, a5⟩ := six_block hA1
  have HA1 := hid hA1
  clear hA1
  obtain rfl : er = 0 := by simpa using her
  clear her
  have VL := vlan_any x.vid w1
  rw [hV] at VL
  go_wp2_with fail
  refine VL.mono ?_; rintro e w2 ⟨rfl, rfl⟩
  go_wp2_with fail
  refine (ticks_any _ _).mono ?_; rintro e w2 ⟨⟨nt, rfl, hnt⟩, rfl⟩
  rw [HIm.out] at hnt
  have hnt : nt ≠ 0 := by simpa using hnt
  go_upto_region 4 with (fail)
  obtain ⟨n, hn⟩ : ∃ n, x.ms.length = n := ⟨_, rfl⟩
  have H1n := H1.out
  unfold MsV at H1n
  obtain ⟨p, hpp⟩ : ∃ p, x.p = p := ⟨_, rfl⟩
  rw [hn] at i1 i8 h1 h8 a5 H1n
  rw [hpp] at a5 H1n
  have H1n := hid H1n
  have HLn := hid hn
  clear hn hnt VL hpp
  go_wp2_with fail
  go_loopw [5, 6, 49] (fun s5 s6 s49 wr => ∃ k : Nat, k ≤ n ∧ s49 = .int .i64 k ∧ wr = w2 ∧ Hid (∀ j, j < k → numB x.ms j = true)) (fun _ _ s49 _ => n - (intOf s49).toNat)
  case atStart => exact ⟨0, Nat.zero_le _, rfl, rfl, hid (fun j hj => absurd hj (Nat.not_lt_zero _))⟩
  case round =>
    obtain ⟨k, hk, rfl, rfl, hall⟩ := hrel
    by_cases hlt : k < n
    · obtain ⟨y, hy⟩ : ∃ y, x.ms[k]? = some y := ⟨_, List.getElem?_eq_getElem (by have := HLn.out; omega)⟩
      obtain ⟨g, off, hp, _, hg, _, c0⟩ := H1n.out.atU hy
      have hnc : n ≤ x.c := H1n.out.2.1
      have hyd : x.ms.getD k 0 = y := by simp [List.getD, hy]
      have HYD := hid hyd
      have BAD : Hid (numB x.ms k = false → mayA x = false) := hid (fun h => by rw [HM.out]; exact ris_not (by have := HLn.out; omega) h)
      have NEXT : Hid (numB x.ms k = true → ∀ j, j < k + 1 → numB x.ms j = true) := hid (fun h j hj => by
        by_cases e : j = k
        · subst e; exact h
        · exact hall.out j (by omega))
      subst hp
      clear hy
      by_cases h1 : y < 1
      · have HF := hid (BAD.out (by rw [numB_eq HYD.out]; simp; intros; omega))
        clear hyd
        go_wp2_with fail
        go_ret
        exact ⟨by rw [HF.out]; rfl, HK1.out⟩
      by_cases h2 : 8191 < y
      · have HF := hid (BAD.out (by rw [numB_eq HYD.out]; simp; intros; omega))
        clear hyd
        go_wp2_with fail
        go_ret
        exact ⟨by rw [HF.out]; rfl, HK1.out⟩
      rcases k with _ | k
      · have HNX := hid (NEXT.out (by rw [numB_eq HYD.out]; simp; omega))
        rw [Nat.add_zero] at c0
        clear hyd
        go_wp2_with fail
        go_roundw
        case rel => exact ⟨1, by omega, by go_num, by trivial, hid HNX.out⟩
        case measure => simp only [intOf]; omega
      · obtain ⟨z, hz⟩ : ∃ z, x.ms[k]? = some z := ⟨_, List.getElem?_eq_getElem (by have := HLn.out; omega)⟩
        obtain ⟨g', off', hp', _, _, _, c1⟩ := H1n.out.atU hz
        obtain ⟨rfl, rfl⟩ : g' = g ∧ off' = off := by
          injection hp' with h5
          injection h5 with h5 h6
          exact ⟨h5.symm, h6.symm⟩
        have hzd : x.ms.getD k 0 = z := by simp [List.getD, hz]
        have HZD := hid hzd
        have hk0 : ¬ ((k : Int) + 1 ≤ 0) := by omega
        clear hz hp' hzd hyd
        by_cases h3 : y ≤ z
        · have HF := hid (BAD.out (by rw [numB_eq HYD.out, Nat.add_sub_cancel, HZD.out]; simp; intros; omega))
          go_wp2_with fail
          go_ret
          exact ⟨by rw [HF.out]; rfl, HK1.out⟩
        · have HNX := hid (NEXT.out (by rw [numB_eq HYD.out, Nat.add_sub_cancel, HZD.out]; simp; omega))
          go_wp2_with fail
          go_roundw
          case rel => exact ⟨k + 2, by omega, by go_num, by trivial, hid HNX.out⟩
          case measure => simp only [intOf]; omega
    · obtain rfl : k = n := by omega
      have HR := hid (show risB x.ms = true from ris_all (fun i hi => hall.out i (by have := HLn.out; omega)))
      go_wp2_with fail
      go_ret
      exact ⟨by rw [HM.out, HR.out]; rfl, HK1.out⟩
end Go.Proofs.Ytbgijlfdgfhceaa
