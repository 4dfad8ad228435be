/-
  Graphs: the law of the ways (GraphWays), walked. Conditions: the ids and links lie so.
-/
import Derived.Test.YthnkeppkhdceoaaWaysK
import Derived.Deep.QuietTactic
import Derived.BigQuiet
import Derived.Deep.CutRange
import Derived.StillTailTactics
namespace Go.Proofs.Ythnkeppkhdceoaa
open Go.RowKit
set_option linter.unusedVariables false
set_option linter.unusedSimpArgs false
set_option maxRecDepth 100000
theorem path_bad {w : World} {B : Nat} {ids : List Int} {L : List Lk} {a b : Int} {e : Ending} (hnp : ¬ PathOk ids L a b) (h : PathIs w B ids L a b e) : e = .returned (.tuple #[.slice Option.none 0 0, .int .i64 2]) := by
  rcases h with ⟨_, he⟩ | ⟨h1, _⟩
  · exact he
  · exact absurd h1 hnp
theorem path_no {w : World} {B : Nat} {ids : List Int} {L : List Lk} {a b : Int} {e : Ending} (hok : PathOk ids L a b) (hno : ∀ N P, Put ids ids.length L N → ¬ Wk (sidesOf L) (InN ids L N) b a (-1) P) (h : PathIs w B ids L a b e) :
    e = .returned (.tuple #[.slice Option.none 0 0, .int .i64 7]) := by
  rcases h with ⟨hn, _⟩ | ⟨_, N, hN, h⟩
  · exact absurd hok hn
  · rcases h with ⟨p, c, l, _, _, hw, _⟩ | ⟨he, _⟩
    · exact absurd hw (hno N l hN)
    · exact he
theorem path_yes {w : World} {B : Nat} {ids : List Int} {L : List Lk} {a b : Int} {e : Ending} {N : List Nd} {P : List Hp} (hok : PathOk ids L a b) (hT : InT ids L) (hl : L.length ≤ 1000) (hN : Put ids ids.length L N) (hP : Wk (sidesOf L) (InN ids L N) b a (-1) P) (h : PathIs w B ids L a b e) :
    ∃ p c, e = .returned (.tuple #[.slice p P.length c, .int .i64 0]) ∧ w.ownsRow B 45 3 (.slice p P.length c) P.length (flatH P) := by
  have gok := hok.1.gok hT hl
  rcases h with ⟨hn, _⟩ | ⟨_, N', hN', h⟩
  · exact absurd hok hn
  · obtain rfl := Put.unique gok hN' hN
    rcases h with ⟨p, c, l, rfl, ho, hw, _⟩ | ⟨_, hno⟩
    · obtain rfl := Wk.unique (hN.tr gok hok.1.apart) hw hP
      exact ⟨p, c, rfl, ho⟩
    · exact absurd hP (hno _)
theorem way_short {ids : List Int} {L : List Lk} {a b : Int} {n : Nat} {In : Nat → Bool} {P : List Hp} (hok : GOk ids n (sidesOf L)) (ha : 0 ≤ a ∧ a < n) (h : WayIs (sidesOf L) In a b P) : P.length ≤ 8 := by
  have hr : ∀ y ∈ P.map Hp.b, 0 ≤ y ∧ y < (n : Int) := by
    intro y hy
    obtain ⟨x, hx, rfl⟩ := List.mem_map.1 hy
    obtain ⟨i, hi⟩ := List.mem_iff_getElem?.1 hx
    match i with
    | 0 => rw [(h.first x hi).1]; exact ha
    | i + 1 =>
      have hlt : i < P.length := by have := (List.getElem?_eq_some_iff.1 hi).1; omega
      obtain ⟨s, hs, _, _, _, e, _⟩ := h.over i _ x (List.getElem?_eq_getElem hlt) hi
      rw [← e]; exact (hok.side s hs).2.1
  have hnd : (P.map Hp.b).Nodup := by
    unfold List.Nodup
    rw [List.pairwise_map, List.pairwise_iff_getElem]
    intro i j hi hj hij
    exact h.once i j _ _ hij (List.getElem?_eq_getElem hi) (List.getElem?_eq_getElem hj)
  have := nodup_len n _ hnd hr
  have := hok.n8
  simp at *
  omega
theorem own_max {w : World} {B e sz n : Nat} {v : Value} {xs : List Value} (h : w.ownsRow B e sz v n xs) : n ≤ maxLen := by
  rcases h.2 with ⟨_, rfl⟩ | ⟨g, cap, cur, _, _, _, hle, hm, _⟩
  · exact Nat.zero_le _
  · exact Nat.le_trans hle hm
theorem path_row {w : World} {B np : Nat} {ids : List Int} {L : List Lk} {a b : Int} {e : Ending} {N : List Nd} {P : List Hp} (hok : PathOk ids L a b) (hT : InT ids L) (hl : L.length ≤ 1000) (hN : Put ids ids.length L N) (hP : Wk (sidesOf L) (InN ids L N) b a (-1) P) (hnp : P.length = np) (h0 : 0 < np) (h : PathIs w B ids L a b e) :
    ∃ g off c, e = .returned (.tuple #[.slice (some ⟨g, off, Option.none⟩) np c, .int .i64 0]) ∧ np ≤ c ∧ RowH w g off P ∧ np ≤ maxLen := by
  obtain ⟨p, c, rfl, ho⟩ := path_yes hok hT hl hN hP h
  have hmx := own_max ho
  obtain ⟨hc, g, off, rfl, hr⟩ := rowH_own ho (by omega)
  subst hnp
  exact ⟨g, off, c, rfl, hc, hr, hmx⟩
theorem wk_back {ids : List Int} {L : List Lk} {a b : Int} {N : List Nd} {P : List Hp} (hm : MayG ids L) (hT : InT ids L) (hl : L.length ≤ 1000) (hN : Put ids ids.length L N) (hP : Wk (sidesOf L) (InN ids L N) b a (-1) P) : ∃ Q, Wk (sidesOf L) (InN ids L N) a b (-1) Q := by
  have tr := hN.tr (hm.gok hT hl) hm.apart
  obtain ⟨m, p1, wz, _⟩ := wk_wz hP
  exact ⟨_, wz_wk tr _ (Wz.back tr wz)⟩
section
variable {w : World} {BI n₀ n ci nl cl : Nat} {pi pl : Option Addr} {ids : List Int} {L : List Lk} {a b : Int}
theorem ways_great (h : 20 < (n : Int) ∨ 30 < (nl : Int)) : Calls Try.prog 4 #[.slice pi n ci, .slice pl nl cl, .int .i64 a, .int .i64 b] w fun e w' => e = .returned (.bool true) ∧ Keeps Nil w w' := by
  by_cases h1 : 20 < (n : Int)
  · go_enter Try.func4, Try.ntmps4
    go_wp2_with (go_at_call 6; refine (wakes_any _).mono ?_; rintro e w9 ⟨rfl, k9⟩; have K9 := hid k9; clear k9)
    go_ret
    exact ⟨rfl, K9.out⟩
  · have h2 : 30 < (nl : Int) := by omega
    go_enter Try.func4, Try.ntmps4
    go_wp2_with (go_at_call 6; refine (wakes_any _).mono ?_; rintro e w9 ⟨rfl, k9⟩; have K9 := hid k9; clear k9)
    go_ret
    exact ⟨rfl, K9.out⟩
set_option maxHeartbeats 4000000 in
theorem ways_bad (hI : WV w BI 1 pi n ci (idc ids)) (hL : LSl n₀ w pl cl L) (hn0 : n₀ ≤ w.heap.size) (hnl : L.length = nl) (hT : InT ids L) (h20 : ¬ 20 < (n : Int)) (h30 : ¬ 30 < (nl : Int)) (hnp : ¬ PathOk ids L a b) : Calls Try.prog 4 #[.slice pi n ci, .slice pl nl cl, .int .i64 a, .int .i64 b] w fun e w' => e = .returned (.bool true) ∧ Keeps Nil w w' := by
  have HI := hid hI
  have HL := hid hL
  have HT := hid hT
  have hlen : ids.length = n := by have := hI.1; simpa [idc] using this
  clear hI hL hT
  have HNP2 := hid hnp
  have HNP4 := hid (show ¬ PathOk ids L b a from fun h => hnp h.swap)
  have hcs : mayB ids L = false ∨ mayB ids L = true ∧ (a < 0 ∨ (¬ a < 0 ∧ (n : Int) ≤ a) ∨ (¬ a < 0 ∧ ¬ (n : Int) ≤ a ∧ b < 0) ∨ (¬ a < 0 ∧ ¬ (n : Int) ≤ a ∧ ¬ b < 0 ∧ (n : Int) ≤ b)) := by
    by_cases hb : mayB ids L = true
    · refine .inr ⟨hb, ?_⟩
      have hm := mayB_iff.1 hb
      by_cases hc : (0 ≤ a ∧ a < (n : Int)) ∧ (0 ≤ b ∧ b < (n : Int))
      · exact absurd ⟨hm, by rw [hlen]; exact hc.1, by rw [hlen]; exact hc.2⟩ hnp
      · omega
    · exact .inl ((Bool.not_eq_true _).mp hb)
  clear hnp
  rcases hcs with hb | ⟨hb, h1 | ⟨h1, h2⟩ | ⟨h1, h2, h3⟩ | ⟨h1, h2, h3, h4⟩⟩
  all_goals
    go_enter Try.func4, Try.ntmps4
    go_wp2_with (first | (go_at_call 6; refine (wakes_any _).mono ?_; rintro e w9 ⟨rfl, k9⟩; have K9 := hid k9; clear k9) | (have qq := K4; clear qq; go_at_call 9; refine (rmay_any (HI.out.keepN K4.out) ((HL.out.below (K4.out.below (fun _ _ e => e)) hn0).mono (Nat.le_trans hn0 K4.out.size)) hnl (by omega) (by omega) HT.out).mono ?_; rintro e w5 ⟨rfl, k5⟩; rw [hb]; have K5 := hid (K4.out.trans k5); clear k5) | (have qq := K3; clear qq; go_at_call 11; refine (Path_any (HI.out.keepN K3.out) HM3.out hnl (by omega) (by omega) HT.out).mono ?_; rintro e w4 ⟨k4, hp4⟩; have K4 := hid (K3.out.trans k4); (obtain rfl := path_bad HNP4.out hp4; clear hp4); clear k4) | (have qq := K2.out; clear qq; go_at_call 8; refine (wp_of HL.out hn0 hnl (by omega) K2.out).mono ?_; rintro e w3 ⟨p3, c3, rfl, hM3, k3⟩; have HM3 := hid hM3; have K3 := hid (Keeps.trans K2.out k3); clear hM3 k3) | (have qq := K1; clear qq; go_at_call 11; refine (Path_any (HI.out.keepN K1.out) HM1.out hnl (by omega) (by omega) HT.out).mono ?_; rintro e w2 ⟨k2, hp2⟩; have K2 := hid (K1.out.trans k2); (obtain rfl := path_bad HNP2.out hp2; clear hp2); clear k2) | (go_at_call 8; refine (wp_of HL.out hn0 hnl (by omega) (Keeps.refl Nil w)).mono ?_; rintro e w1 ⟨p1, c1, rfl, hM1, k1⟩; have HM1 := hid hM1; have K1 := hid (Keeps.trans (Keeps.refl Nil w) k1); clear hM1 k1))
    go_ret
    exact ⟨rfl, K5.out.trans K9.out⟩
set_option maxHeartbeats 8000000 in
theorem ways_none (hI : WV w BI 1 pi n ci (idc ids)) (hL : LSl n₀ w pl cl L) (hn0 : n₀ ≤ w.heap.size) (hnl : L.length = nl) (hT : InT ids L) (h20 : ¬ 20 < (n : Int)) (h30 : ¬ 30 < (nl : Int)) (hok : PathOk ids L a b) (hno : ∀ N P, Put ids ids.length L N → ¬ Wk (sidesOf L) (InN ids L N) b a (-1) P) : Calls Try.prog 4 #[.slice pi n ci, .slice pl nl cl, .int .i64 a, .int .i64 b] w fun e w' => e = .returned (.bool true) ∧ Keeps Nil w w' := by
  have HI := hid hI
  have HL := hid hL
  have HT := hid hT
  have hlen : ids.length = n := by have := hI.1; simpa [idc] using this
  clear hI hL hT
  have hb : mayB ids L = true := mayB_true hok.1
  have hl50 : L.length ≤ 1000 := by omega
  have h1 : ¬ a < 0 := by have := hok.2.1; omega
  have h2 : ¬ (n : Int) ≤ a := by have := hok.2.1; omega
  have h3 : ¬ b < 0 := by have := hok.2.2; omega
  have h4 : ¬ (n : Int) ≤ b := by have := hok.2.2; omega
  obtain ⟨ka, rfl⟩ : ∃ k : Nat, a = (k : Int) := ⟨a.toNat, by omega⟩
  obtain ⟨kb, rfl⟩ : ∃ k : Nat, b = (k : Int) := ⟨b.toNat, by omega⟩
  have hka : ka < n := by omega
  have hkb : kb < n := by omega
  have HOK := hid hok
  have HNO2 := hid hno
  have HNO4 := hid (show ∀ N P, Put ids ids.length L N → ¬ Wk (sidesOf L) (InN ids L N) ka kb (-1) P from fun N P hN hP => by
    obtain ⟨Q, hQ⟩ := wk_back HOK.out.1 HT.out hl50 hN hP
    exact hno N Q hN hQ)
  have HNE := hid (show ∀ N, Put ids ids.length L N → (valOf N ka).1 ≠ (valOf N kb).1 from fun N hN e => by
    have gok := HOK.out.1.gok HT.out hl50
    obtain ⟨l, p', wz⟩ := hN.joined gok HOK.out.1.apart HOK.out.2.1 HOK.out.2.2 e
    exact hno N _ hN (wz_wk (hN.tr gok HOK.out.1.apart) _ wz))
  clear hno hok
  go_enter Try.func4, Try.ntmps4
  go_wp2_with (first | (have qq := K6; clear qq; go_at_call 7; refine (Tree_any (HI.out.keepN K6.out) HM6.out hnl (by omega) (by omega) HT.out).mono ?_; rintro e w7 ⟨k7, ht7⟩; obtain ⟨gN, c3, gI, N, rfl, hTA⟩ : ∃ gN c3 gI N, e = .returned (.tuple #[.slice (some ⟨gN, 0, Option.none⟩) n c3, .slice (some ⟨gI, 0, Option.none⟩) nl nl, .int .i64 0]) ∧ TreeAt w7 w6.heap.size ids n nl L gN c3 gI N := (by rcases ht7 with ⟨hx, _⟩ | ⟨_, hx⟩; exact absurd (hb.symm.trans hx) (by decide); exact hx); have K7 := hid (K6.out.trans k7); have HTA := hid hTA; obtain ⟨na, hna, hra⟩ := node_at (x := (ka : Int)) (by have := HTA.out.put; rw [← hlen] at this; exact this) ⟨by omega, by omega⟩; obtain ⟨nb, hnb, hrb⟩ := node_at (x := (kb : Int)) (by have := HTA.out.put; rw [← hlen] at this; exact this) ⟨by omega, by omega⟩; rw [Int.toNat_natCast] at hna hnb; have hrow := (show Row w7 gN c3 (Nq ids L N) from by have := HTA.out.row; rw [← hlen] at this; exact this); have gl := hrow.lt; have ca := (hrow.read hna).1.1; have cb := (hrow.read hnb).1.1; clear hrow; have hne : ¬ na.r = nb.r := (by rw [hra, hrb]; exact HNE.out N (by have := HTA.out.put; rw [← hlen] at this; exact this)); clear k7 ht7 hTA) | (have qq := K4; clear qq; go_at_call 9; refine (rmay_any (HI.out.keepN K4.out) ((HL.out.below (K4.out.below (fun _ _ e => e)) hn0).mono (Nat.le_trans hn0 K4.out.size)) hnl (by omega) (by omega) HT.out).mono ?_; rintro e w5 ⟨rfl, k5⟩; rw [hb]; have K5 := hid (K4.out.trans k5); clear k5) | (have qq := K3; clear qq; go_at_call 11; refine (Path_any (HI.out.keepN K3.out) HM3.out hnl (by omega) (by omega) HT.out).mono ?_; rintro e w4 ⟨k4, hp4⟩; have K4 := hid (K3.out.trans k4); (obtain rfl := path_no HOK.out.swap HNO4.out hp4; clear hp4); clear k4) | (have qq := K5.out; clear qq; go_at_call 8; refine (wp_of HL.out hn0 hnl (by omega) K5.out).mono ?_; rintro e w6 ⟨p6, c6, rfl, hM6, k6⟩; have HM6 := hid hM6; have K6 := hid (Keeps.trans K5.out k6); clear hM6 k6) | (have qq := K2.out; clear qq; go_at_call 8; refine (wp_of HL.out hn0 hnl (by omega) K2.out).mono ?_; rintro e w3 ⟨p3, c3, rfl, hM3, k3⟩; have HM3 := hid hM3; have K3 := hid (Keeps.trans K2.out k3); clear hM3 k3) | (have qq := K1; clear qq; go_at_call 11; refine (Path_any (HI.out.keepN K1.out) HM1.out hnl (by omega) (by omega) HT.out).mono ?_; rintro e w2 ⟨k2, hp2⟩; have K2 := hid (K1.out.trans k2); (obtain rfl := path_no HOK.out HNO2.out hp2; clear hp2); clear k2) | (go_at_call 8; refine (wp_of HL.out hn0 hnl (by omega) (Keeps.refl Nil w)).mono ?_; rintro e w1 ⟨p1, c1, rfl, hM1, k1⟩; have HM1 := hid hM1; have K1 := hid (Keeps.trans (Keeps.refl Nil w) k1); clear hM1 k1))
  go_quiet (fail)
  go_wp2_with (go_at_call 6; refine (wakes_any _).mono ?_; rintro e w9 ⟨rfl, k9⟩; have K9 := hid k9; clear k9)
  go_ret
  exact ⟨rfl, K7.out.trans ((Keeps.drewN _ _).trans K9.out)⟩
set_option maxHeartbeats 16000000 in
theorem ways_way (hI : WV w BI 1 pi n ci (idc ids)) (hL : LSl n₀ w pl cl L) (hn0 : n₀ ≤ w.heap.size) (hnl : L.length = nl) (hT : InT ids L) (h20 : ¬ 20 < (n : Int)) (h30 : ¬ 30 < (nl : Int)) (hok : PathOk ids L a b) {N : List Nd} {P : List Hp} (hN : Put ids ids.length L N) (hP : Wk (sidesOf L) (InN ids L N) b a (-1) P) : Calls Try.prog 4 #[.slice pi n ci, .slice pl nl cl, .int .i64 a, .int .i64 b] w fun e w' => e = .returned (.bool true) ∧ Keeps Nil w w' := by
  have HI := hid hI
  have HL := hid hL
  have HT := hid hT
  have hlen : ids.length = n := by have := hI.1; simpa [idc] using this
  clear hI hL hT
  have hb : mayB ids L = true := mayB_true hok.1
  have hl50 : L.length ≤ 1000 := by omega
  have h1 : ¬ a < 0 := by have := hok.2.1; omega
  have h2 : ¬ (n : Int) ≤ a := by have := hok.2.1; omega
  have h3 : ¬ b < 0 := by have := hok.2.2; omega
  have h4 : ¬ (n : Int) ≤ b := by have := hok.2.2; omega
  obtain ⟨ka, rfl⟩ : ∃ k : Nat, a = (k : Int) := ⟨a.toNat, by omega⟩
  obtain ⟨kb, rfl⟩ : ∃ k : Nat, b = (k : Int) := ⟨b.toNat, by omega⟩
  have hka : ka < n := by omega
  have hkb : kb < n := by omega
  have HOK := hid hok
  have tr := hN.tr (HOK.out.1.gok HT.out hl50) HOK.out.1.apart
  obtain ⟨Q, hQ⟩ := wk_back HOK.out.1 HT.out hl50 hN hP
  obtain ⟨hway, hlq, hback⟩ := ways_same tr hP hQ
  have HRE := hid (show (valOf N ka).1 = (valOf N kb).1 from by
    obtain ⟨_, p1, wz, _⟩ := wk_wz hP
    exact (Wz.root tr wz).symm)
  obtain ⟨m, hm⟩ : ∃ m, P.length = m + 1 := ⟨P.length - 1, by have := hway.len; omega⟩
  have hQl : Q.length = m + 1 := by omega
  have hm8 : m < 8 := by
    have := way_short (HOK.out.1.gok HT.out hl50) HOK.out.2.1 hway
    omega
  have HN := hid hN
  have HP := hid hP
  have HQ := hid hQ
  have HWI := hid hway
  have HBK := hid (show ∀ (k : Nat) (x : Hp), P[k]? = some x → Q[m - k]? = some ⟨x.b, x.o, x.i⟩ from fun k x hx => by
    have := hback k x hx
    rw [hQl, show m + 1 - 1 - k = m - k by omega] at this
    exact this)
  clear hN hP hQ hway hback hok tr hlq
  go_enter Try.func4, Try.ntmps4
  go_upto_region 10 with (first | (have qq := K6; clear qq; go_at_call 7; refine (Tree_any (HI.out.keepN K6.out) HM6.out hnl (by omega) (by omega) HT.out).mono ?_; rintro e w7 ⟨k7, ht7⟩; obtain ⟨gN, c3, gI, N, rfl, hTA⟩ : ∃ gN c3 gI N, e = .returned (.tuple #[.slice (some ⟨gN, 0, Option.none⟩) n c3, .slice (some ⟨gI, 0, Option.none⟩) nl nl, .int .i64 0]) ∧ TreeAt w7 w6.heap.size ids n nl L gN c3 gI N := (by rcases ht7 with ⟨hx, _⟩ | ⟨_, hx⟩; exact absurd (hb.symm.trans hx) (by decide); exact hx); have K7 := hid (K6.out.trans k7); have HTA := hid hTA; have hput := HTA.out.put; rw [← hlen] at hput; obtain rfl := Put.unique (HOK.out.1.gok HT.out hl50) hput HN.out; obtain ⟨na, hna, hra⟩ := node_at (x := (ka : Int)) hput ⟨by omega, by omega⟩; obtain ⟨nb, hnb, hrb⟩ := node_at (x := (kb : Int)) hput ⟨by omega, by omega⟩; rw [Int.toNat_natCast] at hna hnb; have hrow := (show Row w7 gN c3 (Nq ids L N) from by have := HTA.out.row; rw [← hlen] at this; exact this); have gl := hrow.lt; have ca := (hrow.read hna).1.1; have cb := (hrow.read hnb).1.1; clear hrow; have hre : na.r = nb.r := (by rw [hra, hrb]; exact HRE.out); rw [← hre] at cb; have HGI := hid (show w7.heap[gI]? = some (.cells (inRow (Nq ids L N) (sidesOf L) nl).toArray 4 (0, 0)) from by have := HTA.out.blk; rw [← hlen] at this; exact this); clear hput hre hra hrb; have HRP := hid (HRP.out.keep k7); have HRQ := hid (HRQ.out.keep k7); clear k7 ht7 hTA) | (have qq := K4; clear qq; go_at_call 9; refine (rmay_any (HI.out.keepN K4.out) ((HL.out.below (K4.out.below (fun _ _ e => e)) hn0).mono (Nat.le_trans hn0 K4.out.size)) hnl (by omega) (by omega) HT.out).mono ?_; rintro e w5 ⟨rfl, k5⟩; rw [hb]; have K5 := hid (K4.out.trans k5); have HRP := hid (HRP.out.keep k5); have HRQ := hid (HRQ.out.keep k5); clear k5) | (have qq := K3; clear qq; go_at_call 11; refine (Path_any (HI.out.keepN K3.out) HM3.out hnl (by omega) (by omega) HT.out).mono ?_; rintro e w4 ⟨k4, hp4⟩; have K4 := hid (K3.out.trans k4); (obtain ⟨gQ, oQ, cQ, rfl, hcQ, hrQ, _⟩ := path_row HOK.out.swap HT.out hl50 HN.out HQ.out hQl (by omega) hp4; have HRQ := hid hrQ; clear hrQ hp4); have HRP := hid (HRP.out.keep k4); clear k4) | (have qq := K5.out; clear qq; go_at_call 8; refine (wp_of HL.out hn0 hnl (by omega) K5.out).mono ?_; rintro e w6 ⟨p6, c6, rfl, hM6, k6⟩; have HM6 := hid hM6; have K6 := hid (Keeps.trans K5.out k6); have HRP := hid (HRP.out.keep k6); have HRQ := hid (HRQ.out.keep k6); clear hM6 k6) | (have qq := K2.out; clear qq; go_at_call 8; refine (wp_of HL.out hn0 hnl (by omega) K2.out).mono ?_; rintro e w3 ⟨p3, c3, rfl, hM3, k3⟩; have HM3 := hid hM3; have K3 := hid (Keeps.trans K2.out k3); have HRP := hid (HRP.out.keep k3); clear hM3 k3) | (have qq := K1; clear qq; go_at_call 11; refine (Path_any (HI.out.keepN K1.out) HM1.out hnl (by omega) (by omega) HT.out).mono ?_; rintro e w2 ⟨k2, hp2⟩; have K2 := hid (K1.out.trans k2); (obtain ⟨gP, oP, cP, rfl, hcP, hrP, _⟩ := path_row HOK.out HT.out hl50 HN.out HP.out hm (by omega) hp2; have HRP := hid hrP; clear hrP hp2); clear k2) | (go_at_call 8; refine (wp_of HL.out hn0 hnl (by omega) (Keeps.refl Nil w)).mono ?_; rintro e w1 ⟨p1, c1, rfl, hM1, k1⟩; have HM1 := hid hM1; have K1 := hid (Keeps.trans (Keeps.refl Nil w) k1); clear hM1 k1))
  go_cut [121] from 19 to 121 (fun s121 wx => s121 = .bool false ∧ ∃ q, wx = w7.drewN q)
  case first =>
    go_quiet (fail)
    go_wp2_with fail
    go_meet
    exact ⟨rfl, nq, rfl⟩
  case rest =>
    obtain ⟨rfl, qq, rfl⟩ := hcut
    clear ca cb
    obtain ⟨x0, hx0⟩ : ∃ x, P[0]? = some x := ⟨_, List.getElem?_eq_getElem (by omega)⟩
    obtain ⟨xm, hxm⟩ : ∃ x, P[m]? = some x := ⟨_, List.getElem?_eq_getElem (by omega)⟩
    have f0 : w7.cell? ⟨gP, oP, Option.none⟩ = some (.int .i64 (ka : Int)) ∧ w7.cell? ⟨gP, oP + 1, Option.none⟩ = some (.int .i64 (-1)) := by
      have h1 := HRP.out.2 0 x0 hx0
      obtain ⟨e1, e2⟩ := HWI.out.first x0 hx0
      rw [Nat.zero_mul, Nat.add_zero, e1, e2] at h1
      exact ⟨h1.1, h1.2.1⟩
    have f1 : w7.cell? ⟨gP, oP + m * 3, Option.none⟩ = some (.int .i64 (kb : Int)) ∧ w7.cell? ⟨gP, oP + m * 3 + 2, Option.none⟩ = some (.int .i64 (-1)) := by
      have h1 := HRP.out.2 m xm hxm
      obtain ⟨e1, e2⟩ := HWI.out.last xm (by rw [hm]; exact hxm)
      rw [e1, e2] at h1
      exact ⟨h1.1, h1.2.2⟩
    obtain ⟨f00, f01⟩ := f0
    obtain ⟨f10, f12⟩ := f1
    have hgP := HRP.out.1
    have hm0 : ¬ (m : Int) + 1 = 0 := by omega
    have hm0b : ((m : Int) + 1 == 0) = false := beq_false_of_ne hm0
    clear hx0 hxm
    go_upto_region 12 with fail
    go_cut [192] from 122 to 192 (fun s192 wx => s192 = .bool false ∧ wx = w7.drewN qq)
    case first =>
      as_aux_lemma =>
        go_wp2_with fail
        go_meet
        exact ⟨rfl, rfl⟩
    case rest =>
      obtain ⟨rfl, rfl⟩ := hcut
      clear f00 f01 f10 f12 hm0 hm0b
      go_wp2_with fail
      go_loopw [16] (fun s16 wq => ∃ k : Nat, k ≤ m + 1 ∧ s16 = .int .i64 k ∧ Hid (Keeps Nil w7 wq)) (fun s16 _ => m + 1 - (intOf s16).toNat)
      case atStart => exact ⟨0, Nat.zero_le _, rfl, hid (Keeps.drewN _ _)⟩
      case round =>
        obtain ⟨k, hk, rfl, HKR⟩ := hrel
        by_cases hkl : k < m + 1
        · obtain ⟨x, hx⟩ : ∃ x, P[k]? = some x := ⟨_, List.getElem?_eq_getElem (by omega)⟩
          have hq := HBK.out k x hx
          have hrP := (HRP.out.keep HKR.out).2 k x hx
          have hrQ := (HRQ.out.keep HKR.out).2 (m - k) _ hq
          obtain ⟨a0, a1, a2⟩ := hrP
          obtain ⟨b0, b1, b2⟩ := hrQ
          have lP := (HRP.out.keep HKR.out).1
          have lQ := (HRQ.out.keep HKR.out).1
          obtain ⟨j, hj⟩ : ∃ j, m = k + j := ⟨m - k, by omega⟩
          rw [show m - k = j by omega] at b0 b1 b2
          have hs : (m : Int) - k = (j : Int) := by omega
          have hjm : (j : Int) < m + 1 := by omega
          have HX := hid hx
          have HJ := hid hj
          clear hx hq hj
          go_upto_region 18 with fail
          go_quiet (fail)
          go_wp2_with fail
          clear a0 a1 a2 b0 b1 b2 lP lQ
          go_loopw [18] (fun s18 wq2 => ∃ i : Nat, i ≤ k ∧ s18 = .int .i64 i ∧ Hid (Keeps Nil wr wq2)) (fun s18 _ => k - (intOf s18).toNat)
          case atStart => exact ⟨0, Nat.zero_le _, rfl, hid (((Keeps.refl Nil wr).alloc _).trans (Keeps.drewN _ _))⟩
          case round =>
            obtain ⟨i, hi, rfl, HK2⟩ := hrel
            by_cases hik : i < k
            · obtain ⟨y, hy⟩ : ∃ y, P[i]? = some y := ⟨_, List.getElem?_eq_getElem (by omega)⟩
              have hrow := HRP.out.keep (HKR.out.trans HK2.out)
              have a0 := (hrow.2 i y hy).1
              have b0 := (hrow.2 k x HX.out).1
              have lP := hrow.1
              have hne : ¬ y.b = x.b := HWI.out.once i k y x hik hy HX.out
              clear hrow hy
              go_upto_region 23 with fail
              go_quiet (fail)
              go_wp2_with fail
              go_roundw
              case rel => exact ⟨i + 1, by omega, by go_num, hid (HK2.out.trans (Keeps.drewN _ _))⟩
              case measure => simp [intOf]; omega
            · have hki : i = k := by omega
              subst hki
              rcases i with _ | i
              · go_upto_region 25 with fail
                go_quiet (fail)
                go_wp2_with fail
                go_roundw
                case rel => exact ⟨1, by omega, by go_num, hid ((HKR.out.trans HK2.out).trans (Keeps.drewN _ _))⟩
                case measure => simp [intOf]
              · obtain ⟨y, hy⟩ : ∃ y, P[i]? = some y := ⟨_, List.getElem?_eq_getElem (by omega)⟩
                have hrow := HRP.out.keep (HKR.out.trans HK2.out)
                obtain ⟨a0, a1, a2⟩ := hrow.2 i y hy
                obtain ⟨b0, b1, b2⟩ := hrow.2 (i + 1) x HX.out
                have lP := hrow.1
                have HOV := hid (HWI.out.over i y x hy HX.out)
                have HNE := hid (HWI.out.once i (i + 1) y x (by omega) hy HX.out)
                have hi0 : (0 : Int) < ((i + 1 : Nat) : Int) := by omega
                have HIM := hid (show i + 1 < m + 1 from hkl)
                clear hrow hy
                go_upto_region 25 with fail
                have hwi : IntKind.i64.wrap (i : Int) = i := by rw [IntKind.wrap_i64]; have := HIM.out; omega
                have hl1 : (i : Int) < m + 1 := by have := HIM.out; omega
                have hl2 : (i : Int) + 1 < m + 1 := by have := HIM.out; omega
                have hl3 : (0 : Int) ≤ i + 1 := by omega
                have hl4 : ((i : Int) + 1).toNat = i + 1 := by omega
                have KX := hid ((K7.out.trans (HKR.out.trans HK2.out)).drew)
                have KY := hid ((HKR.out.trans HK2.out).drew)
                go_still_tail 14, (by kernel_rfl)
                change wpList _ _ _ _ _ wr.drew
                generalize wr.drew = w20 at *
                clear hwi hl1 hl2 hl3 hl4 a0 a1 a2 b0 b1 b2
                go_wp2_with (go_at_call 12; refine (over_is (ids := ids) (N := N) (A := y) (B := x) (HL.out.below (KX.out.below (fun _ _ e => e)) hn0) (Nat.le_trans hn0 KX.out.size) hnl (by omega) HNE.out HT.out ((KY.out.block _ (lt_of_block HGI.out) (fun e => e)).trans HGI.out) HOV.out).mono ?_; rintro e w12 ⟨rfl, k12⟩; have K12 := hid k12; clear k12)
                go_roundw
                case rel => exact ⟨i + 1 + 1, by have := HIM.out; omega, by go_num, hid (KY.out.trans K12.out)⟩
                case measure => simp [intOf]; have := HIM.out; omega
        · have hkm : k = m + 1 := by omega
          subst hkm
          go_wp2_with (go_at_call 6; refine (wakes_any _).mono ?_; rintro e w9 ⟨rfl, k9⟩; have K9 := hid k9; clear k9)
          go_ret
          exact ⟨rfl, K7.out.trans (HKR.out.trans K9.out)⟩
theorem ways_any (hI : WV w BI 1 pi n ci (idc ids)) (hL : LSl n₀ w pl cl L) (hn0 : n₀ ≤ w.heap.size) (hnl : L.length = nl) (hT : InT ids L) : Calls Try.prog 4 #[.slice pi n ci, .slice pl nl cl, .int .i64 a, .int .i64 b] w fun e w' => e = .returned (.bool true) ∧ Keeps Nil w w' := by
  by_cases h20 : 20 < (n : Int)
  · exact ways_great (.inl h20)
  · by_cases h30 : 30 < (nl : Int)
    · exact ways_great (.inr h30)
    · by_cases hok : PathOk ids L a b
      · by_cases hd : ∃ N P, Put ids ids.length L N ∧ Wk (sidesOf L) (InN ids L N) b a (-1) P
        · obtain ⟨N, P, hN, hP⟩ := hd
          exact ways_way hI hL hn0 hnl hT h20 h30 hok hN hP
        · exact ways_none hI hL hn0 hnl hT h20 h30 hok (fun N P hN hP => hd ⟨N, P, hN, hP⟩)
      · exact ways_bad hI hL hn0 hnl hT h20 h30 hok
end
end Go.Proofs.Ythnkeppkhdceoaa
