/-
  Layer 16: associations and numbers looked through; rows copied (slices.Clone). Conditions: they lie so.
-/
import Derived.Test.YtbgijlfdgfhceaaRowsM
import Derived.Maps.AppendAt
import Derived.Lib.SliceRun
namespace Go.Proofs.Ytbgijlfdgfhceaa
open Go.RowKit
set_option linter.unusedVariables false

set_option maxHeartbeats 4000000 in
theorem index_asc (P : As → Bool) (b0 : Nat) (B : Nat) (p : Option Addr) (n c : Nat) (L : List As) (w : World) (h : WV w B 6 p n c (flatA L)) (hm : n ≤ 9223372036854775807)
    (hp : ∀ (x : As) (W : World), (∃ i : Nat, L[i]? = some x) → Keeps Nil w W → Calls Try.prog 34 #[.agg #[.int .u8 x.lv, .string x.dom, .string x.own, .int .u16 x.vid, .int .u8 x.iv, .slice x.p x.ms.length x.c], .pointer (some ⟨b0, 0, Option.none⟩)] W fun e w' => e = .returned (.bool (P x)) ∧ Keeps Nil W w') :
    Calls Try.prog 47 #[.slice p n c, .func (.func 34) #[] #[.pointer (some ⟨b0, 0, Option.none⟩)]] w fun e w' => e = .returned (.int .i64 (idx (fun x => P x) L)) ∧ Keeps Nil w w' := by
  have HP := hid hp
  have H := hid h
  have HLEN := hid (show L.length = n from by have := h.1; rw [flatA_len] at this; omega)
  have HNC := hid (show n ≤ c from h.2.1)
  clear hp h
  go_enter Try.func47, Try.ntmps47
  go_wp2_with fail
  go_loopw [5, 8] (fun _ i wr => ∃ k : Nat, k ≤ n ∧ i = .int .i64 k ∧ Keeps Nil w wr ∧ Hid (∀ (j : Nat) (y : As), j < k → L[j]? = some y → (P y) = false)) (fun _ i _ => n - (intOf i).toNat)
  case atStart => exact ⟨0, Nat.zero_le _, rfl, Keeps.refl _ _, hid (fun j y hj => by omega)⟩
  case round =>
    obtain ⟨k, hk, rfl, kk, hall⟩ := hrel
    by_cases hlt : k < n
    · have hnc := HNC.out
      obtain ⟨x, hx⟩ : ∃ x, L[k]? = some x := ⟨_, List.getElem?_eq_getElem (by have := HLEN.out; omega)⟩
      obtain ⟨g, off, rfl, hb, hg, _, c0, c1, c2, c3, c4, c5⟩ := WV.atA (H.out.keepN kk) hx
      have HX := hid hx
      have HC := HP.out x
      have HC := hid (fun W => HC W ⟨k, hx⟩)
      clear hx
      cases hq : (P x) with
      | true =>
        have HQ := hid hq
        rw [hq] at HC
        clear hq
        go_wp2_with fail
        refine (HC.out _ kk).mono ?_; rintro ee w' ⟨rfl, kz⟩
        go_wp2_with fail
        go_ret
        rw [idx_hit (fun x => P x) L k x HX.out HQ.out hall.out]
        exact ⟨rfl, kk.trans kz⟩
      | false =>
        have HQ := hid hq
        rw [hq] at HC
        clear hq
        go_wp2_with fail
        refine (HC.out _ kk).mono ?_; rintro ee w' ⟨rfl, kz⟩
        go_wp2_with fail
        go_roundw
        case rel =>
          refine ⟨k + 1, by omega, by go_num, kk.trans kz, hid (fun j y hj hy => ?_)⟩
          by_cases e : j = k
          · subst e
            rw [HX.out] at hy
            cases hy
            exact HQ.out
          · exact hall.out j y (by omega) hy
        case measure => simp only [intOf]; omega
    · obtain rfl : k = n := by omega
      have hmiss := idx_miss (fun x => P x) L (fun j y hy => hall.out j y (by have := (List.getElem?_eq_some_iff.1 hy).1; have := HLEN.out; omega) hy)
      have HMI := hid hmiss
      clear hmiss
      go_wp2_with fail
      go_ret
      rw [HMI.out]
      exact ⟨rfl, kk⟩

set_option maxHeartbeats 4000000 in
theorem contains_asc (P : As → Bool) (b0 : Nat) (B : Nat) (p : Option Addr) (n c : Nat) (L : List As) (w : World) (h : WV w B 6 p n c (flatA L)) (hm : n ≤ 9223372036854775807)
    (hp : ∀ (x : As) (W : World), (∃ i : Nat, L[i]? = some x) → Keeps Nil w W → Calls Try.prog 34 #[.agg #[.int .u8 x.lv, .string x.dom, .string x.own, .int .u16 x.vid, .int .u8 x.iv, .slice x.p x.ms.length x.c], .pointer (some ⟨b0, 0, Option.none⟩)] W fun e w' => e = .returned (.bool (P x)) ∧ Keeps Nil W w') :
    Calls Try.prog 36 #[.slice p n c, .func (.func 34) #[] #[.pointer (some ⟨b0, 0, Option.none⟩)]] w fun e w' => e = .returned (.bool (L.any (fun x => P x))) ∧ Keeps Nil w w' := by
  have IX := index_asc P b0 B p n c L w h hm hp
  clear hp h
  rcases idx_any (fun x => P x) L with ⟨hi, ha⟩ | ⟨k, hi, ha⟩
  · rw [hi] at IX
    rw [ha]
    clear hi ha
    go_enter Try.func36, Try.ntmps36
    go_wp2_with fail
    refine IX.mono ?_; rintro e w1 ⟨rfl, k1⟩
    go_wp2_with fail
    go_ret
    exact ⟨rfl, k1⟩
  · rw [hi] at IX
    rw [ha]
    clear hi ha
    go_enter Try.func36, Try.ntmps36
    go_wp2_with fail
    refine IX.mono ?_; rintro e w1 ⟨rfl, k1⟩
    go_wp2_with fail
    go_ret
    exact ⟨rfl, k1⟩

def hasI (l : List Int) (v : Int) : Bool := l.any (fun y => v == y)
set_option maxHeartbeats 4000000 in
theorem index_u (v : Int) (B : Nat) (p : Option Addr) (n c : Nat) (L : List Int) (w : World) (h : WV w B 1 p n c (flatU L)) (hm : n ≤ 9223372036854775807) :
    Calls Try.prog 48 #[.slice p n c, .int .u16 v] w fun e w' => e = .returned (.int .i64 (idx (fun y => v == y) L)) ∧ w = w' := by
  have H := hid h
  have HLEN := hid (show L.length = n from by have := h.1; rw [flatU_len] at this; omega)
  have HNC := hid (show n ≤ c from h.2.1)
  clear h
  go_enter Try.func48, Try.ntmps48
  go_wp2_with fail
  go_loop [5, 8] (fun _ i => ∃ k : Nat, k ≤ n ∧ i = .int .i64 k ∧ Hid (∀ (j : Nat) (y : Int), j < k → L[j]? = some y → (v == y) = false)) (fun _ i => n - (intOf i).toNat)
  case atStart => exact ⟨0, Nat.zero_le _, rfl, hid (fun j y hj => by omega)⟩
  case round =>
    obtain ⟨k, hk, rfl, hall⟩ := hrel
    by_cases hlt : k < n
    · have hnc := HNC.out
      obtain ⟨x, hx⟩ : ∃ x, L[k]? = some x := ⟨_, List.getElem?_eq_getElem (by have := HLEN.out; omega)⟩
      obtain ⟨g, off, rfl, hb, hg, _, c0⟩ := WV.atU H.out hx
      have HX := hid hx
      clear hx
      cases hq : (v == x) with
      | true =>
        have HQ := hid hq
        go_wp2_with fail
        go_ret
        rw [idx_hit (fun y => v == y) L k x HX.out HQ.out hall.out]
        exact ⟨rfl, rfl⟩
      | false =>
        have HQ := hid hq
        go_wp2_with fail
        go_round
        case rel =>
          refine ⟨k + 1, by omega, by go_num, hid (fun j y hj hy => ?_)⟩
          by_cases e : j = k
          · subst e
            rw [HX.out] at hy
            cases hy
            exact HQ.out
          · exact hall.out j y (by omega) hy
        case measure => simp only [intOf]; omega
    · obtain rfl : k = n := by omega
      have hmiss := idx_miss (fun y => v == y) L (fun j y hy => hall.out j y (by have := (List.getElem?_eq_some_iff.1 hy).1; have := HLEN.out; omega) hy)
      have HMI := hid hmiss
      clear hmiss
      go_wp2_with fail
      go_ret
      rw [HMI.out]
      exact ⟨rfl, rfl⟩
set_option maxHeartbeats 4000000 in
theorem contains_u (v : Int) (B : Nat) (p : Option Addr) (n c : Nat) (L : List Int) (w : World) (h : WV w B 1 p n c (flatU L)) (hm : n ≤ 9223372036854775807) :
    Calls Try.prog 38 #[.slice p n c, .int .u16 v] w fun e w' => e = .returned (.bool (hasI L v)) ∧ w = w' := by
  have IX := index_u v B p n c L w h hm
  clear h
  unfold hasI
  rcases idx_any (fun y => v == y) L with ⟨hi, ha⟩ | ⟨k, hi, ha⟩
  · rw [hi] at IX
    rw [ha]
    clear hi ha
    go_enter Try.func38, Try.ntmps38
    go_wp2_with fail
    refine IX.mono ?_; rintro e w1 ⟨rfl, rfl⟩
    go_wp2_with fail
    go_ret
    exact ⟨rfl, rfl⟩
  · rw [hi] at IX
    rw [ha]
    clear hi ha
    go_enter Try.func38, Try.ntmps38
    go_wp2_with fail
    refine IX.mono ?_; rintro e w1 ⟨rfl, rfl⟩
    go_wp2_with fail
    go_ret
    exact ⟨rfl, rfl⟩

theorem einfou : (Try.prog.info? 23).map (fun i => (i.zero, i.size, i.bytes)) = some (some (.int .u16 0), 1, 2) := by kernel_rfl
set_option maxHeartbeats 2000000 in
theorem clone_u (B : Nat) (p : Option Addr) (n c : Nat) (L : List Int) (w : World) (h : WV w B 1 p n c (flatU L)) (hn : n ≤ 1000) :
    Calls Try.prog 32 #[.slice p n c] w fun e w' => (∃ p' c', e = .returned (.slice p' n c') ∧ w'.ownsRow w.heap.size 23 1 (.slice p' n c') n (flatU L)) ∧ Keeps Nil w w' := by
  obtain ⟨i0, hi, hz0, hz1, hz2⟩ := info_parts einfou
  have HI := hid (And.intro hi (And.intro hz0 (And.intro hz1 hz2)))
  have H := hid h
  clear hi hz0 hz1 hz2 h
  cases p with
  | none =>
    have hn0 : n = 0 := by
      rcases Nat.eq_zero_or_pos n with h0 | h0
      · exact h0
      · obtain ⟨g, off, e, _⟩ := H.out.2.2 h0
        cases e
    subst hn0
    have hL : flatU L = [] := List.eq_nil_of_length_eq_zero (by have := H.out.1; omega)
    have HL := hid hL
    clear hL
    have heq : ∀ W, (binOp .eql 35 (.slice Option.none 0 c) (.slice Option.none 0 0)).run Try.prog W = .ok (.bool true) W := fun W => Lib.run_eql_slice_nil (P := Try.prog) W 35 23 Option.none 0 c 0 0 Try.underlying35
    go_enter Try.func32, Try.ntmps32
    go_wp2_with fail
    go_ret
    exact ⟨⟨_, _, rfl, by rw [HL.out]; exact World.ownsRow_nil _ _ _ _⟩, Keeps.refl _ _⟩
  | some a =>
    have heq : ∀ W, (binOp .eql 35 (.slice (some a) n c) (.slice Option.none 0 0)).run Try.prog W = .ok (.bool false) W := fun W => Lib.run_eql_slice_nil (P := Try.prog) W 35 23 (some a) n c 0 0 Try.underlying35
    go_enter Try.func32, Try.ntmps32
    go_wp2_with (at_builtin; refine wpList_append_wv (o := ⟨some 7, _, _, _, _, _⟩) _ rfl _ _ 35 rfl w.heap.size 23 i0 (.int .u16 0) 1 2 Try.underlying35 HI.out.1 HI.out.2.1 HI.out.2.2.1 HI.out.2.2.2 rfl (by decide) (.slice (some ⟨w.heap.size, 0, Option.none⟩) 0 0) 0 [] rfl (World.ownsRow_made w #[] 0 (Nat.le_refl _) (by decide) rfl) B (some a) n c (flatU L) rfl (H.out.keepN ((Keeps.refl Nil w).alloc _)) (flatU_one L) (by unfold maxLen; omega) (by omega) (by simp) ?_; intro v1 w1 own1 hg1 hat1)
    go_ret
    simp only [Nat.zero_add, List.nil_append] at own1
    obtain ⟨p', c', hv⟩ := own_shape own1
    subst hv
    exact ⟨⟨p', c', rfl, own1⟩, ((Keeps.refl Nil w).alloc _).grown hg1 (fun k hk hlt => by simp [Value.ownBlock] at hk; omega)⟩

theorem einfom : (Try.prog.info? 59).map (fun i => (i.zero, i.size, i.bytes)) = some (some (.agg #[.int .i64 0, .int .u16 0, .int .u8 0, .bool false]), 4, 16) := by kernel_rfl
set_option maxHeartbeats 2000000 in
theorem clone_m (B : Nat) (p : Option Addr) (n c : Nat) (L : List Me) (w : World) (h : WV w B 4 p n c (flatE L)) (hn : n ≤ 1000) :
    Calls Try.prog 33 #[.slice p n c] w fun e w' => (∃ p' c', e = .returned (.slice p' n c') ∧ w'.ownsRow w.heap.size 59 4 (.slice p' n c') n (flatE L)) ∧ Keeps Nil w w' := by
  obtain ⟨i0, hi, hz0, hz1, hz2⟩ := info_parts einfom
  have HI := hid (And.intro hi (And.intro hz0 (And.intro hz1 hz2)))
  have H := hid h
  clear hi hz0 hz1 hz2 h
  cases p with
  | none =>
    have hn0 : n = 0 := by
      rcases Nat.eq_zero_or_pos n with h0 | h0
      · exact h0
      · obtain ⟨g, off, e, _⟩ := H.out.2.2 h0
        cases e
    subst hn0
    have hL : flatE L = [] := List.eq_nil_of_length_eq_zero (by have := H.out.1; omega)
    have HL := hid hL
    clear hL
    have heq : ∀ W, (binOp .eql 53 (.slice Option.none 0 c) (.slice Option.none 0 0)).run Try.prog W = .ok (.bool true) W := fun W => Lib.run_eql_slice_nil (P := Try.prog) W 53 59 Option.none 0 c 0 0 Try.underlying53
    go_enter Try.func33, Try.ntmps33
    go_wp2_with fail
    go_ret
    exact ⟨⟨_, _, rfl, by rw [HL.out]; exact World.ownsRow_nil _ _ _ _⟩, Keeps.refl _ _⟩
  | some a =>
    have heq : ∀ W, (binOp .eql 53 (.slice (some a) n c) (.slice Option.none 0 0)).run Try.prog W = .ok (.bool false) W := fun W => Lib.run_eql_slice_nil (P := Try.prog) W 53 59 (some a) n c 0 0 Try.underlying53
    go_enter Try.func33, Try.ntmps33
    go_wp2_with (at_builtin; refine wpList_append_wv (o := ⟨some 7, _, _, _, _, _⟩) _ rfl _ _ 53 rfl w.heap.size 59 i0 (.agg #[.int .i64 0, .int .u16 0, .int .u8 0, .bool false]) 4 16 Try.underlying53 HI.out.1 HI.out.2.1 HI.out.2.2.1 HI.out.2.2.2 rfl (by decide) (.slice (some ⟨w.heap.size, 0, Option.none⟩) 0 0) 0 [] rfl (World.ownsRow_made w #[] 0 (Nat.le_refl _) (by decide) rfl) B (some a) n c (flatE L) rfl (H.out.keepN ((Keeps.refl Nil w).alloc _)) (flatE_one L) (by unfold maxLen; omega) (by omega) (by simp) ?_; intro v1 w1 own1 hg1 hat1)
    go_ret
    simp only [Nat.zero_add, List.nil_append] at own1
    obtain ⟨p', c', hv⟩ := own_shape own1
    subst hv
    exact ⟨⟨p', c', rfl, own1⟩, ((Keeps.refl Nil w).alloc _).grown hg1 (fun k hk hlt => by simp [Value.ownBlock] at hk; omega)⟩
end Go.Proofs.Ytbgijlfdgfhceaa
