/-
  Layer 9: do two machines tell the same? Two rows of words. Conditions: both lie as one plain machine says; both rows hold the same words.
-/
import Derived.Test.YtbbodecdijankaaRFor
import Derived.Test.YtbbodecdijankaaHear
import Derived.Test.YtbbodecdijankaaTells
import Derived.Test.YtbbodecdijankaaNils
import Derived.Deep.RegionHeld3
import Derived.BigGuard
namespace Go.Proofs.Ytbbodecdijankaa
open Go.RowKit
set_option linter.unusedVariables false
set_option linter.unusedSimpArgs false
set_option maxRecDepth 8000

theorem u8ten (i : Nat) (h : i < 10) : IntKind.u8.wrap (i : Int) = i := by
  simp [IntKind.wrap, IntKind.signed, IntKind.bits]; omega
set_option maxHeartbeats 8000000 in
theorem same_any {w : World} {m g c m' g' c' f' : Nat} {τ : TM} (h : Mach w m g c τ) (hr : RMach w m' g' c' f' τ) :
    Calls Try.prog 22 #[.pointer (some ⟨m, 0, Option.none⟩), .pointer (some ⟨m', 0, Option.none⟩)] w fun e w' => e = .returned (.bool true) ∧ Keeps Nil w w' := by
  have H := hid h
  have R := hid hr
  have RT := hid (root_any h)
  clear h hr
  go_enter Try.func22, Try.ntmps22
  go_wp2_with fail
  refine RT.out.mono ?_; rintro e w1 ⟨rfl, k1⟩
  have K1 := hid k1
  obtain ⟨⟨_, _, n2, n3, _, _, n6, _⟩, _⟩ := (R.out.keepN k1).cells
  have e1 : (τ.root != τ.root) = false := by simp
  have e2 : (τ.cost != τ.cost) = false := by simp
  have e3 : (τ.ver != τ.ver) = false := by simp
  clear k1
  go_upto_region 4 with (fail)
  clear n2 n3 n6 e1 e2 e3
  go_wp2_with fail
  go_loopw [8] (fun s8 wr => ∃ k : Nat, k ≤ 10 ∧ s8 = .int .i64 k ∧ Hid (Keeps Nil w wr)) (fun s8 _ => 10 - (intOf s8).toNat)
  case atStart => exact ⟨0, by omega, rfl, K1⟩
  case round =>
    obtain ⟨k, hk, rfl, HK⟩ := hrel
    by_cases hlt : k < 10
    · have hw := u8ten k hlt
      have R1 := hid (roles_any (i := k) (H.out.keepN HK.out) (by omega))
      go_wp2_with fail
      refine R1.out.mono ?_; rintro e w2 ⟨rfl, k2⟩
      have R2 := hid (rroles_any (i := k) (R.out.keepN (HK.out.trans k2)) (by omega))
      go_wp2_with fail
      refine R2.out.mono ?_; rintro e w3 ⟨rfl, k3⟩
      have K3 := hid ((HK.out.trans k2).trans k3)
      have e1 : (τ.role k != τ.role k) = false := by simp
      have F1 := hid (forwards_any (i := k) (H.out.keepN K3.out) (by omega))
      clear k2 k3
      go_wp2_with fail
      refine F1.out.mono ?_; rintro e w4 ⟨rfl, k4⟩
      have F2 := hid (rforwards_any (i := k) (R.out.keepN (K3.out.trans k4)) (by omega))
      go_wp2_with fail
      refine F2.out.mono ?_; rintro e w5 ⟨rfl, k5⟩
      have K5 := hid ((K3.out.trans k4).trans k5)
      have e2 : (τ.forwards k != τ.forwards k) = false := by simp
      clear k4 k5
      go_wp2_with fail
      go_roundw
      case rel => exact ⟨k + 1, by omega, by go_num, K5⟩
      case measure => simp only [intOf]; omega
    · obtain rfl : k = 10 := by omega
      go_wp2_with fail
      go_ret
      exact ⟨rfl, HK.out⟩
theorem self54 (y : Bp) (w : World) : (Op.equalIn 10000 54 (bval y) (bval y)).run Try.prog w = .ok true w := by
  simp [go_sem]
theorem neq54 (y : Bp) (w : World) : (binOp .neq 54 (bval y) (bval y)).run Try.prog w = .ok (.bool false) w := by
  rw [run_neq_struct, self54]; rfl
theorem flatS_get (L : List (Int × Bp)) : ∀ (i q : Nat) (x : Int × Bp), L[i]? = some x → q < 12 → (flatS L)[i * 12 + q]? = (scells x.1 x.2).toList[q]? := by
  induction L with
  | nil => intro i q x h; simp at h
  | cons y L ih =>
    intro i q x h hq
    have e : flatS (y :: L) = (scells y.1 y.2).toList ++ flatS L := by simp [flatS]
    have hy : (scells y.1 y.2).toList.length = 12 := rfl
    rw [e]
    match i with
    | 0 =>
      simp at h; subst h
      rw [List.getElem?_append_left (by rw [hy]; omega)]
      simp
    | i + 1 =>
      rw [List.getElem?_append_right (by rw [hy]; omega), hy, show (i + 1) * 12 + q - 12 = i * 12 + q from by omega]
      exact ih i q x (by simpa using h) hq
theorem sent_cells {w : World} {g o k : Nat} {L : List (Int × Bp)} {yi : Int} {y : Bp} (h : ∀ j u, (flatS L)[j]? = some u → w.cell? ⟨g, o + j, Option.none⟩ = some u) (hx : L[k]? = some (yi, y)) :
    w.cell? ⟨g, o + k * 12, Option.none⟩ = some (.int .u8 yi) ∧ w.cell? ⟨g, o + k * 12 + 1, Option.none⟩ = some (.int .u64 y.r) ∧ w.cell? ⟨g, o + k * 12 + 2, Option.none⟩ = some (.int .u32 y.c) ∧ w.cell? ⟨g, o + k * 12 + 3, Option.none⟩ = some (.int .u64 y.b) ∧ w.cell? ⟨g, o + k * 12 + 4, Option.none⟩ = some (.int .u8 y.p) ∧ w.cell? ⟨g, o + k * 12 + 5, Option.none⟩ = some (.int .u8 y.hops) ∧ w.cell? ⟨g, o + k * 12 + 6, Option.none⟩ = some (.int .u64 y.ver) ∧ w.cell? ⟨g, o + k * 12 + 7, Option.none⟩ = some (.int .u8 y.role) ∧ w.cell? ⟨g, o + k * 12 + 8, Option.none⟩ = some (.bool y.prop) ∧ w.cell? ⟨g, o + k * 12 + 9, Option.none⟩ = some (.bool y.agree) ∧ w.cell? ⟨g, o + k * 12 + 10, Option.none⟩ = some (.bool y.top) ∧ w.cell? ⟨g, o + k * 12 + 11, Option.none⟩ = some (.int .u64 y.echo) := by
  have key : ∀ (q : Nat) (v : Value), q < 12 → (scells yi y).toList[q]? = some v → w.cell? ⟨g, o + k * 12 + q, Option.none⟩ = some v := fun q v hq hv => by
    rw [Nat.add_assoc]
    exact h _ _ ((flatS_get L k q (yi, y) hx hq).trans hv)
  exact ⟨key 0 _ (by omega) rfl, key 1 _ (by omega) rfl, key 2 _ (by omega) rfl, key 3 _ (by omega) rfl, key 4 _ (by omega) rfl, key 5 _ (by omega) rfl, key 6 _ (by omega) rfl, key 7 _ (by omega) rfl, key 8 _ (by omega) rfl, key 9 _ (by omega) rfl, key 10 _ (by omega) rfl, key 11 _ (by omega) rfl⟩
set_option maxHeartbeats 16000000 in
theorem sent_any {w : World} {pa pb : Option Addr} {na nb ca cb : Nat} {L : List (Int × Bp)} (ha : WV w 0 12 pa na ca (flatS L)) (hb : WV w 0 12 pb nb cb (flatS L)) (hn : L.length ≤ 100) :
    Calls Try.prog 21 #[.slice pa na ca, .slice pb nb cb] w fun e w' => e = .returned (.bool true) ∧ Keeps Nil w w' := by
  have hna : na = L.length := by have := ha.1; rw [flatS_len] at this; omega
  have hnb : nb = L.length := by have := hb.1; rw [flatS_len] at this; omega
  subst hna
  subst hnb
  have hca := ha.2.1
  have hcb := hb.2.1
  have A := hid ha
  have B := hid hb
  clear ha hb
  go_enter Try.func21, Try.ntmps21
  go_wp2_with fail
  go_loopw [5] (fun s5 wr => ∃ k : Nat, k ≤ L.length ∧ s5 = .int .i64 k ∧ Hid (Keeps Nil w wr)) (fun s5 _ => L.length - (intOf s5).toNat)
  case atStart => exact ⟨0, Nat.zero_le _, rfl, hid (Keeps.refl _ _)⟩
  case round =>
    obtain ⟨k, hk, rfl, HK⟩ := hrel
    by_cases hlt : k < L.length
    · obtain ⟨⟨yi, y⟩, hx⟩ : ∃ x, L[k]? = some x := ⟨_, List.getElem?_eq_getElem hlt⟩
      obtain ⟨ga, oa, rfl, _, hga, hac⟩ := A.out.2.2 (by omega)
      obtain ⟨gb, ob, rfl, _, hgb, hbc⟩ := B.out.2.2 (by omega)
      have HX := hid hx
      have HAC := hid hac
      have HBC := hid hbc
      have HG := hid (And.intro hga hgb)
      clear hx hac hbc hga hgb
      have HS : ∀ W, Keeps Nil wr W → (W.cell? ⟨ga, oa + k * 12, Option.none⟩ = some (.int .u8 yi) ∧ W.cell? ⟨ga, oa + k * 12 + 1, Option.none⟩ = some (.int .u64 y.r) ∧ W.cell? ⟨ga, oa + k * 12 + 2, Option.none⟩ = some (.int .u32 y.c) ∧ W.cell? ⟨ga, oa + k * 12 + 3, Option.none⟩ = some (.int .u64 y.b) ∧ W.cell? ⟨ga, oa + k * 12 + 4, Option.none⟩ = some (.int .u8 y.p) ∧ W.cell? ⟨ga, oa + k * 12 + 5, Option.none⟩ = some (.int .u8 y.hops) ∧ W.cell? ⟨ga, oa + k * 12 + 6, Option.none⟩ = some (.int .u64 y.ver) ∧ W.cell? ⟨ga, oa + k * 12 + 7, Option.none⟩ = some (.int .u8 y.role) ∧ W.cell? ⟨ga, oa + k * 12 + 8, Option.none⟩ = some (.bool y.prop) ∧ W.cell? ⟨ga, oa + k * 12 + 9, Option.none⟩ = some (.bool y.agree) ∧ W.cell? ⟨ga, oa + k * 12 + 10, Option.none⟩ = some (.bool y.top) ∧ W.cell? ⟨ga, oa + k * 12 + 11, Option.none⟩ = some (.int .u64 y.echo) ∧ W.cell? ⟨gb, ob + k * 12, Option.none⟩ = some (.int .u8 yi) ∧ W.cell? ⟨gb, ob + k * 12 + 1, Option.none⟩ = some (.int .u64 y.r) ∧ W.cell? ⟨gb, ob + k * 12 + 2, Option.none⟩ = some (.int .u32 y.c) ∧ W.cell? ⟨gb, ob + k * 12 + 3, Option.none⟩ = some (.int .u64 y.b) ∧ W.cell? ⟨gb, ob + k * 12 + 4, Option.none⟩ = some (.int .u8 y.p) ∧ W.cell? ⟨gb, ob + k * 12 + 5, Option.none⟩ = some (.int .u8 y.hops) ∧ W.cell? ⟨gb, ob + k * 12 + 6, Option.none⟩ = some (.int .u64 y.ver) ∧ W.cell? ⟨gb, ob + k * 12 + 7, Option.none⟩ = some (.int .u8 y.role) ∧ W.cell? ⟨gb, ob + k * 12 + 8, Option.none⟩ = some (.bool y.prop) ∧ W.cell? ⟨gb, ob + k * 12 + 9, Option.none⟩ = some (.bool y.agree) ∧ W.cell? ⟨gb, ob + k * 12 + 10, Option.none⟩ = some (.bool y.top) ∧ W.cell? ⟨gb, ob + k * 12 + 11, Option.none⟩ = some (.int .u64 y.echo)) := fun W kW => by
        have kk := HK.out.trans kW
        have s1 := sent_cells (fun j u hu => (kk.cell (p := ⟨ga, oa + j, Option.none⟩) HG.out.1 (fun e => e)).trans (HAC.out j u hu)) HX.out
        have s2 := sent_cells (fun j u hu => (kk.cell (p := ⟨gb, ob + j, Option.none⟩) HG.out.2 (fun e => e)).trans (HBC.out j u hu)) HX.out
        obtain ⟨a0, a1, a2, a3, a4, a5, a6, a7, a8, a9, a10, a11⟩ := s1
        exact ⟨a0, a1, a2, a3, a4, a5, a6, a7, a8, a9, a10, a11, s2⟩
      have HSH := hid HS
      have e1 : (yi != yi) = false := by simp
      have hneq := fun W => neq54 y W
      have k0 : Keeps Nil wr wr := Keeps.refl _ _
      clear HS
      go_wp2_with fail
      go_region_held3 (fun W => W.cell? ⟨ga, oa + k * 12, Option.none⟩ = some (.int .u8 yi) ∧ W.cell? ⟨ga, oa + k * 12 + 1, Option.none⟩ = some (.int .u64 y.r) ∧ W.cell? ⟨ga, oa + k * 12 + 2, Option.none⟩ = some (.int .u32 y.c) ∧ W.cell? ⟨ga, oa + k * 12 + 3, Option.none⟩ = some (.int .u64 y.b) ∧ W.cell? ⟨ga, oa + k * 12 + 4, Option.none⟩ = some (.int .u8 y.p) ∧ W.cell? ⟨ga, oa + k * 12 + 5, Option.none⟩ = some (.int .u8 y.hops) ∧ W.cell? ⟨ga, oa + k * 12 + 6, Option.none⟩ = some (.int .u64 y.ver) ∧ W.cell? ⟨ga, oa + k * 12 + 7, Option.none⟩ = some (.int .u8 y.role) ∧ W.cell? ⟨ga, oa + k * 12 + 8, Option.none⟩ = some (.bool y.prop) ∧ W.cell? ⟨ga, oa + k * 12 + 9, Option.none⟩ = some (.bool y.agree) ∧ W.cell? ⟨ga, oa + k * 12 + 10, Option.none⟩ = some (.bool y.top) ∧ W.cell? ⟨ga, oa + k * 12 + 11, Option.none⟩ = some (.int .u64 y.echo) ∧ W.cell? ⟨gb, ob + k * 12, Option.none⟩ = some (.int .u8 yi) ∧ W.cell? ⟨gb, ob + k * 12 + 1, Option.none⟩ = some (.int .u64 y.r) ∧ W.cell? ⟨gb, ob + k * 12 + 2, Option.none⟩ = some (.int .u32 y.c) ∧ W.cell? ⟨gb, ob + k * 12 + 3, Option.none⟩ = some (.int .u64 y.b) ∧ W.cell? ⟨gb, ob + k * 12 + 4, Option.none⟩ = some (.int .u8 y.p) ∧ W.cell? ⟨gb, ob + k * 12 + 5, Option.none⟩ = some (.int .u8 y.hops) ∧ W.cell? ⟨gb, ob + k * 12 + 6, Option.none⟩ = some (.int .u64 y.ver) ∧ W.cell? ⟨gb, ob + k * 12 + 7, Option.none⟩ = some (.int .u8 y.role) ∧ W.cell? ⟨gb, ob + k * 12 + 8, Option.none⟩ = some (.bool y.prop) ∧ W.cell? ⟨gb, ob + k * 12 + 9, Option.none⟩ = some (.bool y.agree) ∧ W.cell? ⟨gb, ob + k * 12 + 10, Option.none⟩ = some (.bool y.top) ∧ W.cell? ⟨gb, ob + k * 12 + 11, Option.none⟩ = some (.int .u64 y.echo)) (first | with_reducible exact HSH.out _ k0 | with_reducible exact HSH.out _ k0.drew | with_reducible exact HSH.out _ k1 | with_reducible exact HSH.out _ k1.drew) ((first | (go_at_call 19; refine (of_word y _).mono ?_; rintro e w1 ⟨rfl, k1'⟩; have k1 : Keeps Nil wr w1 := (by first | exact k1' | exact k0.drew.trans k1'); clear k1')))
      all_goals go_wp2_with fail
      all_goals go_roundw
      case rel => exact ⟨k + 1, by omega, by go_num, hid (HK.out.trans k1)⟩
      case measure => simp only [intOf]; omega
    · obtain rfl : k = L.length := by omega
      go_wp2_with fail
      go_ret
      exact ⟨rfl, HK.out⟩
end Go.Proofs.Ytbbodecdijankaa
