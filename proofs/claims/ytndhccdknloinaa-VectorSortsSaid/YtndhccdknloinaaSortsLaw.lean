/-
  Vectors: the law of VectorSorts. Conditions: the slices lie so.
-/
import Derived.Test.YtndhccdknloinaaSLaw
import Derived.Deep.RegionHeld3
import Derived.Test.YtndhccdknloinaaWV
import Derived.IntWalk
namespace Go.Proofs.Ytndhccdknloinaa
open Go.RowKit
set_option linter.unusedVariables false
set_option linter.unusedSimpArgs false
set_option maxRecDepth 8000

theorem RowV.keep {S : Nat → Prop} {b off : Nat} {L : List V4} {w w' : World} (h : RowV w b off L) (k : Keeps S w w') (hb : b < w.heap.size) (hS : ¬ S b) : RowV w' b off L := fun j x hx => by
  obtain ⟨h0, h1, h2, h3⟩ := h j x hx
  exact ⟨(k.cell (p := ⟨b, _, Option.none⟩) hb hS).trans h0, (k.cell (p := ⟨b, _, Option.none⟩) hb hS).trans h1, (k.cell (p := ⟨b, _, Option.none⟩) hb hS).trans h2, (k.cell (p := ⟨b, _, Option.none⟩) hb hS).trans h3⟩
theorem VSl.at {w w' : World} {p : Option Addr} {cap : Nat} {L : List V4} (h : VSl w.heap.size w p cap L) (k : Keeps Nil w w') {j : Nat} {x : V4} (hx : L[j]? = some x) : ∃ b off, p = some ⟨b, off, Option.none⟩ ∧ b < w'.heap.size ∧
    (w'.cell? ⟨b, off + j * 4, Option.none⟩ = some (.int .u64 x.1) ∧ w'.cell? ⟨b, off + j * 4 + 1, Option.none⟩ = some (.int .u32 x.2.1) ∧ w'.cell? ⟨b, off + j * 4 + 2, Option.none⟩ = some (.int .u64 x.2.2.1) ∧ w'.cell? ⟨b, off + j * 4 + 3, Option.none⟩ = some (.int .u8 x.2.2.2)) := by
  obtain ⟨b, off, e, hb, hr⟩ := h.2 (fun e => by rw [e] at hx; simp at hx)
  exact ⟨b, off, e, Nat.lt_of_lt_of_le hb k.size, (hr.keep k hb (fun e => e)) j x hx⟩
/-- A byte of a row that came in. -/
def Bytes (w : World) (a : Option Addr) (n c : Nat) : Prop := n ≤ c ∧ (0 < n → ∃ b off, a = some ⟨b, off, Option.none⟩ ∧ b < w.heap.size ∧ ∀ j, j < n → ∃ z : Int, w.cell? ⟨b, off + j, Option.none⟩ = some (.int .u8 z))

theorem own_apart {X : Nat → Prop} {w w' : World} {B e sz n : Nat} {v : Value} {xs : List Value} (h : w.ownsRow B e sz v n xs) (k : Keeps X w w') (hX : ∀ g, v.ownBlock = some g → ¬ X g) : w'.ownsRow B e sz v n xs := by
  refine ⟨h.1, ?_⟩
  rcases h.2 with h1 | ⟨g, cap, cur, hv, hb, hg, r⟩
  · exact .inl h1
  · exact .inr ⟨g, cap, cur, hv, hb, (k.block g (lt_of_block hg) (hX g (by rw [hv]; rfl))).trans hg, r⟩
set_option maxHeartbeats 16000000 in
theorem sorts_any (p : Option Addr) (cap : Nat) (L : List V4) (a1 : Option Addr) (n1 c1 : Nat) (w : World) (h50 : L.length ≤ 50) (hL : VSl w.heap.size w p cap L) (hB : Bytes w a1 n1 c1) :
    Calls Try.prog 6 #[.slice p L.length cap, .slice a1 n1 c1] w fun e w' => e = .returned (.bool true) ∧ Keeps Nil w w' := by
  have VS := vsort_any cap p L (by omega) w hL
  obtain ⟨i0, hi, hz0, hz1, hz2⟩ := info_parts info41
  have HI := hid (And.intro hi (And.intro hz0 (And.intro hz1 hz2)))
  have HL := hid hL
  have HB := hid hB
  have hcapL := hL.1
  have hcap1 := hB.1
  obtain ⟨n, hn⟩ : ∃ n, L.length = n := ⟨_, rfl⟩
  rw [hn] at VS h50 hcapL ⊢
  have HN := hid hn
  clear hL hB hi hz0 hz1 hz2 hn
  go_enter Try.func6, Try.ntmps6
  go_wp2_with fail
  refine VS.mono ?_; rintro e w2 ⟨⟨p', c', L', rfl, hperm, hrise, hV⟩, k2⟩
  have HP := hid hperm
  have HR := hid hrise
  have HV := hid hV
  have K2 := hid k2
  have hcapS : n ≤ c' := by have := hperm.length_eq; have := hV.1; have := HN.out; omega
  have HN' := hid (show L'.length = n by have := hperm.length_eq; have := HN.out; omega)
  clear hperm hrise hV k2
  go_wp2_with fail
  go_loopw [6, 7] (fun s6 s7 wr => ∃ (k : Nat) (ps : List Pth) (p6 : Option Addr) (c6 : Nat), k ≤ n ∧ s7 = .int .i64 k ∧ s6 = .slice p6 k c6 ∧ Hid (ps.length = k) ∧ Hid (wr.ownsRow w2.heap.size 41 5 (.slice p6 k c6) k (pc ps)) ∧ Hid (Keeps Nil w2 wr)) (fun _ s7 _ => n - (intOf s7).toNat)
  case atStart => exact ⟨0, [], Option.none, 0, Nat.zero_le _, rfl, rfl, hid rfl, hid (World.ownsRow_nil _ _ _ _), hid (Keeps.refl _ _)⟩
  case round =>
    obtain ⟨k, ps, p6, c6, hk, rfl, rfl, HPS, HOWN, HK⟩ := hrel
    by_cases hlt : k < n
    · obtain ⟨x, hx⟩ : ∃ x, L[k]? = some x := ⟨_, List.getElem?_eq_getElem (by have := HN.out; omega)⟩
      obtain ⟨x', hx'⟩ : ∃ x, L'[k]? = some x := ⟨_, List.getElem?_eq_getElem (by have := HN'.out; omega)⟩
      obtain ⟨b, off, hp, hb, c0, c1, c2, c3⟩ := HL.out.at (K2.out.trans HK.out) hx
      obtain ⟨b', off', hp', hb', d0, d1, d2, d3⟩ := HV.out.at HK.out hx'
      subst hp hp'
      have HX := hid hx
      have HX' := hid hx'
      have HCX := hid (show ∀ X, Keeps Nil wr X → X.cell? ⟨b, off + k * 4, Option.none⟩ = some (.int .u64 x.1) ∧ X.cell? ⟨b, off + k * 4 + 1, Option.none⟩ = some (.int .u32 x.2.1) ∧ X.cell? ⟨b, off + k * 4 + 2, Option.none⟩ = some (.int .u64 x.2.2.1) ∧ X.cell? ⟨b, off + k * 4 + 3, Option.none⟩ = some (.int .u8 x.2.2.2) from fun X kX => ⟨(kX.cell hb (fun e => e)).trans c0, (kX.cell hb (fun e => e)).trans c1, (kX.cell hb (fun e => e)).trans c2, (kX.cell hb (fun e => e)).trans c3⟩)
      have HCX' := hid (show ∀ X, Keeps Nil wr X → X.cell? ⟨b', off' + k * 4, Option.none⟩ = some (.int .u64 x'.1) ∧ X.cell? ⟨b', off' + k * 4 + 1, Option.none⟩ = some (.int .u32 x'.2.1) ∧ X.cell? ⟨b', off' + k * 4 + 2, Option.none⟩ = some (.int .u64 x'.2.2.1) ∧ X.cell? ⟨b', off' + k * 4 + 3, Option.none⟩ = some (.int .u8 x'.2.2.2) from fun X kX => ⟨(kX.cell hb' (fun e => e)).trans d0, (kX.cell hb' (fun e => e)).trans d1, (kX.cell hb' (fun e => e)).trans d2, (kX.cell hb' (fun e => e)).trans d3⟩)
      clear hx hx' c0 c1 c2 c3 d0 d1 d2 d3
      go_upto_region 11 with (fail)
      go_wp2_with fail
      go_loopw [8, 9, 10] (fun s8 s9 s10 wq => ∃ (j q r : Nat), j ≤ n ∧ q ≤ j ∧ r ≤ j ∧ s10 = .int .i64 j ∧ s8 = .int .i64 q ∧ s9 = .int .i64 r ∧ Hid (q = cntV x (L.take j) ∧ r = cntV x (L'.take j)) ∧ Hid (Keeps Nil wr wq)) (fun _ _ s10 _ => n - (intOf s10).toNat)
      case atStart => exact ⟨0, 0, 0, Nat.zero_le _, Nat.le_refl _, Nat.le_refl _, rfl, rfl, rfl, hid ⟨by simp [cntV], by simp [cntV]⟩, hid (Keeps.refl _ _)⟩
      case round =>
        obtain ⟨j, q, r, hj, hqj, hrj, rfl, rfl, rfl, HC, HQ⟩ := hrel
        obtain ⟨c0, c1, c2, c3⟩ := HCX.out wr HQ.out
        have hbx : b < wr.heap.size := Nat.lt_of_lt_of_le hb HQ.out.size
        have hbx' : b' < wr.heap.size := Nat.lt_of_lt_of_le hb' HQ.out.size
        by_cases hjn : j < n
        · obtain ⟨y, hy⟩ : ∃ y, L[j]? = some y := ⟨_, List.getElem?_eq_getElem (by have := HN.out; omega)⟩
          obtain ⟨y', hy'⟩ : ∃ y, L'[j]? = some y := ⟨_, List.getElem?_eq_getElem (by have := HN'.out; omega)⟩
          obtain ⟨b2, off2, hp2, _, d0, d1, d2, d3⟩ := HL.out.at (K2.out.trans (HK.out.trans HQ.out)) hy
          injection hp2 with hp2; injection hp2 with e1 e2; subst e1 e2
          obtain ⟨b2, off2, hp2, _, g0, g1, g2, g3⟩ := HV.out.at (HK.out.trans HQ.out) hy'
          injection hp2 with hp2; injection hp2 with e1 e2; subst e1 e2
          have HY := hid hy
          have HY' := hid hy'
          clear hy hy'
          by_cases e1 : y = x
          · by_cases e2 : y' = x
            · have hE1 : ∀ W, (binOp .eql 27 (.agg #[.int .u64 y.1, .int .u32 y.2.1, .int .u64 y.2.2.1, .int .u8 y.2.2.2]) (.agg #[.int .u64 x.1, .int .u32 x.2.1, .int .u64 x.2.2.1, .int .u8 x.2.2.2])).run Try.prog W = .ok (.bool true) W := fun W => eql27 y x true (by simp [e1]) W
              have hE2 : ∀ W, (binOp .eql 27 (.agg #[.int .u64 y'.1, .int .u32 y'.2.1, .int .u64 y'.2.2.1, .int .u8 y'.2.2.2]) (.agg #[.int .u64 x.1, .int .u32 x.2.1, .int .u64 x.2.2.1, .int .u8 x.2.2.2])).run Try.prog W = .ok (.bool true) W := fun W => eql27 y' x true (by simp [e2]) W
              have HC2 := hid (show q + 1 = cntV x (L.take (j + 1)) ∧ r + 1 = cntV x (L'.take (j + 1)) from ⟨by rw [cntV_take HY.out, ← HC.out.1]; simp [e1], by rw [cntV_take HY'.out, ← HC.out.2]; simp [e2]⟩)
              clear e1 e2
              go_wp2_with fail
              go_quiet (fail)
              go_wp2_with fail
              go_quiet (fail)
              go_wp2_with fail
              go_roundw
              case rel => exact ⟨j + 1, q + 1, r + 1, by omega, by omega, by omega, by go_num, by go_num, by go_num, HC2, hid (HQ.out.trans ⟨rfl, rfl, rfl, Nat.le_refl _, fun _ _ _ => rfl⟩)⟩
              case measure => simp only [intOf]; omega
            · have hE1 : ∀ W, (binOp .eql 27 (.agg #[.int .u64 y.1, .int .u32 y.2.1, .int .u64 y.2.2.1, .int .u8 y.2.2.2]) (.agg #[.int .u64 x.1, .int .u32 x.2.1, .int .u64 x.2.2.1, .int .u8 x.2.2.2])).run Try.prog W = .ok (.bool true) W := fun W => eql27 y x true (by simp [e1]) W
              have hE2 : ∀ W, (binOp .eql 27 (.agg #[.int .u64 y'.1, .int .u32 y'.2.1, .int .u64 y'.2.2.1, .int .u8 y'.2.2.2]) (.agg #[.int .u64 x.1, .int .u32 x.2.1, .int .u64 x.2.2.1, .int .u8 x.2.2.2])).run Try.prog W = .ok (.bool false) W := fun W => eql27 y' x false (by simp [e2]) W
              have HC2 := hid (show q + 1 = cntV x (L.take (j + 1)) ∧ r = cntV x (L'.take (j + 1)) from ⟨by rw [cntV_take HY.out, ← HC.out.1]; simp [e1], by rw [cntV_take HY'.out, ← HC.out.2]; simp [e2]⟩)
              clear e1 e2
              go_wp2_with fail
              go_quiet (fail)
              go_wp2_with fail
              go_quiet (fail)
              go_wp2_with fail
              go_roundw
              case rel => exact ⟨j + 1, q + 1, r, by omega, by omega, by omega, by go_num, by go_num, by go_num, HC2, hid (HQ.out.trans ⟨rfl, rfl, rfl, Nat.le_refl _, fun _ _ _ => rfl⟩)⟩
              case measure => simp only [intOf]; omega
          · by_cases e2 : y' = x
            · have hE1 : ∀ W, (binOp .eql 27 (.agg #[.int .u64 y.1, .int .u32 y.2.1, .int .u64 y.2.2.1, .int .u8 y.2.2.2]) (.agg #[.int .u64 x.1, .int .u32 x.2.1, .int .u64 x.2.2.1, .int .u8 x.2.2.2])).run Try.prog W = .ok (.bool false) W := fun W => eql27 y x false (by simp [e1]) W
              have hE2 : ∀ W, (binOp .eql 27 (.agg #[.int .u64 y'.1, .int .u32 y'.2.1, .int .u64 y'.2.2.1, .int .u8 y'.2.2.2]) (.agg #[.int .u64 x.1, .int .u32 x.2.1, .int .u64 x.2.2.1, .int .u8 x.2.2.2])).run Try.prog W = .ok (.bool true) W := fun W => eql27 y' x true (by simp [e2]) W
              have HC2 := hid (show q = cntV x (L.take (j + 1)) ∧ r + 1 = cntV x (L'.take (j + 1)) from ⟨by rw [cntV_take HY.out, ← HC.out.1]; simp [e1], by rw [cntV_take HY'.out, ← HC.out.2]; simp [e2]⟩)
              clear e1 e2
              go_wp2_with fail
              go_quiet (fail)
              go_wp2_with fail
              go_quiet (fail)
              go_wp2_with fail
              go_roundw
              case rel => exact ⟨j + 1, q, r + 1, by omega, by omega, by omega, by go_num, by go_num, by go_num, HC2, hid (HQ.out.trans ⟨rfl, rfl, rfl, Nat.le_refl _, fun _ _ _ => rfl⟩)⟩
              case measure => simp only [intOf]; omega
            · have hE1 : ∀ W, (binOp .eql 27 (.agg #[.int .u64 y.1, .int .u32 y.2.1, .int .u64 y.2.2.1, .int .u8 y.2.2.2]) (.agg #[.int .u64 x.1, .int .u32 x.2.1, .int .u64 x.2.2.1, .int .u8 x.2.2.2])).run Try.prog W = .ok (.bool false) W := fun W => eql27 y x false (by simp [e1]) W
              have hE2 : ∀ W, (binOp .eql 27 (.agg #[.int .u64 y'.1, .int .u32 y'.2.1, .int .u64 y'.2.2.1, .int .u8 y'.2.2.2]) (.agg #[.int .u64 x.1, .int .u32 x.2.1, .int .u64 x.2.2.1, .int .u8 x.2.2.2])).run Try.prog W = .ok (.bool false) W := fun W => eql27 y' x false (by simp [e2]) W
              have HC2 := hid (show q = cntV x (L.take (j + 1)) ∧ r = cntV x (L'.take (j + 1)) from ⟨by rw [cntV_take HY.out, ← HC.out.1]; simp [e1], by rw [cntV_take HY'.out, ← HC.out.2]; simp [e2]⟩)
              clear e1 e2
              go_wp2_with fail
              go_quiet (fail)
              go_wp2_with fail
              go_quiet (fail)
              go_wp2_with fail
              go_roundw
              case rel => exact ⟨j + 1, q, r, by omega, by omega, by omega, by go_num, by go_num, by go_num, HC2, hid (HQ.out.trans ⟨rfl, rfl, rfl, Nat.le_refl _, fun _ _ _ => rfl⟩)⟩
              case measure => simp only [intOf]; omega
        · obtain rfl : j = n := by omega
          have hqr : q = r := by
            have h1 := HC.out
            rw [List.take_of_length_le (Nat.le_of_eq HN.out), List.take_of_length_le (Nat.le_of_eq HN'.out)] at h1
            rw [h1.1, h1.2]
            exact (HP.out.countP_eq _).symm
          subst hqr
          have HOWN2 := hid (ownsRow_keep HOWN.out HQ.out (fun _ _ e => e))
          have KR := hid (HK.out.trans HQ.out)
          have hj60 : q ≤ 50 := by omega
          clear hjn hj hqj hrj HC
          go_wp2_with fail
          go_cut [81] (fun s81 wx => s81 = .bool false ∧ Hid (Keeps Nil wr wx))
          case first =>
            rcases k with _ | k
            · refine wp_region_R (fun w => Keeps.refl Nil w) 19 (by kernel_rfl) ?_
              refine wpAnyR_take (i := 0) (v := ?_) (fun w => Keeps.refl Nil w) (fun a b c h k => h.trans k) rfl (by kernel_rfl) (by kernel_rfl) (by kernel_rfl) (by kernel_rfl) (fun _ _ _ h => h) (Or.inl ⟨by rfl, fun W hW => Or.inl ?_⟩) ?_
              rotate_left
              · (go_simp <;> with_reducible rfl)
              try simp only [Act.put, List.setIfInBounds_toArray, List.set_cons_zero, List.set_cons_succ, List.getElem_toArray, List.getElem_cons_zero, List.getElem_cons_succ]
              refine wpAnyR_take (i := 1) (v := ?_) (fun w => Keeps.refl Nil w) (fun a b c h k => h.trans k) rfl (by kernel_rfl) (by kernel_rfl) (by kernel_rfl) (by kernel_rfl) (fun _ _ _ h => h) (Or.inl ⟨by rfl, fun W hW => Or.inl ?_⟩) ?_
              rotate_left
              · (go_simp <;> with_reducible rfl)
              try simp only [Act.put, List.setIfInBounds_toArray, List.set_cons_zero, List.set_cons_succ, List.getElem_toArray, List.getElem_cons_zero, List.getElem_cons_succ]
              refine wpAnyR_take (i := 2) (v := ?_) (fun w => Keeps.refl Nil w) (fun a b c h k => h.trans k) rfl (by kernel_rfl) (by kernel_rfl) (by kernel_rfl) (by kernel_rfl) (fun _ _ _ h => h) (Or.inl ⟨by rfl, fun W hW => Or.inl ?_⟩) ?_
              rotate_left
              · (go_simp <;> with_reducible rfl)
              try simp only [Act.put, List.setIfInBounds_toArray, List.set_cons_zero, List.set_cons_succ, List.getElem_toArray, List.getElem_cons_zero, List.getElem_cons_succ]
              refine wpAnyR_take (i := 3) (v := ?_) (fun w => Keeps.refl Nil w) (fun a b c h k => h.trans k) rfl (by kernel_rfl) (by kernel_rfl) (by kernel_rfl) (by kernel_rfl) (fun _ _ _ h => h) (Or.inl ⟨by rfl, fun W hW => Or.inl ?_⟩) ?_
              rotate_left
              · (go_simp <;> with_reducible rfl)
              try simp only [Act.put, List.setIfInBounds_toArray, List.set_cons_zero, List.set_cons_succ, List.getElem_toArray, List.getElem_cons_zero, List.getElem_cons_succ]
              refine wpAnyR_take (i := 4) (v := ?_) (fun w => Keeps.refl Nil w) (fun a b c h k => h.trans k) rfl (by kernel_rfl) (by kernel_rfl) (by kernel_rfl) (by kernel_rfl) (fun _ _ _ h => h) (Or.inl ⟨by rfl, fun W hW => Or.inl ?_⟩) ?_
              rotate_left
              · (go_simp <;> with_reducible rfl)
              try simp only [Act.put, List.setIfInBounds_toArray, List.set_cons_zero, List.set_cons_succ, List.getElem_toArray, List.getElem_cons_zero, List.getElem_cons_succ]
              refine wpAnyR_take (i := 5) (v := ?_) (fun w => Keeps.refl Nil w) (fun a b c h k => h.trans k) rfl (by kernel_rfl) (by kernel_rfl) (by kernel_rfl) (by kernel_rfl) (fun _ _ _ h => h) (Or.inl ⟨by rfl, fun W hW => Or.inl ?_⟩) ?_
              rotate_left
              · (go_simp <;> with_reducible rfl)
              try simp only [Act.put, List.setIfInBounds_toArray, List.set_cons_zero, List.set_cons_succ, List.getElem_toArray, List.getElem_cons_zero, List.getElem_cons_succ]
              refine wpAnyR_take (i := 6) (v := ?_) (fun w => Keeps.refl Nil w) (fun a b c h k => h.trans k) rfl (by kernel_rfl) (by kernel_rfl) (by kernel_rfl) (by kernel_rfl) (fun _ _ _ h => h) (Or.inl ⟨by rfl, fun W hW => Or.inl ?_⟩) ?_
              rotate_left
              · (go_simp <;> with_reducible rfl)
              try simp only [Act.put, List.setIfInBounds_toArray, List.set_cons_zero, List.set_cons_succ, List.getElem_toArray, List.getElem_cons_zero, List.getElem_cons_succ]
              refine wpAnyR_take (i := 7) (v := undef) (fun w => Keeps.refl Nil w) (fun a b c h k => h.trans k) rfl (by kernel_rfl) (by kernel_rfl) (by kernel_rfl) (by kernel_rfl) (fun _ _ _ h => h) (Or.inr ⟨by rfl, rfl⟩) ?_
              try simp only [Act.put, List.setIfInBounds_toArray, List.set_cons_zero, List.set_cons_succ, List.getElem_toArray, List.getElem_cons_zero, List.getElem_cons_succ]
              refine wpAnyR_take (i := 8) (v := undef) (fun w => Keeps.refl Nil w) (fun a b c h k => h.trans k) rfl (by kernel_rfl) (by kernel_rfl) (by kernel_rfl) (by kernel_rfl) (fun _ _ _ h => h) (Or.inr ⟨by rfl, rfl⟩) ?_
              try simp only [Act.put, List.setIfInBounds_toArray, List.set_cons_zero, List.set_cons_succ, List.getElem_toArray, List.getElem_cons_zero, List.getElem_cons_succ]
              refine wpAnyR_take (i := 9) (v := undef) (fun w => Keeps.refl Nil w) (fun a b c h k => h.trans k) rfl (by kernel_rfl) (by kernel_rfl) (by kernel_rfl) (by kernel_rfl) (fun _ _ _ h => h) (Or.inr ⟨by rfl, rfl⟩) ?_
              try simp only [Act.put, List.setIfInBounds_toArray, List.set_cons_zero, List.set_cons_succ, List.getElem_toArray, List.getElem_cons_zero, List.getElem_cons_succ]
              refine wpAnyR_take (i := 10) (v := undef) (fun w => Keeps.refl Nil w) (fun a b c h k => h.trans k) rfl (by kernel_rfl) (by kernel_rfl) (by kernel_rfl) (by kernel_rfl) (fun _ _ _ h => h) (Or.inr ⟨by rfl, rfl⟩) ?_
              try simp only [Act.put, List.setIfInBounds_toArray, List.set_cons_zero, List.set_cons_succ, List.getElem_toArray, List.getElem_cons_zero, List.getElem_cons_succ]
              refine wpAnyR_take (i := 11) (v := undef) (fun w => Keeps.refl Nil w) (fun a b c h k => h.trans k) rfl (by kernel_rfl) (by kernel_rfl) (by kernel_rfl) (by kernel_rfl) (fun _ _ _ h => h) (Or.inr ⟨by rfl, rfl⟩) ?_
              try simp only [Act.put, List.setIfInBounds_toArray, List.set_cons_zero, List.set_cons_succ, List.getElem_toArray, List.getElem_cons_zero, List.getElem_cons_succ]
              refine wpAnyR_take (i := 12) (v := undef) (fun w => Keeps.refl Nil w) (fun a b c h k => h.trans k) rfl (by kernel_rfl) (by kernel_rfl) (by kernel_rfl) (by kernel_rfl) (fun _ _ _ h => h) (Or.inr ⟨by rfl, rfl⟩) ?_
              try simp only [Act.put, List.setIfInBounds_toArray, List.set_cons_zero, List.set_cons_succ, List.getElem_toArray, List.getElem_cons_zero, List.getElem_cons_succ]
              refine wpAnyR_take (i := 13) (v := undef) (fun w => Keeps.refl Nil w) (fun a b c h k => h.trans k) rfl (by kernel_rfl) (by kernel_rfl) (by kernel_rfl) (by kernel_rfl) (fun _ _ _ h => h) (Or.inr ⟨by rfl, rfl⟩) ?_
              try simp only [Act.put, List.setIfInBounds_toArray, List.set_cons_zero, List.set_cons_succ, List.getElem_toArray, List.getElem_cons_zero, List.getElem_cons_succ]
              refine wpAnyR_take (i := 14) (v := undef) (fun w => Keeps.refl Nil w) (fun a b c h k => h.trans k) rfl (by kernel_rfl) (by kernel_rfl) (by kernel_rfl) (by kernel_rfl) (fun _ _ _ h => h) (Or.inr ⟨by rfl, rfl⟩) ?_
              try simp only [Act.put, List.setIfInBounds_toArray, List.set_cons_zero, List.set_cons_succ, List.getElem_toArray, List.getElem_cons_zero, List.getElem_cons_succ]
              refine wpAnyR_take (i := 15) (v := undef) (fun w => Keeps.refl Nil w) (fun a b c h k => h.trans k) rfl (by kernel_rfl) (by kernel_rfl) (by kernel_rfl) (by kernel_rfl) (fun _ _ _ h => h) (Or.inr ⟨by rfl, rfl⟩) ?_
              try simp only [Act.put, List.setIfInBounds_toArray, List.set_cons_zero, List.set_cons_succ, List.getElem_toArray, List.getElem_cons_zero, List.getElem_cons_succ]
              refine wpAnyR_take (i := 16) (v := undef) (fun w => Keeps.refl Nil w) (fun a b c h k => h.trans k) rfl (by kernel_rfl) (by kernel_rfl) (by kernel_rfl) (by kernel_rfl) (fun _ _ _ h => h) (Or.inr ⟨by rfl, rfl⟩) ?_
              try simp only [Act.put, List.setIfInBounds_toArray, List.set_cons_zero, List.set_cons_succ, List.getElem_toArray, List.getElem_cons_zero, List.getElem_cons_succ]
              refine wpAnyR_take (i := 17) (v := undef) (fun w => Keeps.refl Nil w) (fun a b c h k => h.trans k) rfl (by kernel_rfl) (by kernel_rfl) (by kernel_rfl) (by kernel_rfl) (fun _ _ _ h => h) (Or.inr ⟨by rfl, rfl⟩) ?_
              try simp only [Act.put, List.setIfInBounds_toArray, List.set_cons_zero, List.set_cons_succ, List.getElem_toArray, List.getElem_cons_zero, List.getElem_cons_succ]
              refine wpAnyR_take (i := 18) (v := ?_) (fun w => Keeps.refl Nil w) (fun a b c h k => h.trans k) rfl (by kernel_rfl) (by kernel_rfl) (by kernel_rfl) (by kernel_rfl) (fun _ _ _ h => h) (Or.inl ⟨by rfl, fun W hW => Or.inl ?_⟩) ?_
              rotate_left
              · (go_simp <;> with_reducible rfl)
              try simp only [Act.put, List.setIfInBounds_toArray, List.set_cons_zero, List.set_cons_succ, List.getElem_toArray, List.getElem_cons_zero, List.getElem_cons_succ]
              refine wpAnyR_one (i := 19) (by kernel_rfl) rfl (fun X19 hX19 K hK => ?_)
              try simp only [Act.put, List.setIfInBounds_toArray, List.set_cons_zero, List.set_cons_succ, List.getElem_toArray, List.getElem_cons_zero, List.getElem_cons_succ]
              go_simp
              refine hK.out _ _ (fun e => absurd rfl e) ?_
              clear hK K
              try simp only [Act.put, List.setIfInBounds_toArray, List.set_cons_zero, List.set_cons_succ, List.getElem_toArray, List.getElem_cons_zero, List.getElem_cons_succ]
              refine wpAnyR_done (by kernel_rfl) (by kernel_rfl) ?_ _
              go_wp2_with fail
              go_meet
              exact ⟨rfl, hid (((Keeps.refl Nil wr).drew).trans hX19)⟩
            · obtain ⟨y, hy⟩ : ∃ y, L'[k]? = some y := ⟨_, List.getElem?_eq_getElem (by have := HN'.out; omega)⟩
              obtain ⟨b3, off3, hp3, _, g0, g1, g2, g3⟩ := HV.out.at KR.out hy
              injection hp3 with hp3; injection hp3 with e1 e2; subst e1 e2
              obtain ⟨z, hz⟩ : ∃ z, z = cfV y x' := ⟨_, rfl⟩
              have hz0 : ¬ 0 < z := by rw [hz]; exact stand_of_rise (HR.out k (k + 1) y x' (by omega) hy HX'.out)
              have HCMP := hid (fun (W : World) => (show Calls Try.prog 11 #[.agg #[.int .u64 y.1, .int .u32 y.2.1, .int .u64 y.2.2.1, .int .u8 y.2.2.2], .agg #[.int .u64 x'.1, .int .u32 x'.2.1, .int .u64 x'.2.2.1, .int .u8 x'.2.2.2]] W fun e w' => e = .returned (.int .i64 z) ∧ Keeps Nil W w' by rw [hz]; exact compare_any y.1 y.2.1 y.2.2.1 y.2.2.2 x'.1 x'.2.1 x'.2.2.1 x'.2.2.2 W))
              have HS := hid (show ∀ X, Keeps Nil wr X → (X.cell? ⟨b', off' + k * 4, Option.none⟩ = some (.int .u64 y.1) ∧ X.cell? ⟨b', off' + k * 4 + 1, Option.none⟩ = some (.int .u32 y.2.1) ∧ X.cell? ⟨b', off' + k * 4 + 2, Option.none⟩ = some (.int .u64 y.2.2.1) ∧ X.cell? ⟨b', off' + k * 4 + 3, Option.none⟩ = some (.int .u8 y.2.2.2)) ∧ X.cell? ⟨b', off' + (k + 1) * 4, Option.none⟩ = some (.int .u64 x'.1) ∧ X.cell? ⟨b', off' + (k + 1) * 4 + 1, Option.none⟩ = some (.int .u32 x'.2.1) ∧ X.cell? ⟨b', off' + (k + 1) * 4 + 2, Option.none⟩ = some (.int .u64 x'.2.2.1) ∧ X.cell? ⟨b', off' + (k + 1) * 4 + 3, Option.none⟩ = some (.int .u8 x'.2.2.2) from fun X kX => ⟨⟨(kX.cell hbx' (fun e => e)).trans g0, (kX.cell hbx' (fun e => e)).trans g1, (kX.cell hbx' (fun e => e)).trans g2, (kX.cell hbx' (fun e => e)).trans g3⟩, HCX'.out X (HQ.out.trans kX)⟩)
              have hk2 : (0 : Int) ≤ (k : Int) := by omega
              have hk3 : (k : Int) < (j : Int) := by omega
              have hk4 : (0 : Int) ≤ (k : Int) + 1 := by omega
              have hk5 : (k : Int) + 1 < (j : Int) := by omega
              have hw2 : IntKind.i64.wrap (k : Int) = (k : Int) := IntWalk.i64_in _ (by omega)
              have hw3 : IntKind.i64.wrap ((k : Int) + 1 - 1) = (k : Int) := by rw [Int.add_sub_cancel]; exact IntWalk.i64_in _ (by omega)
              clear hz hy g0 g1 g2 g3 c0 c1 c2 c3
              refine wp_region_R (fun w => Keeps.refl Nil w) 19 (by kernel_rfl) ?_
              refine wpAnyR_take (i := 0) (v := ?_) (fun w => Keeps.refl Nil w) (fun a b c h k => h.trans k) rfl (by kernel_rfl) (by kernel_rfl) (by kernel_rfl) (by kernel_rfl) (fun _ _ _ h => h) (Or.inl ⟨by rfl, fun W hW => Or.inl ?_⟩) ?_
              rotate_left
              · (obtain ⟨⟨u0, u1, u2, u3⟩, u4, u5, u6, u7⟩ := HS.out W (((Keeps.refl Nil wr).drew).trans hW); go_simp <;> with_reducible rfl)
              try simp only [Act.put, List.setIfInBounds_toArray, List.set_cons_zero, List.set_cons_succ, List.getElem_toArray, List.getElem_cons_zero, List.getElem_cons_succ]
              refine wpAnyR_take (i := 1) (v := ?_) (fun w => Keeps.refl Nil w) (fun a b c h k => h.trans k) rfl (by kernel_rfl) (by kernel_rfl) (by kernel_rfl) (by kernel_rfl) (fun _ _ _ h => h) (Or.inl ⟨by rfl, fun W hW => Or.inl ?_⟩) ?_
              rotate_left
              · (obtain ⟨⟨u0, u1, u2, u3⟩, u4, u5, u6, u7⟩ := HS.out W (((Keeps.refl Nil wr).drew).trans hW); go_simp <;> with_reducible rfl)
              try simp only [Act.put, List.setIfInBounds_toArray, List.set_cons_zero, List.set_cons_succ, List.getElem_toArray, List.getElem_cons_zero, List.getElem_cons_succ]
              refine wpAnyR_take (i := 2) (v := ?_) (fun w => Keeps.refl Nil w) (fun a b c h k => h.trans k) rfl (by kernel_rfl) (by kernel_rfl) (by kernel_rfl) (by kernel_rfl) (fun _ _ _ h => h) (Or.inl ⟨by rfl, fun W hW => Or.inl ?_⟩) ?_
              rotate_left
              · (obtain ⟨⟨u0, u1, u2, u3⟩, u4, u5, u6, u7⟩ := HS.out W (((Keeps.refl Nil wr).drew).trans hW); go_simp <;> with_reducible rfl)
              try simp only [Act.put, List.setIfInBounds_toArray, List.set_cons_zero, List.set_cons_succ, List.getElem_toArray, List.getElem_cons_zero, List.getElem_cons_succ]
              refine wpAnyR_take (i := 3) (v := ?_) (fun w => Keeps.refl Nil w) (fun a b c h k => h.trans k) rfl (by kernel_rfl) (by kernel_rfl) (by kernel_rfl) (by kernel_rfl) (fun _ _ _ h => h) (Or.inl ⟨by rfl, fun W hW => Or.inl ?_⟩) ?_
              rotate_left
              · (obtain ⟨⟨u0, u1, u2, u3⟩, u4, u5, u6, u7⟩ := HS.out W (((Keeps.refl Nil wr).drew).trans hW); go_simp <;> with_reducible rfl)
              try simp only [Act.put, List.setIfInBounds_toArray, List.set_cons_zero, List.set_cons_succ, List.getElem_toArray, List.getElem_cons_zero, List.getElem_cons_succ]
              refine wpAnyR_take (i := 4) (v := ?_) (fun w => Keeps.refl Nil w) (fun a b c h k => h.trans k) rfl (by kernel_rfl) (by kernel_rfl) (by kernel_rfl) (by kernel_rfl) (fun _ _ _ h => h) (Or.inl ⟨by rfl, fun W hW => Or.inl ?_⟩) ?_
              rotate_left
              · (obtain ⟨⟨u0, u1, u2, u3⟩, u4, u5, u6, u7⟩ := HS.out W (((Keeps.refl Nil wr).drew).trans hW); go_simp <;> with_reducible rfl)
              try simp only [Act.put, List.setIfInBounds_toArray, List.set_cons_zero, List.set_cons_succ, List.getElem_toArray, List.getElem_cons_zero, List.getElem_cons_succ]
              refine wpAnyR_take (i := 5) (v := ?_) (fun w => Keeps.refl Nil w) (fun a b c h k => h.trans k) rfl (by kernel_rfl) (by kernel_rfl) (by kernel_rfl) (by kernel_rfl) (fun _ _ _ h => h) (Or.inl ⟨by rfl, fun W hW => Or.inl ?_⟩) ?_
              rotate_left
              · (obtain ⟨⟨u0, u1, u2, u3⟩, u4, u5, u6, u7⟩ := HS.out W (((Keeps.refl Nil wr).drew).trans hW); go_simp <;> with_reducible rfl)
              try simp only [Act.put, List.setIfInBounds_toArray, List.set_cons_zero, List.set_cons_succ, List.getElem_toArray, List.getElem_cons_zero, List.getElem_cons_succ]
              refine wpAnyR_take (i := 6) (v := ?_) (fun w => Keeps.refl Nil w) (fun a b c h k => h.trans k) rfl (by kernel_rfl) (by kernel_rfl) (by kernel_rfl) (by kernel_rfl) (fun _ _ _ h => h) (Or.inl ⟨by rfl, fun W hW => Or.inl ?_⟩) ?_
              rotate_left
              · (obtain ⟨⟨u0, u1, u2, u3⟩, u4, u5, u6, u7⟩ := HS.out W (((Keeps.refl Nil wr).drew).trans hW); go_simp <;> with_reducible rfl)
              try simp only [Act.put, List.setIfInBounds_toArray, List.set_cons_zero, List.set_cons_succ, List.getElem_toArray, List.getElem_cons_zero, List.getElem_cons_succ]
              refine wpAnyR_take (i := 7) (v := ?_) (fun w => Keeps.refl Nil w) (fun a b c h k => h.trans k) rfl (by kernel_rfl) (by kernel_rfl) (by kernel_rfl) (by kernel_rfl) (fun _ _ _ h => h) (Or.inl ⟨by rfl, fun W hW => Or.inl ?_⟩) ?_
              rotate_left
              · (obtain ⟨⟨u0, u1, u2, u3⟩, u4, u5, u6, u7⟩ := HS.out W (((Keeps.refl Nil wr).drew).trans hW); go_simp <;> with_reducible rfl)
              try simp only [Act.put, List.setIfInBounds_toArray, List.set_cons_zero, List.set_cons_succ, List.getElem_toArray, List.getElem_cons_zero, List.getElem_cons_succ]
              refine wpAnyR_take (i := 8) (v := ?_) (fun w => Keeps.refl Nil w) (fun a b c h k => h.trans k) rfl (by kernel_rfl) (by kernel_rfl) (by kernel_rfl) (by kernel_rfl) (fun _ _ _ h => h) (Or.inl ⟨by rfl, fun W hW => Or.inl ?_⟩) ?_
              rotate_left
              · (obtain ⟨⟨u0, u1, u2, u3⟩, u4, u5, u6, u7⟩ := HS.out W (((Keeps.refl Nil wr).drew).trans hW); go_simp <;> with_reducible rfl)
              try simp only [Act.put, List.setIfInBounds_toArray, List.set_cons_zero, List.set_cons_succ, List.getElem_toArray, List.getElem_cons_zero, List.getElem_cons_succ]
              refine wpAnyR_take (i := 9) (v := ?_) (fun w => Keeps.refl Nil w) (fun a b c h k => h.trans k) rfl (by kernel_rfl) (by kernel_rfl) (by kernel_rfl) (by kernel_rfl) (fun _ _ _ h => h) (Or.inl ⟨by rfl, fun W hW => Or.inl ?_⟩) ?_
              rotate_left
              · (obtain ⟨⟨u0, u1, u2, u3⟩, u4, u5, u6, u7⟩ := HS.out W (((Keeps.refl Nil wr).drew).trans hW); go_simp <;> with_reducible rfl)
              try simp only [Act.put, List.setIfInBounds_toArray, List.set_cons_zero, List.set_cons_succ, List.getElem_toArray, List.getElem_cons_zero, List.getElem_cons_succ]
              refine wpAnyR_take (i := 10) (v := ?_) (fun w => Keeps.refl Nil w) (fun a b c h k => h.trans k) rfl (by kernel_rfl) (by kernel_rfl) (by kernel_rfl) (by kernel_rfl) (fun _ _ _ h => h) (Or.inl ⟨by rfl, fun W hW => Or.inl ?_⟩) ?_
              rotate_left
              · (obtain ⟨⟨u0, u1, u2, u3⟩, u4, u5, u6, u7⟩ := HS.out W (((Keeps.refl Nil wr).drew).trans hW); go_simp <;> with_reducible rfl)
              try simp only [Act.put, List.setIfInBounds_toArray, List.set_cons_zero, List.set_cons_succ, List.getElem_toArray, List.getElem_cons_zero, List.getElem_cons_succ]
              refine wpAnyR_take (i := 11) (v := ?_) (fun w => Keeps.refl Nil w) (fun a b c h k => h.trans k) rfl (by kernel_rfl) (by kernel_rfl) (by kernel_rfl) (by kernel_rfl) (fun _ _ _ h => h) (Or.inl ⟨by rfl, fun W hW => Or.inl ?_⟩) ?_
              rotate_left
              · (obtain ⟨⟨u0, u1, u2, u3⟩, u4, u5, u6, u7⟩ := HS.out W (((Keeps.refl Nil wr).drew).trans hW); go_simp <;> with_reducible rfl)
              try simp only [Act.put, List.setIfInBounds_toArray, List.set_cons_zero, List.set_cons_succ, List.getElem_toArray, List.getElem_cons_zero, List.getElem_cons_succ]
              refine wpAnyR_take (i := 12) (v := ?_) (fun w => Keeps.refl Nil w) (fun a b c h k => h.trans k) rfl (by kernel_rfl) (by kernel_rfl) (by kernel_rfl) (by kernel_rfl) (fun _ _ _ h => h) (Or.inl ⟨by rfl, fun W hW => Or.inl ?_⟩) ?_
              rotate_left
              · (obtain ⟨⟨u0, u1, u2, u3⟩, u4, u5, u6, u7⟩ := HS.out W (((Keeps.refl Nil wr).drew).trans hW); go_simp <;> with_reducible rfl)
              try simp only [Act.put, List.setIfInBounds_toArray, List.set_cons_zero, List.set_cons_succ, List.getElem_toArray, List.getElem_cons_zero, List.getElem_cons_succ]
              refine wpAnyR_take (i := 13) (v := ?_) (fun w => Keeps.refl Nil w) (fun a b c h k => h.trans k) rfl (by kernel_rfl) (by kernel_rfl) (by kernel_rfl) (by kernel_rfl) (fun _ _ _ h => h) (Or.inl ⟨by rfl, fun W hW => Or.inl ?_⟩) ?_
              rotate_left
              · (obtain ⟨⟨u0, u1, u2, u3⟩, u4, u5, u6, u7⟩ := HS.out W (((Keeps.refl Nil wr).drew).trans hW); go_simp <;> with_reducible rfl)
              try simp only [Act.put, List.setIfInBounds_toArray, List.set_cons_zero, List.set_cons_succ, List.getElem_toArray, List.getElem_cons_zero, List.getElem_cons_succ]
              refine wpAnyR_take (i := 14) (v := ?_) (fun w => Keeps.refl Nil w) (fun a b c h k => h.trans k) rfl (by kernel_rfl) (by kernel_rfl) (by kernel_rfl) (by kernel_rfl) (fun _ _ _ h => h) (Or.inl ⟨by rfl, fun W hW => Or.inl ?_⟩) ?_
              rotate_left
              · (obtain ⟨⟨u0, u1, u2, u3⟩, u4, u5, u6, u7⟩ := HS.out W (((Keeps.refl Nil wr).drew).trans hW); go_simp <;> with_reducible rfl)
              try simp only [Act.put, List.setIfInBounds_toArray, List.set_cons_zero, List.set_cons_succ, List.getElem_toArray, List.getElem_cons_zero, List.getElem_cons_succ]
              refine wpAnyR_take (i := 15) (v := ?_) (fun w => Keeps.refl Nil w) (fun a b c h k => h.trans k) rfl (by kernel_rfl) (by kernel_rfl) (by kernel_rfl) (by kernel_rfl) (fun _ _ _ h => h) (Or.inl ⟨by rfl, fun W hW => Or.inl ?_⟩) ?_
              rotate_left
              · (obtain ⟨⟨u0, u1, u2, u3⟩, u4, u5, u6, u7⟩ := HS.out W (((Keeps.refl Nil wr).drew).trans hW); go_simp <;> with_reducible rfl)
              try simp only [Act.put, List.setIfInBounds_toArray, List.set_cons_zero, List.set_cons_succ, List.getElem_toArray, List.getElem_cons_zero, List.getElem_cons_succ]
              refine wpAnyR_take (i := 16) (v := .int .i64 z) (fun w => Keeps.refl Nil w) (fun a b c h k => h.trans k) rfl (by kernel_rfl) (by kernel_rfl) (by kernel_rfl) (by kernel_rfl) (fun _ _ _ h => h) (Or.inl ⟨by rfl, fun W hW => Or.inr ⟨11, #[.agg #[.int .u64 y.1, .int .u32 y.2.1, .int .u64 y.2.2.1, .int .u8 y.2.2.2], .agg #[.int .u64 x'.1, .int .u32 x'.2.1, .int .u64 x'.2.2.1, .int .u8 x'.2.2.2]], ?_, HCMP.out W⟩⟩) ?_
              · (go_simp <;> with_reducible rfl)
              try simp only [Act.put, List.setIfInBounds_toArray, List.set_cons_zero, List.set_cons_succ, List.getElem_toArray, List.getElem_cons_zero, List.getElem_cons_succ]
              refine wpAnyR_take (i := 17) (v := ?_) (fun w => Keeps.refl Nil w) (fun a b c h k => h.trans k) rfl (by kernel_rfl) (by kernel_rfl) (by kernel_rfl) (by kernel_rfl) (fun _ _ _ h => h) (Or.inl ⟨by rfl, fun W hW => Or.inl ?_⟩) ?_
              rotate_left
              · (obtain ⟨⟨u0, u1, u2, u3⟩, u4, u5, u6, u7⟩ := HS.out W (((Keeps.refl Nil wr).drew).trans hW); go_simp <;> with_reducible rfl)
              try simp only [Act.put, List.setIfInBounds_toArray, List.set_cons_zero, List.set_cons_succ, List.getElem_toArray, List.getElem_cons_zero, List.getElem_cons_succ]
              refine wpAnyR_take (i := 18) (v := ?_) (fun w => Keeps.refl Nil w) (fun a b c h k => h.trans k) rfl (by kernel_rfl) (by kernel_rfl) (by kernel_rfl) (by kernel_rfl) (fun _ _ _ h => h) (Or.inl ⟨by rfl, fun W hW => Or.inl ?_⟩) ?_
              rotate_left
              · (obtain ⟨⟨u0, u1, u2, u3⟩, u4, u5, u6, u7⟩ := HS.out W (((Keeps.refl Nil wr).drew).trans hW); go_simp <;> with_reducible rfl)
              try simp only [Act.put, List.setIfInBounds_toArray, List.set_cons_zero, List.set_cons_succ, List.getElem_toArray, List.getElem_cons_zero, List.getElem_cons_succ]
              refine wpAnyR_one (i := 19) (by kernel_rfl) rfl (fun X19 hX19 K hK => ?_)
              try simp only [Act.put, List.setIfInBounds_toArray, List.set_cons_zero, List.set_cons_succ, List.getElem_toArray, List.getElem_cons_zero, List.getElem_cons_succ]
              go_simp
              refine hK.out _ _ (fun e => absurd rfl e) ?_
              clear hK K
              try simp only [Act.put, List.setIfInBounds_toArray, List.set_cons_zero, List.set_cons_succ, List.getElem_toArray, List.getElem_cons_zero, List.getElem_cons_succ]
              refine wpAnyR_done (by kernel_rfl) (by kernel_rfl) ?_ _
              go_wp2_with fail
              go_meet
              exact ⟨rfl, hid (((Keeps.refl Nil wr).drew).trans hX19)⟩
          case rest =>
            obtain ⟨rfl, HC8⟩ := hcut
            have HOWN3 := hid (ownsRow_keep HOWN2.out HC8.out (fun _ _ e => e))
            have KW3 := hid (KR.out.trans HC8.out)
            obtain ⟨c0, c1, c2, c3⟩ := HCX.out wc (HQ.out.trans HC8.out)
            have hbc : b < wc.heap.size := Nat.lt_of_lt_of_le hbx HC8.out.size
            have k4 : Keeps Nil wc (wc.alloc (.cells #[.int .u64 x.1, .int .u32 x.2.1, .int .u64 x.2.2.1, .int .u8 x.2.2.2, .int .u8 0] 41 (0, 0))) := (Keeps.refl _ _).alloc _
            have h11 := alloc_block wc (.cells #[.int .u64 x.1, .int .u32 x.2.1, .int .u64 x.2.2.1, .int .u8 x.2.2.2, .int .u8 0] 41 (0, 0))
            have hlt3 := hid (fun q hq => (HOWN3.out.lt q hq).2)
            go_upto_region 21 with (fail)
            generalize (wc.alloc (.cells #[.int .u64 x.1, .int .u32 x.2.1, .int .u64 x.2.2.1, .int .u8 x.2.2.2, .int .u8 0] 41 (0, 0))) = w4 at *
            have hb11 : w2.heap.size ≤ wc.heap.size := KW3.out.size
            generalize wc.heap.size = b11 at *
            have KW4 := hid (KW3.out.trans k4)
            have HOWN4 := hid (ownsRow_keep HOWN3.out k4 (fun _ _ e => e))
            have H11 := hid h11
            clear c0 c1 c2 c3 k4 h11
            by_cases hin : k < n1
            · obtain ⟨bi, oi, hpi, hbi, hci⟩ := HB.out.2 (by omega)
              obtain ⟨z, hz⟩ := hci k hin
              have hzw : w4.cell? ⟨bi, oi + k, Option.none⟩ = some (.int .u8 z) := ((K2.out.trans KW4.out).cell hbi (fun e => e)).trans hz
              have hbw : bi < w4.heap.size := Nat.lt_of_lt_of_le hbi (K2.out.trans KW4.out).size
              obtain ⟨f0, f1, f2, f3, f4⟩ := free5 H11.out
              obtain ⟨x0, x1, x2, x3, x4⟩ := held5 (Keeps.refl Nil w4) (x := (x.1, x.2.1, x.2.2.1, x.2.2.2, 0)) H11.out
              have l11 := lt_of_block H11.out
              have HPI := hid hpi
              subst hpi
              clear hz hci
              go_upto_region 23 with (fail)
              have k5 : Keeps (At b11) w4 (w4.setCell ⟨b11, 4, Option.none⟩ (.int .u8 z)) := (Keeps.refl _ _).set _ _ (at_self _) _
              have h115 := setCell_block H11.out 4 (.int .u8 z)
              generalize w4.setCell ⟨b11, 4, Option.none⟩ (.int .u8 z) = w5 at *
              have HOWN5 := hid (own_apart HOWN4.out k5 (fun q hq e => by have := hlt3.out q hq; rw [At] at e; omega))
              have KW5 := hid (KW4.out.thenAt k5 hb11)
              have H11 := hid h115
              clear f0 f1 f2 f3 f4 x0 x1 x2 x3 x4 l11 hzw hbw k5 h115
              obtain ⟨x0, x1, x2, x3, x4⟩ := held5 (Keeps.refl Nil w5) (x := (x.1, x.2.1, x.2.2.1, x.2.2.2, z)) H11.out
              have l11 := lt_of_block H11.out
              go_wp2_with (at_builtin; refine wpList_append_wv (o := ⟨some 99, _, _, _, _, _⟩) _ (by rfl) _ _ 37 (by rfl) w2.heap.size 41 i0 (pth (0, 0, 0, 0, 0)) 5 40 Try.underlying37 HI.out.1 HI.out.2.1 HI.out.2.2.1 HI.out.2.2.2 rfl (by decide) (.slice p6 k c6) k (pc ps) (by rfl) (ownsRow_keep HOWN5.out ((Keeps.refl Nil w5).alloc _) (fun _ _ e => e)) 0 (some ⟨w5.heap.size, 0, Option.none⟩) 1 1 [.int .u64 x.1, .int .u32 x.2.1, .int .u64 x.2.2.1, .int .u8 x.2.2.2, .int .u8 z] (by rfl) (WV.new w5 #[.int .u64 x.1, .int .u32 x.2.1, .int .u64 x.2.2.1, .int .u8 x.2.2.2, .int .u8 z] 41 5 rfl) (by simp [Value.oneCell']) (by unfold maxLen; omega) (by omega) (by simp; have := KW5.out.size; omega) ?_; intro v6 w6 own6 hg6 hat6; have k6 := hid (KW5.out.alloc (.cells #[.int .u64 x.1, .int .u32 x.2.1, .int .u64 x.2.2.1, .int .u8 x.2.2.2, .int .u8 z] 41 (0, 0)) |>.grown hg6 (fun q hq hlt => by have := (HOWN5.out.lt q hq).1; omega)); obtain ⟨p7, c7, hv6⟩ := own_shape own6; subst hv6; have OWN6 := hid own6; clear own6)
              go_roundw
              case rel => exact ⟨k + 1, ps ++ [(x.1, x.2.1, x.2.2.1, x.2.2.2, z)], p7, c7, by omega, by go_num, rfl, hid (by simp [HPS.out]), hid (by have := OWN6.out; rw [pc_snoc]; simpa using this), k6⟩
              case measure => simp only [intOf]; omega
            · have HOWN5 := HOWN4
              have KW5 := KW4
              go_upto_region 23 with (fail)
              generalize w4 = w5 at *
              obtain ⟨x0, x1, x2, x3, x4⟩ := held5 (Keeps.refl Nil w5) (x := (x.1, x.2.1, x.2.2.1, x.2.2.2, 0)) H11.out
              have l11 := lt_of_block H11.out
              go_wp2_with (at_builtin; refine wpList_append_wv (o := ⟨some 99, _, _, _, _, _⟩) _ (by rfl) _ _ 37 (by rfl) w2.heap.size 41 i0 (pth (0, 0, 0, 0, 0)) 5 40 Try.underlying37 HI.out.1 HI.out.2.1 HI.out.2.2.1 HI.out.2.2.2 rfl (by decide) (.slice p6 k c6) k (pc ps) (by rfl) (ownsRow_keep HOWN5.out ((Keeps.refl Nil w5).alloc _) (fun _ _ e => e)) 0 (some ⟨w5.heap.size, 0, Option.none⟩) 1 1 [.int .u64 x.1, .int .u32 x.2.1, .int .u64 x.2.2.1, .int .u8 x.2.2.2, .int .u8 0] (by rfl) (WV.new w5 #[.int .u64 x.1, .int .u32 x.2.1, .int .u64 x.2.2.1, .int .u8 x.2.2.2, .int .u8 0] 41 5 rfl) (by simp [Value.oneCell']) (by unfold maxLen; omega) (by omega) (by simp; have := KW5.out.size; omega) ?_; intro v6 w6 own6 hg6 hat6; have k6 := hid (KW5.out.alloc (.cells #[.int .u64 x.1, .int .u32 x.2.1, .int .u64 x.2.2.1, .int .u8 x.2.2.2, .int .u8 0] 41 (0, 0)) |>.grown hg6 (fun q hq hlt => by have := (HOWN5.out.lt q hq).1; omega)); obtain ⟨p7, c7, hv6⟩ := own_shape own6; subst hv6; have OWN6 := hid own6; clear own6)
              go_roundw
              case rel => exact ⟨k + 1, ps ++ [(x.1, x.2.1, x.2.2.1, x.2.2.2, 0)], p7, c7, by omega, by go_num, rfl, hid (by simp [HPS.out]), hid (by have := OWN6.out; rw [pc_snoc]; simpa using this), k6⟩
              case measure => simp only [intOf]; omega
    · obtain rfl : k = n := by omega
      have hlen : ps.length = k := HPS.out
      obtain ⟨m, ok, L1, hok, hmem, hle⟩ : ∃ (m : Pth) (ok : Bool), (∀ W, Keeps Nil wr W → Calls Try.prog 13 #[.slice p6 k c6] W fun e w' => e = .returned (.tuple #[pth m, .bool ok]) ∧ Keeps Nil W w') ∧ ok = decide (0 < k) ∧ (ps ≠ [] → m ∈ ps) ∧ (∀ y ∈ ps, ¬ LtP y m) := by
        rcases ps with _ | ⟨x0, l'⟩
        · obtain rfl : k = 0 := by simpa using hlen.symm
          exact ⟨(0, 0, 0, 0, 0), false, fun W _ => least_none _ _, by simp, fun h => absurd rfl h, fun y hy => by cases hy⟩
        · obtain rfl : k = l'.length + 1 := by simpa using hlen.symm
          have ho := HOWN.out
          rcases ho.2 with ⟨_, h0⟩ | ⟨g, cap', cur, hv, _, hgg, _⟩
          · omega
          · injection hv with e1 e2 e3
            subst e1 e3
            have hg := lt_of_block hgg
            refine ⟨best x0 l', true, fun W K => ?_, by simp, fun _ => best_mem l' x0, best_least l' x0⟩
            exact least_some g c6 x0 l' (Nat.lt_of_lt_of_le hg K.size) ((row_of_own ho).keep K hg (fun e => e)) (by omega)
      have HM := hid (And.intro hok (And.intro hmem hle))
      clear hok hmem hle
      go_wp2_with fail
      refine (L1 _ (Keeps.refl _ _)).mono ?_; rintro e w3 ⟨rfl, k3⟩
      have KW3 := hid (HK.out.trans k3)
      have HOWN3 := hid (ownsRow_keep HOWN.out k3 (fun _ _ e => e))
      clear L1 k3 hlt hk HOWN
      go_upto_region 25 with (fail)
      have H12 := hid (alloc_block w3 (.cells #[.int .u64 m.1, .int .u32 m.2.1, .int .u64 m.2.2.1, .int .u8 m.2.2.2.1, .int .u8 m.2.2.2.2] 41 (0, 0)))
      have k4 : Keeps Nil w3 (w3.alloc (.cells #[.int .u64 m.1, .int .u32 m.2.1, .int .u64 m.2.2.1, .int .u8 m.2.2.2.1, .int .u8 m.2.2.2.2] 41 (0, 0))) := (Keeps.refl _ _).alloc _
      have HOWN4 := hid (ownsRow_keep HOWN3.out k4 (fun _ _ e => e))
      have KW4 := hid (KW3.out.trans k4)
      generalize (w3.alloc (.cells #[.int .u64 m.1, .int .u32 m.2.1, .int .u64 m.2.2.1, .int .u8 m.2.2.2.1, .int .u8 m.2.2.2.2] 41 (0, 0))) = w4 at *
      generalize w3.heap.size = b12 at *
      clear k4 HOWN3
      have l12 := lt_of_block H12.out
      have HROW := hid (show ∀ (j : Nat) (y : Pth), ps[j]? = some y → ∃ g, p6 = some ⟨g, 0, Option.none⟩ ∧ ∀ W, Keeps Nil w4 W → g < W.heap.size ∧ (W.cell? ⟨g, j * 5, Option.none⟩ = some (.int .u64 y.1) ∧ W.cell? ⟨g, j * 5 + 1, Option.none⟩ = some (.int .u32 y.2.1) ∧ W.cell? ⟨g, j * 5 + 2, Option.none⟩ = some (.int .u64 y.2.2.1) ∧ W.cell? ⟨g, j * 5 + 3, Option.none⟩ = some (.int .u8 y.2.2.2.1) ∧ W.cell? ⟨g, j * 5 + 4, Option.none⟩ = some (.int .u8 y.2.2.2.2)) from fun j y hy => by
        rcases HOWN4.out.2 with ⟨_, h0⟩ | ⟨g, cap', cur, hv, _, hgg, _⟩
        · rw [h0] at hlen
          rw [List.length_eq_zero_iff.1 hlen] at hy
          cases hy
        · injection hv with e1 e2 e3
          subst e1
          have hg := lt_of_block hgg
          refine ⟨g, rfl, fun W K => ⟨Nat.lt_of_lt_of_le hg K.size, ?_⟩⟩
          exact (row_of_own HOWN4.out).keep K hg (fun e => e) j y hy)
      go_wp2_with fail
      go_loopw [14, 15] (fun s14 s15 wq => ∃ (j : Nat) (r : Bool), j ≤ k ∧ s15 = .int .i64 j ∧ s14 = .bool r ∧ Hid (r = (ps.take j).any (fun y => decide (m = y))) ∧ Hid (Keeps Nil w4 wq)) (fun _ s15 _ => k - (intOf s15).toNat)
      case atStart => exact ⟨0, false, Nat.zero_le _, rfl, rfl, hid (by simp), hid (Keeps.refl _ _)⟩
      case round =>
        obtain ⟨j, r, hj, rfl, rfl, HA, HQ⟩ := hrel
        by_cases hjk : j < k
        · obtain ⟨y, hy⟩ : ∃ y, ps[j]? = some y := ⟨_, List.getElem?_eq_getElem (by omega)⟩
          obtain ⟨g, hg6, hcell⟩ := HROW.out j y hy
          have HG6 := hid hg6
          subst hg6
          have HS := hid (show ∀ X, Keeps Nil wr X → (X.cell? ⟨b12, 0, Option.none⟩ = some (.int .u64 m.1) ∧ X.cell? ⟨b12, 1, Option.none⟩ = some (.int .u32 m.2.1) ∧ X.cell? ⟨b12, 2, Option.none⟩ = some (.int .u64 m.2.2.1) ∧ X.cell? ⟨b12, 3, Option.none⟩ = some (.int .u8 m.2.2.2.1) ∧ X.cell? ⟨b12, 4, Option.none⟩ = some (.int .u8 m.2.2.2.2)) ∧ (X.cell? ⟨g, j * 5, Option.none⟩ = some (.int .u64 y.1) ∧ X.cell? ⟨g, j * 5 + 1, Option.none⟩ = some (.int .u32 y.2.1) ∧ X.cell? ⟨g, j * 5 + 2, Option.none⟩ = some (.int .u64 y.2.2.1) ∧ X.cell? ⟨g, j * 5 + 3, Option.none⟩ = some (.int .u8 y.2.2.2.1) ∧ X.cell? ⟨g, j * 5 + 4, Option.none⟩ = some (.int .u8 y.2.2.2.2)) from fun X kX => ⟨held5 (HQ.out.trans kX) H12.out, (hcell X (HQ.out.trans kX)).2⟩)
          have hgx : g < wr.heap.size := (hcell wr HQ.out).1
          have l12' : b12 < wr.heap.size := Nat.lt_of_lt_of_le l12 HQ.out.size
          obtain ⟨z, hz⟩ : ∃ z, z = stand m.1 m.2.1 m.2.2.1 m.2.2.2.1 y.1 y.2.1 y.2.2.1 y.2.2.2.1 := ⟨_, rfl⟩
          have hst := stand_of_least (HM.out.2.2 y (List.mem_of_getElem? hy))
          rw [← hz] at hst
          have HCMP := hid (fun (W : World) => (show Calls Try.prog 11 #[.agg #[.int .u64 m.1, .int .u32 m.2.1, .int .u64 m.2.2.1, .int .u8 m.2.2.2.1], .agg #[.int .u64 y.1, .int .u32 y.2.1, .int .u64 y.2.2.1, .int .u8 y.2.2.2.1]] W fun e w' => e = .returned (.int .i64 z) ∧ Keeps Nil W w' by rw [hz]; exact compare_any m.1 m.2.1 m.2.2.1 m.2.2.2.1 y.1 y.2.1 y.2.2.1 y.2.2.2.1 W))
          obtain ⟨d, hd⟩ : ∃ d, decide (m = y) = d := ⟨_, rfl⟩
          have hE : ∀ W, (binOp .eql 41 (.agg #[.int .u64 m.1, .int .u32 m.2.1, .int .u64 m.2.2.1, .int .u8 m.2.2.2.1, .int .u8 m.2.2.2.2]) (.agg #[.int .u64 y.1, .int .u32 y.2.1, .int .u64 y.2.2.1, .int .u8 y.2.2.2.1, .int .u8 y.2.2.2.2])).run Try.prog W = .ok (.bool d) W := fun W => eql41 m y d hd W
          have HA2 := hid (show (r || d) = (ps.take (j + 1)).any (fun y => decide (m = y)) by
            have e := List.getElem?_eq_some_iff.1 hy
            rw [List.take_succ_eq_append_getElem e.1, List.any_append, ← HA.out, e.2]
            simp [hd])
          have hz0 := hst.1
          have hz1 := hst.2
          clear hz hst hd hy hcell HA
          go_wp2_with fail
          go_cut [16] (fun s16 wx => s16 = .int .i64 z ∧ Hid (Keeps Nil wr wx))
          case first =>
            go_region_held3 (fun X => (X.cell? ⟨b12, 0, Option.none⟩ = some (.int .u64 m.1) ∧ X.cell? ⟨b12, 1, Option.none⟩ = some (.int .u32 m.2.1) ∧ X.cell? ⟨b12, 2, Option.none⟩ = some (.int .u64 m.2.2.1) ∧ X.cell? ⟨b12, 3, Option.none⟩ = some (.int .u8 m.2.2.2.1) ∧ X.cell? ⟨b12, 4, Option.none⟩ = some (.int .u8 m.2.2.2.2)) ∧ (X.cell? ⟨g, j * 5, Option.none⟩ = some (.int .u64 y.1) ∧ X.cell? ⟨g, j * 5 + 1, Option.none⟩ = some (.int .u32 y.2.1) ∧ X.cell? ⟨g, j * 5 + 2, Option.none⟩ = some (.int .u64 y.2.2.1) ∧ X.cell? ⟨g, j * 5 + 3, Option.none⟩ = some (.int .u8 y.2.2.2.1) ∧ X.cell? ⟨g, j * 5 + 4, Option.none⟩ = some (.int .u8 y.2.2.2.2))) (first | exact HS.out _ (Keeps.refl _ _).drew | exact HS.out _ ((Keeps.refl _ _).drew.trans kv)) ((go_at_call 11; refine (HCMP.out _).mono ?_; rintro ee wv ⟨rfl, kv⟩))
            all_goals (go_wp2_with fail; go_meet)
            exact ⟨rfl, hid ((Keeps.refl _ _).drew.trans kv)⟩
          case rest =>
            obtain ⟨rfl, HC⟩ := hcut
            obtain ⟨⟨u0, u1, u2, u3, u4'⟩, ⟨v0, v1, v2, v3, v4'⟩⟩ := HS.out wc HC.out
            have hgx2 : g < wc.heap.size := Nat.lt_of_lt_of_le hgx HC.out.size
            have l12 : b12 < wc.heap.size := Nat.lt_of_lt_of_le l12' HC.out.size
            clear l12' hgx
            go_wp2_with fail
            cases r
            · go_quiet (fail)
              go_wp2_with fail
              by_cases hzz : z = 0
              · have hy1 := hz1 hzz
                have hz2 : (z == 0) = true := by simp [hzz]
                subst hzz
                go_quiet (fail)
                go_wp2_with fail
                go_roundw
                case rel => exact ⟨j + 1, d, by omega, by go_num, by first | rfl | simp, hid (by have := HA2.out; simpa using this), hid (HQ.out.trans (HC.out.trans ⟨rfl, rfl, rfl, Nat.le_refl _, fun _ _ _ => rfl⟩))⟩
                case measure => simp only [intOf]; omega
              · go_quiet (fail)
                go_wp2_with fail
                go_roundw
                case rel => exact ⟨j + 1, d, by omega, by go_num, by first | rfl | simp, hid (by have := HA2.out; simpa using this), hid (HQ.out.trans (HC.out.trans ⟨rfl, rfl, rfl, Nat.le_refl _, fun _ _ _ => rfl⟩))⟩
                case measure => simp only [intOf]; omega
            · go_quiet (fail)
              go_wp2_with fail
              by_cases hzz : z = 0
              · have hy1 := hz1 hzz
                have hz2 : (z == 0) = true := by simp [hzz]
                subst hzz
                go_quiet (fail)
                go_wp2_with fail
                go_roundw
                case rel => exact ⟨j + 1, true, by omega, by go_num, by first | rfl | simp, hid (by have := HA2.out; simpa using this), hid (HQ.out.trans (HC.out.trans ⟨rfl, rfl, rfl, Nat.le_refl _, fun _ _ _ => rfl⟩))⟩
                case measure => simp only [intOf]; omega
              · go_quiet (fail)
                go_wp2_with fail
                go_roundw
                case rel => exact ⟨j + 1, true, by omega, by go_num, by first | rfl | simp, hid (by have := HA2.out; simpa using this), hid (HQ.out.trans (HC.out.trans ⟨rfl, rfl, rfl, Nat.le_refl _, fun _ _ _ => rfl⟩))⟩
                case measure => simp only [intOf]; omega
        · obtain rfl : j = k := by omega
          have hro : r = ok := by
            rw [HA.out, List.take_of_length_le (Nat.le_of_eq hlen), HM.out.1]
            cases ps with
            | nil => simp at hlen; subst hlen; simp
            | cons x l =>
              have h1 : 0 < j := by simp at hlen; omega
              have h2 := HM.out.2.1 (by simp)
              simp only [h1, decide_true]
              exact List.any_eq_true.2 ⟨m, h2, by simp⟩
          subst hro
          have hok := HM.out.1
          have hN := HN.out
          have KF := hid (KW4.out.trans HQ.out)
          have KF2 := hid (K2.out.trans KF.out)
          have hcap0 : j ≤ cap := hcapL
          clear HA hjk hj HROW
          have kk : Keeps Nil wr wr := Keeps.refl _ _
          rcases Nat.eq_zero_or_pos j with h0 | h0
          · have hr0 : r = false := by rw [hok]; simp [h0]
            subst hr0 h0
            clear hok
            go_wp2_with (go_at_call 12; refine (wakes_any _).mono ?_; rintro ee wz ⟨rfl, kz⟩)
            have kk := kz
            go_ret
            exact ⟨rfl, KF2.out.trans (by first | exact kk | exact kk.drew)⟩
          · have hr0 : r = true := by rw [hok]; simp [h0]
            have hj0 : (0 : Int) < (j : Int) := by omega
            subst hr0
            clear hok
            go_wp2_with (go_at_call 12; refine (wakes_any _).mono ?_; rintro ee wz ⟨rfl, kz⟩)
            have kk := kz
            go_ret
            exact ⟨rfl, KF2.out.trans (by first | exact kk | exact kk.drew)⟩
end Go.Proofs.Ytndhccdknloinaa
