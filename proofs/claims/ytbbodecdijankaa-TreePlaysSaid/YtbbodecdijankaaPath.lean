/-
  Layer 9: the path that a port offers. Conditions: the machine lies so; its numbers are in their types.
-/
import Derived.Test.YtbbodecdijankaaRole
namespace Go.Proofs.Ytbbodecdijankaa
open Go.RowKit
set_option linter.unusedVariables false
set_option linter.unusedSimpArgs false

theorem four_block {w : World} {b : Nat} {v0 v1 v2 v3 : Value} {T : TypeId} {fz : Nat × Nat} (h : w.heap[b]? = some (.cells #[v0, v1, v2, v3] T fz)) :
    w.cell? ⟨b, 0, Option.none⟩ = some v0 ∧ w.cell? ⟨b, 1, Option.none⟩ = some v1 ∧ w.cell? ⟨b, 2, Option.none⟩ = some v2 ∧ w.cell? ⟨b, 3, Option.none⟩ = some v3 := by
  simp [World.cell?, h]
theorem four_free {w : World} {b : Nat} {c : Array Value} {T : TypeId} (h : w.heap[b]? = some (.cells c T (0, 0))) :
    w.frozen? ⟨b, 0, Option.none⟩ = false ∧ w.frozen? ⟨b, 1, Option.none⟩ = false ∧ w.frozen? ⟨b, 2, Option.none⟩ = false ∧ w.frozen? ⟨b, 3, Option.none⟩ = false := by
  simp [World.frozen?, h]
theorem set4_keeps {a w : World} (b : Nat) (h : Keeps Nil a w) (hb : a.heap.size ≤ b) (v0 v1 v2 v3 : Value) :
    Keeps Nil a ((((w.setCell ⟨b, 0, Option.none⟩ v0).setCell ⟨b, 1, Option.none⟩ v1).setCell ⟨b, 2, Option.none⟩ v2).setCell ⟨b, 3, Option.none⟩ v3) :=
  (((h.setCell (p := ⟨b, 0, Option.none⟩) (fun h => absurd h (by simp; omega)) _).setCell (p := ⟨b, 1, Option.none⟩) (fun h => absurd h (by simp; omega)) _).setCell (p := ⟨b, 2, Option.none⟩) (fun h => absurd h (by simp; omega)) _).setCell (p := ⟨b, 3, Option.none⟩) (fun h => absurd h (by simp; omega)) _
theorem five_block {w : World} {b : Nat} {v0 v1 v2 v3 v4 : Value} {T : TypeId} {fz : Nat × Nat} (h : w.heap[b]? = some (.cells #[v0, v1, v2, v3, v4] T fz)) :
    w.cell? ⟨b, 0, Option.none⟩ = some v0 ∧ w.cell? ⟨b, 1, Option.none⟩ = some v1 ∧ w.cell? ⟨b, 2, Option.none⟩ = some v2 ∧ w.cell? ⟨b, 3, Option.none⟩ = some v3 ∧ w.cell? ⟨b, 4, Option.none⟩ = some v4 := by
  simp [World.cell?, h]
/-- What path answers. -/
def PathIs (id : Int) (i : Nat) (x : Pt) (e : Ending) : Prop := ∃ y : Pth, e = .returned (.tuple #[pth y, .bool (offB id x)]) ∧ (offB id x = true → y = offV x i)
theorem pathIs_no {id : Int} {i : Nat} {x : Pt} {e : Ending} {y : Pth} (h : offB id x = false) (he : e = .returned (.tuple #[pth y, .bool false])) : PathIs id i x e :=
  ⟨y, by rw [h]; exact he, fun h' => by rw [h] at h'; cases h'⟩
theorem pathIs_yes {id : Int} {i : Nat} {x : Pt} {e : Ending} (h : offB id x = true) (he : e = .returned (.tuple #[pth (offV x i), .bool true])) : PathIs id i x e :=
  ⟨_, by rw [h]; exact he, fun _ => rfl⟩
/-- Why a port offers none. -/
theorem off_cases (id : Int) (x : Pt) : (offB id x = false ∧ x.link = false) ∨ (offB id x = false ∧ x.link = true ∧ (x.lasts == 0) = true) ∨
    (offB id x = false ∧ x.link = true ∧ (x.lasts == 0) = false ∧ (x.h.role != 2) = true) ∨
    (offB id x = false ∧ x.link = true ∧ (x.lasts == 0) = false ∧ (x.h.role != 2) = false ∧ (x.h.b == id) = true) ∨
    (offB id x = false ∧ x.link = true ∧ (x.lasts == 0) = false ∧ (x.h.role != 2) = false ∧ (x.h.b == id) = false ∧ decide (20 ≤ x.h.hops) = true) ∨
    (x.link = true ∧ (x.lasts == 0) = false ∧ (x.h.role != 2) = false ∧ (x.h.b == id) = false ∧ decide (20 ≤ x.h.hops) = false ∧ offB id x = farB x.h.c x.cost) := by
  unfold offB
  cases h0 : x.link with
  | false => exact .inl ⟨by simp, rfl⟩
  | true =>
    by_cases h1 : x.lasts = 0
    · exact .inr (.inl ⟨by simp [h1], rfl, by simp [h1]⟩)
    · by_cases h2 : x.h.role = 2
      · by_cases h3 : x.h.b = id
        · exact .inr (.inr (.inr (.inl ⟨by simp [h3], rfl, by simp [h1], by simp [h2], by simp [h3]⟩)))
        · by_cases h4 : 20 ≤ x.h.hops
          · exact .inr (.inr (.inr (.inr (.inl ⟨by simp; intros; omega, rfl, by simp [h1], by simp [h2], by simp [h3], by simp [h4]⟩))))
          · exact .inr (.inr (.inr (.inr (.inr ⟨rfl, by simp [h1], by simp [h2], by simp [h3], by simp; omega, by simp [h1, h2, h3]; intro; omega⟩))))
      · exact .inr (.inr (.inl ⟨by simp [h2], rfl, by simp [h1], by simp [h2]⟩))
set_option maxRecDepth 4000 in
set_option maxHeartbeats 8000000 in
theorem path_any {w : World} {m g c i : Nat} {τ : TM} {x : Pt} (h : Mach w m g c τ) (hx : τ.P[i]? = some x) (hn : τ.P.length ≤ 8) (hok : x.Ok) :
    Calls Try.prog 53 #[.pointer (some ⟨m, 0, Option.none⟩), .int .i64 (i : Int)] w fun e w' => PathIs τ.id i x e ∧ Keeps Nil w w' := by
  have hi := (List.getElem?_eq_some_iff.1 hx).1
  obtain ⟨⟨m0, m1, _⟩, _⟩ := h.cells
  obtain ⟨c0, c1, c2, c3, c4, c5, c6, c7, c8, c9, c10, c11, c12, c13, c14, c15⟩ := h.row.read hx
  have hle := h.row.le
  have HM := hid h
  have HX := hid hx
  have HOK := hid hok
  have hb8 : (i : Int) < 8 := by omega
  have hb0 : (0 : Int) ≤ (i : Int) := by omega
  have LK := fun W (k : Keeps Nil w W) => link_any (HM.out.keepN k).row HX.out
  have HLK := hid LK
  have hoff := off_cases τ.id x
  obtain ⟨ob, hob⟩ : ∃ ob, offB τ.id x = ob := ⟨_, rfl⟩
  have HOB := hid hob
  have hcost := hok.cost
  have hhc := hok.h.c
  have hlm := h.lt
  clear h hx hok LK c1 c14 c15
  obtain ⟨x0, x1, xh, x2, x3, x4⟩ := x
  obtain ⟨xr, xc, xb, xp, xhop, xver, xrole, xprop, xag, xtop, xecho⟩ := xh
  simp only at c0 c2 c3 c4 c5 c6 c7 c8 c9 c10 c11 c12 c13 hoff hcost hhc
  rw [hob] at hoff
  clear hob
  rcases hoff with ⟨rfl, hl⟩ | ⟨rfl, hl, f1⟩ | ⟨rfl, hl, f1, f2⟩ | ⟨rfl, hl, f1, f2, f3⟩ | ⟨rfl, hl, f1, f2, f3, f4⟩ | ⟨hl, f1, f2, f3, f4, hfar⟩
  iterate 5
    · rw [hl] at HLK
      clear hl
      go_enter Try.func53, Try.ntmps53
      go_wp2_with fail
      have k1 : Keeps Nil w ((w.alloc (.cells #[.int .u64 0, .int .u32 0, .int .u64 0, .int .u8 0, .int .u8 0] 126 (0, 0))).alloc (.cells #[.int .u64 xr, .int .u32 xc, .int .u64 xb, .int .u8 xp, .int .u8 xhop, .int .u64 xver, .int .u8 xrole, .bool xprop, .bool xag, .bool xtop, .int .u64 xecho] 54 (0, 0))) := ((Keeps.refl _ _).alloc _).alloc _
      go_quiet ((go_at_call 36; exact quiet_left (HLK.out _ (k1.trans (Keeps.drewN _ _)))))
      go_wp2_with fail
      refine bodyPost_ret (v := .tuple #[pth (0, 0, 0, 0, 0), .bool false]) (by simp [results, Try.results53, go_sem]) rfl ?_
      exact ⟨pathIs_no (y := (0, 0, 0, 0, 0)) HOB.out rfl, set5_keeps w.heap.size (k1.trans (Keeps.drewN _ _)) (Nat.le_refl _) 0 0 0 0 0⟩
  · cases hf : farB xc x0 with
    | false =>
      have HF := hid hf
      clear hf
      rw [hl] at HLK
      have FA := fun W => far_any xr xc xb xp x0 hhc.1 hhc.2 hcost.1 (by omega) W
      rw [HF.out] at FA
      unfold farV at FA
      rw [HF.out] at FA
      simp only [Bool.false_eq_true, if_false, if_true] at FA
      have FAH := hid FA
      clear FA
      have HFAR := hid (hfar.trans HF.out)
      clear hl hfar
      go_enter Try.func53, Try.ntmps53
      go_wp2_with fail
      have k1 : Keeps Nil w ((w.alloc (.cells #[.int .u64 0, .int .u32 0, .int .u64 0, .int .u8 0, .int .u8 0] 126 (0, 0))).alloc (.cells #[.int .u64 xr, .int .u32 xc, .int .u64 xb, .int .u8 xp, .int .u8 xhop, .int .u64 xver, .int .u8 xrole, .bool xprop, .bool xag, .bool xtop, .int .u64 xecho] 54 (0, 0))) := ((Keeps.refl _ _).alloc _).alloc _
      go_quiet ((go_at_call 36; exact quiet_left (HLK.out _ (k1.trans (Keeps.drewN _ _)))))
      go_wp2_with fail
      obtain ⟨hA, hB⟩ := two_allocs w (.cells #[.int .u64 0, .int .u32 0, .int .u64 0, .int .u8 0, .int .u8 0] 126 (0, 0)) (.cells #[.int .u64 xr, .int .u32 xc, .int .u64 xb, .int .u8 xp, .int .u8 xhop, .int .u64 xver, .int .u8 xrole, .bool xprop, .bool xag, .bool xtop, .int .u64 xecho] 54 (0, 0))
      have kV : Keeps Nil w (((w.alloc (.cells #[.int .u64 0, .int .u32 0, .int .u64 0, .int .u8 0, .int .u8 0] 126 (0, 0))).alloc (.cells #[.int .u64 xr, .int .u32 xc, .int .u64 xb, .int .u8 xp, .int .u8 xhop, .int .u64 xver, .int .u8 xrole, .bool xprop, .bool xag, .bool xtop, .int .u64 xecho] 54 (0, 0))).drewN nq) := k1.trans (Keeps.drewN _ _)
      have hAV : (((w.alloc (.cells #[.int .u64 0, .int .u32 0, .int .u64 0, .int .u8 0, .int .u8 0] 126 (0, 0))).alloc (.cells #[.int .u64 xr, .int .u32 xc, .int .u64 xb, .int .u8 xp, .int .u8 xhop, .int .u64 xver, .int .u8 xrole, .bool xprop, .bool xag, .bool xtop, .int .u64 xecho] 54 (0, 0))).drewN nq).heap[w.heap.size]? = some (.cells #[.int .u64 0, .int .u32 0, .int .u64 0, .int .u8 0, .int .u8 0] 126 (0, 0)) := hA
      have hBV : (((w.alloc (.cells #[.int .u64 0, .int .u32 0, .int .u64 0, .int .u8 0, .int .u8 0] 126 (0, 0))).alloc (.cells #[.int .u64 xr, .int .u32 xc, .int .u64 xb, .int .u8 xp, .int .u8 xhop, .int .u64 xver, .int .u8 xrole, .bool xprop, .bool xag, .bool xtop, .int .u64 xecho] 54 (0, 0))).drewN nq).heap[w.heap.size + 1]? = some (.cells #[.int .u64 xr, .int .u32 xc, .int .u64 xb, .int .u8 xp, .int .u8 xhop, .int .u64 xver, .int .u8 xrole, .bool xprop, .bool xag, .bool xtop, .int .u64 xecho] 54 (0, 0)) := hB
      clear hA hB k1
      generalize ((w.alloc (.cells #[.int .u64 0, .int .u32 0, .int .u64 0, .int .u8 0, .int .u8 0] 126 (0, 0))).alloc (.cells #[.int .u64 xr, .int .u32 xc, .int .u64 xb, .int .u8 xp, .int .u8 xhop, .int .u64 xver, .int .u8 xrole, .bool xprop, .bool xag, .bool xtop, .int .u64 xecho] 54 (0, 0))).drewN nq = V at *
      obtain ⟨bA, hbA⟩ : ∃ bA, w.heap.size = bA := ⟨_, rfl⟩
      rw [hbA] at hAV hBV ⊢
      have HBA := hid hbA
      obtain ⟨bB, hbB⟩ : ∃ bB, bA + 1 = bB := ⟨_, rfl⟩
      rw [hbB] at hBV ⊢
      have HBB := hid hbB
      have HA := hid hAV
      have HB := hid hBV
      have KV := hid kV
      clear hbA hbB hAV hBV kV m0 m1 c0 c2 c3 c4 c5 c6 c7 c8 c9 c10 c11 c12 c13
      have HS : ∀ W, Keeps Nil V W → (W.cell? ⟨bB, 0, Option.none⟩ = some (.int .u64 xr) ∧ W.cell? ⟨bB, 1, Option.none⟩ = some (.int .u32 xc) ∧ W.cell? ⟨bB, 2, Option.none⟩ = some (.int .u64 xb) ∧ W.cell? ⟨bB, 3, Option.none⟩ = some (.int .u8 xp) ∧ W.cell? ⟨g, i * 16, Option.none⟩ = some (.int .u32 x0)) := fun W k => by
        have hb := (k.block _ (lt_of_block HB.out) (fun e => e)).trans HB.out
        obtain ⟨c0, _⟩ := (HM.out.keepN (KV.out.trans k)).row.read HX.out
        simp [World.cell?, hb]
        exact c0
      have HS' := hid HS
      clear HS
      go_cut [8, 9] (fun s8 s9 wx => ∃ b8 : Nat, s8 = .pointer (some ⟨b8, 0, Option.none⟩) ∧ s9 = .bool false ∧ V.heap.size ≤ b8 ∧ wx.heap[b8]? = some (.cells #[.int .u64 0, .int .u32 0, .int .u64 0, .int .u8 0] 52 (0, 0)) ∧ Keeps Nil V wx)
      case first =>
        have kk := Keeps.refl Nil V
        obtain ⟨s0, s1, s2, s3, s4⟩ := HS'.out V kk
        go_region_held3 (fun W => W.cell? ⟨bB, 0, Option.none⟩ = some (.int .u64 xr) ∧ W.cell? ⟨bB, 1, Option.none⟩ = some (.int .u32 xc) ∧ W.cell? ⟨bB, 2, Option.none⟩ = some (.int .u64 xb) ∧ W.cell? ⟨bB, 3, Option.none⟩ = some (.int .u8 xp) ∧ W.cell? ⟨g, i * 16, Option.none⟩ = some (.int .u32 x0)) (first | exact HS'.out _ kk | exact HS'.out _ kk.drew | exact HS'.out _ (kk.alloc _) | exact HS'.out _ (kk.drew.alloc _) | exact HS'.out _ (kk.alloc _).drew | exact HS'.out _ (set4_keeps _ kk (Nat.le_refl _) _ _ _ _) | go_keep)
          ((first
            | (go_at_call 62; refine (FAH.out V.drew).mono ?_; rintro e w2 ⟨rfl, k2⟩; replace kk := kk.drew.trans k2; skip)
            | (go_at_call 62; refine (FAH.out (V.alloc (.cells #[.int .u64 0, .int .u32 0, .int .u64 0, .int .u8 0] 52 (0, 0))).drew).mono ?_; rintro e w2 ⟨rfl, k2⟩; replace kk := (kk.alloc _).drew.trans k2; have hl2 := (k2.block V.heap.size (by simp) (fun e => e)).trans (alloc_block V (.cells #[.int .u64 0, .int .u32 0, .int .u64 0, .int .u8 0] 52 (0, 0))); obtain ⟨v0, v1, v2, v3⟩ := four_block hl2; obtain ⟨vf0, vf1, vf2, vf3⟩ := four_free hl2; replace hl2 := hid hl2)))
        all_goals (go_wp2_with fail; go_meet)
        all_goals first
          | (have hs4 := store_4 hl2.out; exact ⟨V.heap.size, rfl, rfl, Nat.le_refl _, hs4 _ _ _ _, set4_keeps _ kk (Nat.le_refl _) _ _ _ _⟩)
          | exact ⟨w2.heap.size, rfl, rfl, kk.size, alloc_block _ _, kk.alloc _⟩
      case rest =>
        obtain ⟨b8, rfl, rfl, hb8, h8, k8⟩ := hcut
        have hA2 := (k8.block _ (lt_of_block HA.out) (fun e => e)).trans HA.out
        obtain ⟨r0, r1, r2, r3, r4⟩ := five_block hA2
        obtain ⟨rf0, rf1, rf2, rf3, rf4⟩ := free5 hA2
        obtain ⟨v0, v1, v2, v3⟩ := four_block h8
        have h88 := lt_of_block HA.out
        have hne : ¬ b8 = bA := by omega
        have hne' : ¬ bA = b8 := by omega
        have k5 := KV.out.trans k8
        have H8 := hid h8
        clear hA2 h8 k8
        go_wp2_with fail
        refine bodyPost_ret (v := .tuple #[pth (0, 0, 0, 0, (i : Int)), .bool false]) (by simp [results, Try.results53, go_sem, *]) rfl ?_
        exact ⟨pathIs_no (y := (0, 0, 0, 0, (i : Int))) (HOB.out.trans HFAR.out) rfl, set5_keeps bA k5 (Nat.le_of_eq HBA.out) 0 0 0 0 (i : Int)⟩
    | true =>
      have HF := hid hf
      clear hf
      rw [hl] at HLK
      have FA := fun W => far_any xr xc xb xp x0 hhc.1 hhc.2 hcost.1 (by omega) W
      rw [HF.out] at FA
      unfold farV at FA
      rw [HF.out] at FA
      simp only [Bool.false_eq_true, if_false, if_true] at FA
      have FAH := hid FA
      clear FA
      have HFAR := hid (hfar.trans HF.out)
      clear hl hfar
      go_enter Try.func53, Try.ntmps53
      go_wp2_with fail
      have k1 : Keeps Nil w ((w.alloc (.cells #[.int .u64 0, .int .u32 0, .int .u64 0, .int .u8 0, .int .u8 0] 126 (0, 0))).alloc (.cells #[.int .u64 xr, .int .u32 xc, .int .u64 xb, .int .u8 xp, .int .u8 xhop, .int .u64 xver, .int .u8 xrole, .bool xprop, .bool xag, .bool xtop, .int .u64 xecho] 54 (0, 0))) := ((Keeps.refl _ _).alloc _).alloc _
      go_quiet ((go_at_call 36; exact quiet_left (HLK.out _ (k1.trans (Keeps.drewN _ _)))))
      go_wp2_with fail
      obtain ⟨hA, hB⟩ := two_allocs w (.cells #[.int .u64 0, .int .u32 0, .int .u64 0, .int .u8 0, .int .u8 0] 126 (0, 0)) (.cells #[.int .u64 xr, .int .u32 xc, .int .u64 xb, .int .u8 xp, .int .u8 xhop, .int .u64 xver, .int .u8 xrole, .bool xprop, .bool xag, .bool xtop, .int .u64 xecho] 54 (0, 0))
      have kV : Keeps Nil w (((w.alloc (.cells #[.int .u64 0, .int .u32 0, .int .u64 0, .int .u8 0, .int .u8 0] 126 (0, 0))).alloc (.cells #[.int .u64 xr, .int .u32 xc, .int .u64 xb, .int .u8 xp, .int .u8 xhop, .int .u64 xver, .int .u8 xrole, .bool xprop, .bool xag, .bool xtop, .int .u64 xecho] 54 (0, 0))).drewN nq) := k1.trans (Keeps.drewN _ _)
      have hAV : (((w.alloc (.cells #[.int .u64 0, .int .u32 0, .int .u64 0, .int .u8 0, .int .u8 0] 126 (0, 0))).alloc (.cells #[.int .u64 xr, .int .u32 xc, .int .u64 xb, .int .u8 xp, .int .u8 xhop, .int .u64 xver, .int .u8 xrole, .bool xprop, .bool xag, .bool xtop, .int .u64 xecho] 54 (0, 0))).drewN nq).heap[w.heap.size]? = some (.cells #[.int .u64 0, .int .u32 0, .int .u64 0, .int .u8 0, .int .u8 0] 126 (0, 0)) := hA
      have hBV : (((w.alloc (.cells #[.int .u64 0, .int .u32 0, .int .u64 0, .int .u8 0, .int .u8 0] 126 (0, 0))).alloc (.cells #[.int .u64 xr, .int .u32 xc, .int .u64 xb, .int .u8 xp, .int .u8 xhop, .int .u64 xver, .int .u8 xrole, .bool xprop, .bool xag, .bool xtop, .int .u64 xecho] 54 (0, 0))).drewN nq).heap[w.heap.size + 1]? = some (.cells #[.int .u64 xr, .int .u32 xc, .int .u64 xb, .int .u8 xp, .int .u8 xhop, .int .u64 xver, .int .u8 xrole, .bool xprop, .bool xag, .bool xtop, .int .u64 xecho] 54 (0, 0)) := hB
      clear hA hB k1
      generalize ((w.alloc (.cells #[.int .u64 0, .int .u32 0, .int .u64 0, .int .u8 0, .int .u8 0] 126 (0, 0))).alloc (.cells #[.int .u64 xr, .int .u32 xc, .int .u64 xb, .int .u8 xp, .int .u8 xhop, .int .u64 xver, .int .u8 xrole, .bool xprop, .bool xag, .bool xtop, .int .u64 xecho] 54 (0, 0))).drewN nq = V at *
      obtain ⟨bA, hbA⟩ : ∃ bA, w.heap.size = bA := ⟨_, rfl⟩
      rw [hbA] at hAV hBV ⊢
      have HBA := hid hbA
      obtain ⟨bB, hbB⟩ : ∃ bB, bA + 1 = bB := ⟨_, rfl⟩
      rw [hbB] at hBV ⊢
      have HBB := hid hbB
      have HA := hid hAV
      have HB := hid hBV
      have KV := hid kV
      clear hbA hbB hAV hBV kV m0 m1 c0 c2 c3 c4 c5 c6 c7 c8 c9 c10 c11 c12 c13
      have HS : ∀ W, Keeps Nil V W → (W.cell? ⟨bB, 0, Option.none⟩ = some (.int .u64 xr) ∧ W.cell? ⟨bB, 1, Option.none⟩ = some (.int .u32 xc) ∧ W.cell? ⟨bB, 2, Option.none⟩ = some (.int .u64 xb) ∧ W.cell? ⟨bB, 3, Option.none⟩ = some (.int .u8 xp) ∧ W.cell? ⟨g, i * 16, Option.none⟩ = some (.int .u32 x0)) := fun W k => by
        have hb := (k.block _ (lt_of_block HB.out) (fun e => e)).trans HB.out
        obtain ⟨c0, _⟩ := (HM.out.keepN (KV.out.trans k)).row.read HX.out
        simp [World.cell?, hb]
        exact c0
      have HS' := hid HS
      clear HS
      go_cut [8, 9] (fun s8 s9 wx => ∃ b8 : Nat, s8 = .pointer (some ⟨b8, 0, Option.none⟩) ∧ s9 = .bool true ∧ V.heap.size ≤ b8 ∧ wx.heap[b8]? = some (.cells #[.int .u64 xr, .int .u32 (xc + x0), .int .u64 xb, .int .u8 xp] 52 (0, 0)) ∧ Keeps Nil V wx)
      case first =>
        have kk := Keeps.refl Nil V
        obtain ⟨s0, s1, s2, s3, s4⟩ := HS'.out V kk
        go_region_held3 (fun W => W.cell? ⟨bB, 0, Option.none⟩ = some (.int .u64 xr) ∧ W.cell? ⟨bB, 1, Option.none⟩ = some (.int .u32 xc) ∧ W.cell? ⟨bB, 2, Option.none⟩ = some (.int .u64 xb) ∧ W.cell? ⟨bB, 3, Option.none⟩ = some (.int .u8 xp) ∧ W.cell? ⟨g, i * 16, Option.none⟩ = some (.int .u32 x0)) (first | exact HS'.out _ kk | exact HS'.out _ kk.drew | exact HS'.out _ (kk.alloc _) | exact HS'.out _ (kk.drew.alloc _) | exact HS'.out _ (kk.alloc _).drew | exact HS'.out _ (set4_keeps _ kk (Nat.le_refl _) _ _ _ _) | go_keep)
          ((first
            | (go_at_call 62; refine (FAH.out V.drew).mono ?_; rintro e w2 ⟨rfl, k2⟩; replace kk := kk.drew.trans k2; skip)
            | (go_at_call 62; refine (FAH.out (V.alloc (.cells #[.int .u64 0, .int .u32 0, .int .u64 0, .int .u8 0] 52 (0, 0))).drew).mono ?_; rintro e w2 ⟨rfl, k2⟩; replace kk := (kk.alloc _).drew.trans k2; have hl2 := (k2.block V.heap.size (by simp) (fun e => e)).trans (alloc_block V (.cells #[.int .u64 0, .int .u32 0, .int .u64 0, .int .u8 0] 52 (0, 0))); obtain ⟨v0, v1, v2, v3⟩ := four_block hl2; obtain ⟨vf0, vf1, vf2, vf3⟩ := four_free hl2; replace hl2 := hid hl2)))
        all_goals (go_wp2_with fail; go_meet)
        all_goals first
          | (have hs4 := store_4 hl2.out; exact ⟨V.heap.size, rfl, rfl, Nat.le_refl _, hs4 _ _ _ _, set4_keeps _ kk (Nat.le_refl _) _ _ _ _⟩)
          | exact ⟨w2.heap.size, rfl, rfl, kk.size, alloc_block _ _, kk.alloc _⟩
      case rest =>
        obtain ⟨b8, rfl, rfl, hb8, h8, k8⟩ := hcut
        have hA2 := (k8.block _ (lt_of_block HA.out) (fun e => e)).trans HA.out
        obtain ⟨r0, r1, r2, r3, r4⟩ := five_block hA2
        obtain ⟨rf0, rf1, rf2, rf3, rf4⟩ := free5 hA2
        obtain ⟨v0, v1, v2, v3⟩ := four_block h8
        have h88 := lt_of_block HA.out
        have hne : ¬ b8 = bA := by omega
        have hne' : ¬ bA = b8 := by omega
        have k5 := KV.out.trans k8
        have H8 := hid h8
        clear hA2 h8 k8
        go_wp2_with fail
        refine bodyPost_ret (v := .tuple #[pth (xr, xc + x0, xb, xp, (i : Int)), .bool true]) (by simp [results, Try.results53, go_sem, *]) rfl ?_
        exact ⟨pathIs_yes (HOB.out.trans HFAR.out) rfl, set5_keeps bA k5 (Nat.le_of_eq HBA.out) xr (xc + x0) xb xp (i : Int)⟩
end Go.Proofs.Ytbbodecdijankaa
