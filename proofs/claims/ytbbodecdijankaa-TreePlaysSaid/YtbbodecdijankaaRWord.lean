/-
  Layer 9: what a port of the document's machine tells. Conditions: the machine lies so.
-/
import Derived.Test.YtbbodecdijankaaRFor
import Derived.Test.YtbbodecdijankaaNils
import Derived.BigGuard
namespace Go.Proofs.Ytbbodecdijankaa
open Go.RowKit
set_option linter.unusedVariables false
set_option linter.unusedSimpArgs false
set_option maxRecDepth 4000

set_option maxHeartbeats 8000000 in
theorem rword_any {w : World} {m g c f i : Nat} {τ : TM} {x : Pt} (h : RMach w m g c f τ) (hx : τ.P[i]? = some x) (hn : τ.P.length ≤ 8) :
    Calls Try.prog 39 #[.pointer (some ⟨m, 0, Option.none⟩), .int .i64 (i : Int)] w fun e w' => e = .returned (bval (τ.word i x)) ∧ Keeps Nil w w' := by
  have hi := (List.getElem?_eq_some_iff.1 hx).1
  have hle := h.row.le
  have HM := hid h
  have HX := hid hx
  clear h hx
  have hA := alloc_block w (.cells #[.int .u64 0, .int .u32 0, .int .u64 0, .int .u8 0, .int .u8 0, .int .u64 0, .int .u8 0, .bool false, .bool false, .bool false, .int .u64 0] 37 (0, 0))
  have kA : Keeps Nil w (w.alloc (.cells #[.int .u64 0, .int .u32 0, .int .u64 0, .int .u8 0, .int .u8 0, .int .u64 0, .int .u8 0, .bool false, .bool false, .bool false, .int .u64 0] 37 (0, 0))) := (Keeps.refl _ _).alloc _
  have HA := hid hA
  have KA := hid kA
  clear hA kA
  go_enter Try.func39, Try.ntmps39
  go_upto_region 1 with (fail)
  generalize (w.alloc (.cells #[.int .u64 0, .int .u32 0, .int .u64 0, .int .u8 0, .int .u8 0, .int .u64 0, .int .u8 0, .bool false, .bool false, .bool false, .int .u64 0] 37 (0, 0))) = wa at *
  obtain ⟨bA, hbA⟩ : ∃ bA, w.heap.size = bA := ⟨_, rfl⟩
  rw [hbA] at HA ⊢
  have HBA := hid hbA
  clear hbA
  have HS : ∀ W, Keeps Nil wa W → (W.cell? ⟨m, 1, Option.none⟩ = some (.slice (some ⟨g, 0, Option.none⟩) τ.P.length c) ∧ W.cell? ⟨m, 5, Option.none⟩ = some (.int .u8 τ.hops) ∧ W.cell? ⟨m, 6, Option.none⟩ = some (.int .u64 τ.ver) ∧ W.cell? ⟨g, i * 16 + 15, Option.none⟩ = some (.int .i64 x.sp)) := fun W k => by
    have M := HM.out.keepN (KA.out.trans k)
    obtain ⟨⟨_, n1, _, _, _, n5, n6, _⟩, _⟩ := M.cells
    exact ⟨n1, n5, n6, (M.row.read HX.out).2.2.2.2.2.2.2.2.2.2.2.2.2.2.2⟩
  have HSH := hid HS
  clear HS
  go_cut [5] (fun s5 wx => ∃ b6 : Nat, s5 = .pointer (some ⟨b6, 0, Option.none⟩) ∧ Hid (wa.heap.size ≤ b6 ∧ wx.heap[b6]? = some (.cells #[.int .u64 τ.root, .int .u32 τ.cost, .int .u64 τ.id, .int .u8 (i : Int), .int .u8 τ.hops, .int .u64 τ.ver, .int .u8 3, .bool false, .bool false, .bool (decide (0 < x.sp)), .int .u64 0] 37 (0, 0)) ∧ Keeps Nil wa wx))
  case first =>
    have kk := Keeps.refl Nil wa
    have OWN := hid (fun W (kW : Keeps Nil wa W) => rown_any (i := i) (HM.out.keepN (KA.out.trans kW)) (by omega))
    go_region_held3 (fun W => W.cell? ⟨m, 1, Option.none⟩ = some (.slice (some ⟨g, 0, Option.none⟩) τ.P.length c) ∧ W.cell? ⟨m, 5, Option.none⟩ = some (.int .u8 τ.hops) ∧ W.cell? ⟨m, 6, Option.none⟩ = some (.int .u64 τ.ver) ∧ W.cell? ⟨g, i * 16 + 15, Option.none⟩ = some (.int .i64 x.sp)) ((refine HSH.out _ ?_; first | with_reducible exact kk | with_reducible exact kk.drew | with_reducible exact (kk.alloc _) | with_reducible exact (kk.drew.alloc _) | with_reducible exact (kk.alloc _).drew | with_reducible exact (set11_keeps _ kk (Nat.le_refl _) _ _ _ _ _ _ _ _ _ _ _)))
      ((first
        | (go_at_call 56; refine (OWN.out wa.drew (Keeps.refl _ _).drew).mono ?_; rintro e w2 ⟨rfl, k2⟩; replace kk := kk.drew.trans k2)
        | (go_at_call 56; refine (OWN.out (wa.alloc (.cells #[.int .u64 0, .int .u32 0, .int .u64 0, .int .u8 0, .int .u8 0, .int .u64 0, .int .u8 0, .bool false, .bool false, .bool false, .int .u64 0] 37 (0, 0))).drew ((Keeps.refl _ _).alloc _).drew).mono ?_; rintro e w2 ⟨rfl, k2⟩; replace kk := (kk.alloc _).drew.trans k2; have hl2 := (k2.block wa.heap.size (by simp) (fun e => e)).trans (alloc_block wa (.cells #[.int .u64 0, .int .u32 0, .int .u64 0, .int .u8 0, .int .u8 0, .int .u64 0, .int .u8 0, .bool false, .bool false, .bool false, .int .u64 0] 37 (0, 0))); obtain ⟨d0, d1, d2, d3, d4, d5, d6, d7, d8, d9, d10⟩ := blk11 hl2; obtain ⟨e0, e1, e2, e3, e4, e5, e6, e7, e8, e9, e10⟩ := free11 hl2; replace hl2 := hid hl2)))
    all_goals (go_wp2_with fail; go_meet)
    all_goals first
      | (have hs4 := store_11 hl2.out rfl; exact ⟨wa.heap.size, rfl, hid ⟨Nat.le_refl _, hs4 _ _ _ _ _ _ _ _ _ _ _, set11_keeps _ kk (Nat.le_refl _) _ _ _ _ _ _ _ _ _ _ _⟩⟩)
      | exact ⟨w2.heap.size, rfl, hid ⟨kk.size, alloc_block _ _, kk.alloc _⟩⟩
  case rest =>
    obtain ⟨b6, rfl, HC⟩ := hcut
    have RO := rrole_any (HM.out.keepN (KA.out.trans HC.out.2.2)) HX.out (by omega)
    have hWD : τ.word i x = (if τ.roleOf i x = 1 then (⟨τ.root, τ.cost, τ.id, i, τ.hops, τ.ver, 1, false, true, decide (0 < x.sp), x.h.ver⟩ : Bp) else if τ.roleOf i x = 2 then (⟨τ.root, τ.cost, τ.id, i, τ.hops, τ.ver, 2, !x.ag, false, decide (0 < x.sp), 0⟩ : Bp) else (⟨τ.root, τ.cost, τ.id, i, τ.hops, τ.ver, 3, false, false, decide (0 < x.sp), 0⟩ : Bp)) := rfl
    have RO2 := hid (fun W (kW : Keeps Nil wa W) => rrole_any (i := i) (HM.out.keepN (KA.out.trans kW)) HX.out (by omega))
    obtain ⟨ro, hro⟩ : ∃ ro, τ.roleOf i x = ro := ⟨_, rfl⟩
    rw [hro] at RO hWD RO2
    have ROH := hid RO
    clear RO hro
    go_wp2_with fail
    refine ROH.out.mono ?_; rintro e w4 ⟨rfl, k4⟩
    have h6 := (k4.block _ (lt_of_block HC.out.2.1) (fun e => e)).trans HC.out.2.1
    have kz4 : Keeps Nil wa w4 := HC.out.2.2.trans k4
    have hge : wa.heap.size ≤ b6 := HC.out.1
    have H6 := hid h6
    have KZ4 := hid kz4
    by_cases h1 : ro = 1
    · subst h1
      simp only [if_true] at hWD
      have HWD := hid hWD
      obtain ⟨d0, d1, d2, d3, d4, d5, d6, d7, d8, d9, d10⟩ := blk11 h6
      obtain ⟨e0, e1, e2, e3, e4, e5, e6, e7, e8, e9, e10⟩ := free11 h6
      have hgl : g < wa.heap.size := Nat.lt_of_lt_of_le HM.out.lt.2.1 KA.out.size
      have hml : m < wa.heap.size := Nat.lt_of_lt_of_le HM.out.lt.1 KA.out.size
      have hne : ¬ g = b6 := by omega
      have hne2 : ¬ m = b6 := by omega
      have p1 := ((HM.out.keepN (KA.out.trans kz4)).cells).1.2.1
      have p7 := ((HM.out.keepN (KA.out.trans kz4)).row.read HX.out).2.2.2.2.2.2.2.1
      clear hWD h6 kz4 k4
      go_upto_region 6 with (fail)
      have Hz6 : Hid (((((w4.setCell ⟨b6, 6, Option.none⟩ (.int .u8 1)).setCell ⟨b6, 8, Option.none⟩ (.bool true)).setCell ⟨b6, 10, Option.none⟩ (.int .u64 x.h.ver))).heap[b6]? = some (.cells #[.int .u64 τ.root, .int .u32 τ.cost, .int .u64 τ.id, .int .u8 (i : Int), .int .u8 τ.hops, .int .u64 τ.ver, .int .u8 1, .bool false, .bool true, .bool (decide (0 < x.sp)), .int .u64 x.h.ver] 37 (0, 0))) := hid (setCell_block (setCell_block (setCell_block H6.out 6 (.int .u8 1)) 8 (.bool true)) 10 (.int .u64 x.h.ver))
      have Kz : Keeps Nil wa (((w4.setCell ⟨b6, 6, Option.none⟩ (.int .u8 1)).setCell ⟨b6, 8, Option.none⟩ (.bool true)).setCell ⟨b6, 10, Option.none⟩ (.int .u64 x.h.ver)) := (((KZ4.out.setCell (p := ⟨b6, 6, Option.none⟩) (fun h => absurd h (by simp; omega)) (.int .u8 1)).setCell (p := ⟨b6, 8, Option.none⟩) (fun h => absurd h (by simp; omega)) (.bool true)).setCell (p := ⟨b6, 10, Option.none⟩) (fun h => absurd h (by simp; omega)) (.int .u64 x.h.ver))
      clear p1 p7 d0 e0 d1 e1 d2 e2 d3 e3 d4 e4 d5 e5 d6 e6 d7 e7 d8 e8 d9 e9 d10 e10
      generalize (((w4.setCell ⟨b6, 6, Option.none⟩ (.int .u8 1)).setCell ⟨b6, 8, Option.none⟩ (.bool true)).setCell ⟨b6, 10, Option.none⟩ (.int .u64 x.h.ver)) = wy at *
      have RL := hid (RO2.out wy Kz)
      have KY := hid Kz
      clear Kz
      go_wp2_with fail
      refine RL.out.mono ?_; rintro e wz ⟨rfl, kz⟩
      have Kz := KY.out.trans kz
      replace Hz6 := hid ((kz.block _ (lt_of_block Hz6.out) (fun e => e)).trans Hz6.out)
      clear kz
      have hAz := (Kz.block _ (lt_of_block HA.out) (fun e => e)).trans HA.out
      have hz6 := Hz6.out
      have HRZ : Hid (wz.rangeAt b6 0 [.int .u64 τ.root, .int .u32 τ.cost, .int .u64 τ.id, .int .u8 (i : Int), .int .u8 τ.hops, .int .u64 τ.ver, .int .u8 1, .bool false, .bool true, .bool (decide (0 < x.sp)), .int .u64 x.h.ver]) := hid (range_block0 hz6 [.int .u64 τ.root, .int .u32 τ.cost, .int .u64 τ.id, .int .u8 (i : Int), .int .u8 τ.hops, .int .u64 τ.ver, .int .u8 1, .bool false, .bool true, .bool (decide (0 < x.sp)), .int .u64 x.h.ver] (by intro j v hv; simpa using hv))
      have HAZ := hid hAz
      have HYW : Hid (τ.word i x = (⟨τ.root, τ.cost, τ.id, i, τ.hops, τ.ver, 1, false, true, decide (0 < x.sp), x.h.ver⟩ : Bp)) := hid HWD.out
      clear hAz hz6
      go_wp2_with ((first
        | (refine wpList_load_mid rfl 37 _ rfl b6 0 rfl [.int .u64 τ.root, .int .u32 τ.cost, .int .u64 τ.id, .int .u8 (i : Int), .int .u8 τ.hops, .int .u64 τ.ver, .int .u8 1, .bool false, .bool true, .bool (decide (0 < x.sp)), .int .u64 x.h.ver] _ ?_ Try.underlying37 rfl (by kernel_rfl) ?_; exact HRZ.out)
        | (refine wpList_store_mid rfl 37 _ _ rfl bA 0 #[.int .u64 τ.root, .int .u32 τ.cost, .int .u64 τ.id, .int .u8 (i : Int), .int .u8 τ.hops, .int .u64 τ.ver, .int .u8 1, .bool false, .bool true, .bool (decide (0 < x.sp)), .int .u64 x.h.ver] rfl rfl ?_ (by kernel_rfl) (by simp [Value.oneCell']) ?_; exact there_block HAZ.out 11 rfl; have hs := setCells_all HAZ.out #[.int .u64 τ.root, .int .u32 τ.cost, .int .u64 τ.id, .int .u8 (i : Int), .int .u8 τ.hops, .int .u64 τ.ver, .int .u8 1, .bool false, .bool true, .bool (decide (0 < x.sp)), .int .u64 x.h.ver] rfl; generalize wz.setCells bA 0 (#[.int .u64 τ.root, .int .u32 τ.cost, .int .u64 τ.id, .int .u8 (i : Int), .int .u8 τ.hops, .int .u64 τ.ver, .int .u8 1, .bool false, .bool true, .bool (decide (0 < x.sp)), .int .u64 x.h.ver] : Array Value).toList = wq at hs ⊢)))
      obtain ⟨hAF, kAF⟩ := hs
      refine bodyPost_ret (ret_cell1 rfl Try.underlying37 (n := 11) (by kernel_rfl) _ _ bA #[.int .u64 τ.root, .int .u32 τ.cost, .int .u64 τ.id, .int .u8 (i : Int), .int .u8 τ.hops, .int .u64 τ.ver, .int .u8 1, .bool false, .bool true, .bool (decide (0 < x.sp)), .int .u64 x.h.ver] rfl hAF rfl) rfl ?_
      exact ⟨by rw [HYW.out], (KA.out.trans Kz).thenAt kAF (Nat.le_of_eq HBA.out)⟩
    · have b1 : (ro == 1) = false := by simp [h1]
      have H1 := hid h1
      clear h1 h6 kz4 k4
      have RL := hid (RO2.out w4 KZ4.out)
      go_wp2_with fail
      refine RL.out.mono ?_; rintro e w5 ⟨rfl, k5⟩
      have h6 := (k5.block _ (lt_of_block H6.out) (fun e => e)).trans H6.out
      have K5 := hid (KZ4.out.trans k5)
      have H65 := hid h6
      by_cases h2 : ro = 2
      · subst h2
        simp only [if_true, if_neg H1.out] at hWD
        have HWD := hid hWD
        obtain ⟨d0, d1, d2, d3, d4, d5, d6, d7, d8, d9, d10⟩ := blk11 h6
        obtain ⟨e0, e1, e2, e3, e4, e5, e6, e7, e8, e9, e10⟩ := free11 h6
        have hgl : g < wa.heap.size := Nat.lt_of_lt_of_le HM.out.lt.2.1 KA.out.size
        have hml : m < wa.heap.size := Nat.lt_of_lt_of_le HM.out.lt.1 KA.out.size
        have hne : ¬ g = b6 := by omega
        have hne2 : ¬ m = b6 := by omega
        have p1 := ((HM.out.keepN (KA.out.trans K5.out)).cells).1.2.1
        have p14 := ((HM.out.keepN (KA.out.trans K5.out)).row.read HX.out).2.2.2.2.2.2.2.2.2.2.2.2.2.2.1
        clear hWD h6 k5
        go_upto_region 9 with (fail)
        have Hz6 : Hid ((((w5.setCell ⟨b6, 6, Option.none⟩ (.int .u8 2)).setCell ⟨b6, 7, Option.none⟩ (.bool (!x.ag)))).heap[b6]? = some (.cells #[.int .u64 τ.root, .int .u32 τ.cost, .int .u64 τ.id, .int .u8 (i : Int), .int .u8 τ.hops, .int .u64 τ.ver, .int .u8 2, .bool (!x.ag), .bool false, .bool (decide (0 < x.sp)), .int .u64 0] 37 (0, 0))) := hid (setCell_block (setCell_block H65.out 6 (.int .u8 2)) 7 (.bool (!x.ag)))
        have Kz : Keeps Nil wa ((w5.setCell ⟨b6, 6, Option.none⟩ (.int .u8 2)).setCell ⟨b6, 7, Option.none⟩ (.bool (!x.ag))) := ((K5.out.setCell (p := ⟨b6, 6, Option.none⟩) (fun h => absurd h (by simp; omega)) (.int .u8 2)).setCell (p := ⟨b6, 7, Option.none⟩) (fun h => absurd h (by simp; omega)) (.bool (!x.ag)))
        clear p1 p14 d0 e0 d1 e1 d2 e2 d3 e3 d4 e4 d5 e5 d6 e6 d7 e7 d8 e8 d9 e9 d10 e10
        generalize ((w5.setCell ⟨b6, 6, Option.none⟩ (.int .u8 2)).setCell ⟨b6, 7, Option.none⟩ (.bool (!x.ag))) = wz at *
        have hAz := (Kz.block _ (lt_of_block HA.out) (fun e => e)).trans HA.out
        have hz6 := Hz6.out
        have HRZ : Hid (wz.rangeAt b6 0 [.int .u64 τ.root, .int .u32 τ.cost, .int .u64 τ.id, .int .u8 (i : Int), .int .u8 τ.hops, .int .u64 τ.ver, .int .u8 2, .bool (!x.ag), .bool false, .bool (decide (0 < x.sp)), .int .u64 0]) := hid (range_block0 hz6 [.int .u64 τ.root, .int .u32 τ.cost, .int .u64 τ.id, .int .u8 (i : Int), .int .u8 τ.hops, .int .u64 τ.ver, .int .u8 2, .bool (!x.ag), .bool false, .bool (decide (0 < x.sp)), .int .u64 0] (by intro j v hv; simpa using hv))
        have HAZ := hid hAz
        have HYW : Hid (τ.word i x = (⟨τ.root, τ.cost, τ.id, i, τ.hops, τ.ver, 2, !x.ag, false, decide (0 < x.sp), 0⟩ : Bp)) := hid HWD.out
        clear hAz hz6
        go_wp2_with ((first
          | (refine wpList_load_mid rfl 37 _ rfl b6 0 rfl [.int .u64 τ.root, .int .u32 τ.cost, .int .u64 τ.id, .int .u8 (i : Int), .int .u8 τ.hops, .int .u64 τ.ver, .int .u8 2, .bool (!x.ag), .bool false, .bool (decide (0 < x.sp)), .int .u64 0] _ ?_ Try.underlying37 rfl (by kernel_rfl) ?_; exact HRZ.out)
          | (refine wpList_store_mid rfl 37 _ _ rfl bA 0 #[.int .u64 τ.root, .int .u32 τ.cost, .int .u64 τ.id, .int .u8 (i : Int), .int .u8 τ.hops, .int .u64 τ.ver, .int .u8 2, .bool (!x.ag), .bool false, .bool (decide (0 < x.sp)), .int .u64 0] rfl rfl ?_ (by kernel_rfl) (by simp [Value.oneCell']) ?_; exact there_block HAZ.out 11 rfl; have hs := setCells_all HAZ.out #[.int .u64 τ.root, .int .u32 τ.cost, .int .u64 τ.id, .int .u8 (i : Int), .int .u8 τ.hops, .int .u64 τ.ver, .int .u8 2, .bool (!x.ag), .bool false, .bool (decide (0 < x.sp)), .int .u64 0] rfl; generalize wz.setCells bA 0 (#[.int .u64 τ.root, .int .u32 τ.cost, .int .u64 τ.id, .int .u8 (i : Int), .int .u8 τ.hops, .int .u64 τ.ver, .int .u8 2, .bool (!x.ag), .bool false, .bool (decide (0 < x.sp)), .int .u64 0] : Array Value).toList = wq at hs ⊢)))
        obtain ⟨hAF, kAF⟩ := hs
        refine bodyPost_ret (ret_cell1 rfl Try.underlying37 (n := 11) (by kernel_rfl) _ _ bA #[.int .u64 τ.root, .int .u32 τ.cost, .int .u64 τ.id, .int .u8 (i : Int), .int .u8 τ.hops, .int .u64 τ.ver, .int .u8 2, .bool (!x.ag), .bool false, .bool (decide (0 < x.sp)), .int .u64 0] rfl hAF rfl) rfl ?_
        exact ⟨by rw [HYW.out], (KA.out.trans Kz).thenAt kAF (Nat.le_of_eq HBA.out)⟩
      · have b2 : (ro == 2) = false := by simp [h2]
        rw [if_neg H1.out, if_neg h2] at hWD
        have HWD := hid hWD
        have H2 := hid h2
        clear hWD h6 k5 h2
        go_upto_region 9 with (fail)
        obtain ⟨wz, hwz⟩ : ∃ wz, wz = w5 := ⟨_, rfl⟩
        subst hwz
        have Hz6 := H65
        have Kz := K5.out
        have hAz := (Kz.block _ (lt_of_block HA.out) (fun e => e)).trans HA.out
        have hz6 := Hz6.out
        have HRZ : Hid (wz.rangeAt b6 0 [.int .u64 τ.root, .int .u32 τ.cost, .int .u64 τ.id, .int .u8 (i : Int), .int .u8 τ.hops, .int .u64 τ.ver, .int .u8 3, .bool false, .bool false, .bool (decide (0 < x.sp)), .int .u64 0]) := hid (range_block0 hz6 [.int .u64 τ.root, .int .u32 τ.cost, .int .u64 τ.id, .int .u8 (i : Int), .int .u8 τ.hops, .int .u64 τ.ver, .int .u8 3, .bool false, .bool false, .bool (decide (0 < x.sp)), .int .u64 0] (by intro j v hv; simpa using hv))
        have HAZ := hid hAz
        have HYW : Hid (τ.word i x = (⟨τ.root, τ.cost, τ.id, i, τ.hops, τ.ver, 3, false, false, decide (0 < x.sp), 0⟩ : Bp)) := hid HWD.out
        clear hAz hz6
        go_wp2_with ((first
          | (refine wpList_load_mid rfl 37 _ rfl b6 0 rfl [.int .u64 τ.root, .int .u32 τ.cost, .int .u64 τ.id, .int .u8 (i : Int), .int .u8 τ.hops, .int .u64 τ.ver, .int .u8 3, .bool false, .bool false, .bool (decide (0 < x.sp)), .int .u64 0] _ ?_ Try.underlying37 rfl (by kernel_rfl) ?_; exact HRZ.out)
          | (refine wpList_store_mid rfl 37 _ _ rfl bA 0 #[.int .u64 τ.root, .int .u32 τ.cost, .int .u64 τ.id, .int .u8 (i : Int), .int .u8 τ.hops, .int .u64 τ.ver, .int .u8 3, .bool false, .bool false, .bool (decide (0 < x.sp)), .int .u64 0] rfl rfl ?_ (by kernel_rfl) (by simp [Value.oneCell']) ?_; exact there_block HAZ.out 11 rfl; have hs := setCells_all HAZ.out #[.int .u64 τ.root, .int .u32 τ.cost, .int .u64 τ.id, .int .u8 (i : Int), .int .u8 τ.hops, .int .u64 τ.ver, .int .u8 3, .bool false, .bool false, .bool (decide (0 < x.sp)), .int .u64 0] rfl; generalize wz.setCells bA 0 (#[.int .u64 τ.root, .int .u32 τ.cost, .int .u64 τ.id, .int .u8 (i : Int), .int .u8 τ.hops, .int .u64 τ.ver, .int .u8 3, .bool false, .bool false, .bool (decide (0 < x.sp)), .int .u64 0] : Array Value).toList = wq at hs ⊢)))
        obtain ⟨hAF, kAF⟩ := hs
        refine bodyPost_ret (ret_cell1 rfl Try.underlying37 (n := 11) (by kernel_rfl) _ _ bA #[.int .u64 τ.root, .int .u32 τ.cost, .int .u64 τ.id, .int .u8 (i : Int), .int .u8 τ.hops, .int .u64 τ.ver, .int .u8 3, .bool false, .bool false, .bool (decide (0 < x.sp)), .int .u64 0] rfl hAF rfl) rfl ?_
        exact ⟨by rw [HYW.out], (KA.out.trans Kz).thenAt kAF (Nat.le_of_eq HBA.out)⟩
end Go.Proofs.Ytbbodecdijankaa
