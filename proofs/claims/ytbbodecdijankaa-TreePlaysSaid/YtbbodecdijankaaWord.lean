/-
  Layer 9: what a port tells. Conditions: the machine lies so.
-/
import Derived.Test.YtbbodecdijankaaChoose
namespace Go.Proofs.Ytbbodecdijankaa
open Go.RowKit
set_option linter.unusedVariables false
set_option linter.unusedSimpArgs false
set_option maxRecDepth 4000

theorem there_block {w : World} {b : Nat} {c : Array Value} {t : TypeId} (h : w.heap[b]? = some (.cells c t (0, 0))) (n : Nat) (hn : c.size = n) : w.there b 0 n := fun j hj => by
  subst hn
  refine ⟨by simp [World.cell?, h, hj], by simp [World.frozen?, h]⟩
theorem setCells_all {w : World} {b : Nat} {cur : Array Value} {T : TypeId} (h : w.heap[b]? = some (.cells cur T (0, 0))) (c : Array Value) (hs : c.size = cur.size) : (w.setCells b 0 c.toList).heap[b]? = some (.cells c T (0, 0)) ∧ Keeps (At b) w (w.setCells b 0 c.toList) := by
  obtain ⟨⟨cur', h2, h3, h4⟩, k⟩ := setCells_cur c.toList 0 w cur h (by simp [hs])
  refine ⟨?_, k⟩
  rw [h2]
  congr 2
  apply Array.ext_getElem?
  intro i
  rw [h4 i]
  by_cases hi : i < c.size
  · rw [if_pos (by simp; exact hi)]; simp
  · rw [if_neg (by simp; omega), Array.getElem?_eq_none (by omega), Array.getElem?_eq_none (by omega)]
theorem store_11 {W : World} {b : Nat} {T : TypeId} {cur : Array Value} (h : W.heap[b]? = some (.cells cur T (0, 0))) (hc : cur.size = 11) (v0 v1 v2 v3 v4 v5 v6 v7 v8 v9 v10 : Value) :
    (((((((((((W.setCell ⟨b, 0, Option.none⟩ v0).setCell ⟨b, 1, Option.none⟩ v1).setCell ⟨b, 2, Option.none⟩ v2).setCell ⟨b, 3, Option.none⟩ v3).setCell ⟨b, 4, Option.none⟩ v4).setCell ⟨b, 5, Option.none⟩ v5).setCell ⟨b, 6, Option.none⟩ v6).setCell ⟨b, 7, Option.none⟩ v7).setCell ⟨b, 8, Option.none⟩ v8).setCell ⟨b, 9, Option.none⟩ v9).setCell ⟨b, 10, Option.none⟩ v10).heap[b]? = some (.cells #[v0, v1, v2, v3, v4, v5, v6, v7, v8, v9, v10] T (0, 0)) := (setCells_all h #[v0, v1, v2, v3, v4, v5, v6, v7, v8, v9, v10] hc.symm).1
theorem set11_keeps {a W : World} (b : Nat) (h : Keeps Nil a W) (hb : a.heap.size ≤ b) (v0 v1 v2 v3 v4 v5 v6 v7 v8 v9 v10 : Value) : Keeps Nil a (((((((((((W.setCell ⟨b, 0, Option.none⟩ v0).setCell ⟨b, 1, Option.none⟩ v1).setCell ⟨b, 2, Option.none⟩ v2).setCell ⟨b, 3, Option.none⟩ v3).setCell ⟨b, 4, Option.none⟩ v4).setCell ⟨b, 5, Option.none⟩ v5).setCell ⟨b, 6, Option.none⟩ v6).setCell ⟨b, 7, Option.none⟩ v7).setCell ⟨b, 8, Option.none⟩ v8).setCell ⟨b, 9, Option.none⟩ v9).setCell ⟨b, 10, Option.none⟩ v10) :=
  (((((((((((h.setCell (p := ⟨b, 0, Option.none⟩) (fun h => absurd h (by simp; omega)) v0).setCell (p := ⟨b, 1, Option.none⟩) (fun h => absurd h (by simp; omega)) v1).setCell (p := ⟨b, 2, Option.none⟩) (fun h => absurd h (by simp; omega)) v2).setCell (p := ⟨b, 3, Option.none⟩) (fun h => absurd h (by simp; omega)) v3).setCell (p := ⟨b, 4, Option.none⟩) (fun h => absurd h (by simp; omega)) v4).setCell (p := ⟨b, 5, Option.none⟩) (fun h => absurd h (by simp; omega)) v5).setCell (p := ⟨b, 6, Option.none⟩) (fun h => absurd h (by simp; omega)) v6).setCell (p := ⟨b, 7, Option.none⟩) (fun h => absurd h (by simp; omega)) v7).setCell (p := ⟨b, 8, Option.none⟩) (fun h => absurd h (by simp; omega)) v8).setCell (p := ⟨b, 9, Option.none⟩) (fun h => absurd h (by simp; omega)) v9).setCell (p := ⟨b, 10, Option.none⟩) (fun h => absurd h (by simp; omega)) v10)
theorem store_12 {W : World} {b : Nat} {T : TypeId} {cur : Array Value} (h : W.heap[b]? = some (.cells cur T (0, 0))) (hc : cur.size = 12) (v0 v1 v2 v3 v4 v5 v6 v7 v8 v9 v10 v11 : Value) :
    ((((((((((((W.setCell ⟨b, 0, Option.none⟩ v0).setCell ⟨b, 1, Option.none⟩ v1).setCell ⟨b, 2, Option.none⟩ v2).setCell ⟨b, 3, Option.none⟩ v3).setCell ⟨b, 4, Option.none⟩ v4).setCell ⟨b, 5, Option.none⟩ v5).setCell ⟨b, 6, Option.none⟩ v6).setCell ⟨b, 7, Option.none⟩ v7).setCell ⟨b, 8, Option.none⟩ v8).setCell ⟨b, 9, Option.none⟩ v9).setCell ⟨b, 10, Option.none⟩ v10).setCell ⟨b, 11, Option.none⟩ v11).heap[b]? = some (.cells #[v0, v1, v2, v3, v4, v5, v6, v7, v8, v9, v10, v11] T (0, 0)) := (setCells_all h #[v0, v1, v2, v3, v4, v5, v6, v7, v8, v9, v10, v11] hc.symm).1
theorem set12_keeps {a W : World} (b : Nat) (h : Keeps Nil a W) (hb : a.heap.size ≤ b) (v0 v1 v2 v3 v4 v5 v6 v7 v8 v9 v10 v11 : Value) : Keeps Nil a ((((((((((((W.setCell ⟨b, 0, Option.none⟩ v0).setCell ⟨b, 1, Option.none⟩ v1).setCell ⟨b, 2, Option.none⟩ v2).setCell ⟨b, 3, Option.none⟩ v3).setCell ⟨b, 4, Option.none⟩ v4).setCell ⟨b, 5, Option.none⟩ v5).setCell ⟨b, 6, Option.none⟩ v6).setCell ⟨b, 7, Option.none⟩ v7).setCell ⟨b, 8, Option.none⟩ v8).setCell ⟨b, 9, Option.none⟩ v9).setCell ⟨b, 10, Option.none⟩ v10).setCell ⟨b, 11, Option.none⟩ v11) :=
  ((((((((((((h.setCell (p := ⟨b, 0, Option.none⟩) (fun h => absurd h (by simp; omega)) v0).setCell (p := ⟨b, 1, Option.none⟩) (fun h => absurd h (by simp; omega)) v1).setCell (p := ⟨b, 2, Option.none⟩) (fun h => absurd h (by simp; omega)) v2).setCell (p := ⟨b, 3, Option.none⟩) (fun h => absurd h (by simp; omega)) v3).setCell (p := ⟨b, 4, Option.none⟩) (fun h => absurd h (by simp; omega)) v4).setCell (p := ⟨b, 5, Option.none⟩) (fun h => absurd h (by simp; omega)) v5).setCell (p := ⟨b, 6, Option.none⟩) (fun h => absurd h (by simp; omega)) v6).setCell (p := ⟨b, 7, Option.none⟩) (fun h => absurd h (by simp; omega)) v7).setCell (p := ⟨b, 8, Option.none⟩) (fun h => absurd h (by simp; omega)) v8).setCell (p := ⟨b, 9, Option.none⟩) (fun h => absurd h (by simp; omega)) v9).setCell (p := ⟨b, 10, Option.none⟩) (fun h => absurd h (by simp; omega)) v10).setCell (p := ⟨b, 11, Option.none⟩) (fun h => absurd h (by simp; omega)) v11)
theorem blk11 {w : World} {b : Nat} {v0 v1 v2 v3 v4 v5 v6 v7 v8 v9 v10 : Value} {T : TypeId} {fz : Nat × Nat} (h : w.heap[b]? = some (.cells #[v0, v1, v2, v3, v4, v5, v6, v7, v8, v9, v10] T fz)) :
    w.cell? ⟨b, 0, Option.none⟩ = some v0 ∧ w.cell? ⟨b, 1, Option.none⟩ = some v1 ∧ w.cell? ⟨b, 2, Option.none⟩ = some v2 ∧ w.cell? ⟨b, 3, Option.none⟩ = some v3 ∧ w.cell? ⟨b, 4, Option.none⟩ = some v4 ∧ w.cell? ⟨b, 5, Option.none⟩ = some v5 ∧ w.cell? ⟨b, 6, Option.none⟩ = some v6 ∧ w.cell? ⟨b, 7, Option.none⟩ = some v7 ∧ w.cell? ⟨b, 8, Option.none⟩ = some v8 ∧ w.cell? ⟨b, 9, Option.none⟩ = some v9 ∧ w.cell? ⟨b, 10, Option.none⟩ = some v10 := by
  simp [World.cell?, h]
theorem free11 {w : World} {b : Nat} {c : Array Value} {T : TypeId} (h : w.heap[b]? = some (.cells c T (0, 0))) :
    w.frozen? ⟨b, 0, Option.none⟩ = false ∧ w.frozen? ⟨b, 1, Option.none⟩ = false ∧ w.frozen? ⟨b, 2, Option.none⟩ = false ∧ w.frozen? ⟨b, 3, Option.none⟩ = false ∧ w.frozen? ⟨b, 4, Option.none⟩ = false ∧ w.frozen? ⟨b, 5, Option.none⟩ = false ∧ w.frozen? ⟨b, 6, Option.none⟩ = false ∧ w.frozen? ⟨b, 7, Option.none⟩ = false ∧ w.frozen? ⟨b, 8, Option.none⟩ = false ∧ w.frozen? ⟨b, 9, Option.none⟩ = false ∧ w.frozen? ⟨b, 10, Option.none⟩ = false := by
  simp [World.frozen?, h]
theorem blk12 {w : World} {b : Nat} {v0 v1 v2 v3 v4 v5 v6 v7 v8 v9 v10 v11 : Value} {T : TypeId} {fz : Nat × Nat} (h : w.heap[b]? = some (.cells #[v0, v1, v2, v3, v4, v5, v6, v7, v8, v9, v10, v11] T fz)) :
    w.cell? ⟨b, 0, Option.none⟩ = some v0 ∧ w.cell? ⟨b, 1, Option.none⟩ = some v1 ∧ w.cell? ⟨b, 2, Option.none⟩ = some v2 ∧ w.cell? ⟨b, 3, Option.none⟩ = some v3 ∧ w.cell? ⟨b, 4, Option.none⟩ = some v4 ∧ w.cell? ⟨b, 5, Option.none⟩ = some v5 ∧ w.cell? ⟨b, 6, Option.none⟩ = some v6 ∧ w.cell? ⟨b, 7, Option.none⟩ = some v7 ∧ w.cell? ⟨b, 8, Option.none⟩ = some v8 ∧ w.cell? ⟨b, 9, Option.none⟩ = some v9 ∧ w.cell? ⟨b, 10, Option.none⟩ = some v10 ∧ w.cell? ⟨b, 11, Option.none⟩ = some v11 := by
  simp [World.cell?, h]
theorem free12 {w : World} {b : Nat} {c : Array Value} {T : TypeId} (h : w.heap[b]? = some (.cells c T (0, 0))) :
    w.frozen? ⟨b, 0, Option.none⟩ = false ∧ w.frozen? ⟨b, 1, Option.none⟩ = false ∧ w.frozen? ⟨b, 2, Option.none⟩ = false ∧ w.frozen? ⟨b, 3, Option.none⟩ = false ∧ w.frozen? ⟨b, 4, Option.none⟩ = false ∧ w.frozen? ⟨b, 5, Option.none⟩ = false ∧ w.frozen? ⟨b, 6, Option.none⟩ = false ∧ w.frozen? ⟨b, 7, Option.none⟩ = false ∧ w.frozen? ⟨b, 8, Option.none⟩ = false ∧ w.frozen? ⟨b, 9, Option.none⟩ = false ∧ w.frozen? ⟨b, 10, Option.none⟩ = false ∧ w.frozen? ⟨b, 11, Option.none⟩ = false := by
  simp [World.frozen?, h]

theorem range_block0 {w : World} {b : Nat} {c : Array Value} {t : TypeId} {fz : Nat × Nat} (h : w.heap[b]? = some (.cells c t fz)) (cs : List Value) (hc : ∀ (j : Nat) (v : Value), cs[j]? = some v → c[j]? = some v) : w.rangeAt b 0 cs := fun j v hv => by
  have := hc j v hv
  simp [World.cell?, h, this]
/-- A word that is sent, as a value. -/
abbrev scells (i : Int) (x : Bp) : Array Value := #[.int .u8 i, .int .u64 x.r, .int .u32 x.c, .int .u64 x.b, .int .u8 x.p, .int .u8 x.hops, .int .u64 x.ver, .int .u8 x.role, .bool x.prop, .bool x.agree, .bool x.top, .int .u64 x.echo]
set_option maxHeartbeats 8000000 in
theorem word_any {w : World} {m g c i : Nat} {τ : TM} {x : Pt} (h : Mach w m g c τ) (hx : τ.P[i]? = some x) (hn : τ.P.length ≤ 8) :
    Calls Try.prog 37 #[.pointer (some ⟨m, 0, Option.none⟩), .int .u8 (i : Int)] w fun e w' => e = .returned (.agg (scells i (τ.word i x))) ∧ Keeps Nil w w' := by
  have hi := (List.getElem?_eq_some_iff.1 hx).1
  obtain ⟨⟨_, m1, _⟩, _⟩ := h.cells
  have hle := h.row.le
  have HRG := hid (h.row.range hx)
  have HM := hid h
  have HX := hid hx
  have hlm := h.lt
  clear h hx
  have hA := alloc_block w (.cells #[.int .u8 0, .int .u64 0, .int .u32 0, .int .u64 0, .int .u8 0, .int .u8 0, .int .u64 0, .int .u8 0, .bool false, .bool false, .bool false, .int .u64 0] 83 (0, 0))
  have kA : Keeps Nil w (w.alloc (.cells #[.int .u8 0, .int .u64 0, .int .u32 0, .int .u64 0, .int .u8 0, .int .u8 0, .int .u64 0, .int .u8 0, .bool false, .bool false, .bool false, .int .u64 0] 83 (0, 0))) := (Keeps.refl _ _).alloc _
  have m1a : (w.alloc (.cells #[.int .u8 0, .int .u64 0, .int .u32 0, .int .u64 0, .int .u8 0, .int .u8 0, .int .u64 0, .int .u8 0, .bool false, .bool false, .bool false, .int .u64 0] 83 (0, 0))).cell? ⟨m, 1, Option.none⟩ = some (.slice (some ⟨g, 0, Option.none⟩) τ.P.length c) := (kA.cell (p := ⟨m, 1, Option.none⟩) hlm.1 (fun e => e)).trans m1
  have hrg : (w.alloc (.cells #[.int .u8 0, .int .u64 0, .int .u32 0, .int .u64 0, .int .u8 0, .int .u8 0, .int .u64 0, .int .u8 0, .bool false, .bool false, .bool false, .int .u64 0] 83 (0, 0))).rangeAt g (i * 16) (pcl x) := (HM.out.keepN kA).row.range HX.out
  have HA := hid hA
  have KA := hid kA
  have HRA := hid hrg
  clear hA kA m1 hrg
  go_enter Try.func37, Try.ntmps37
  go_upto_region 1 with (fail)
  generalize (w.alloc (.cells #[.int .u8 0, .int .u64 0, .int .u32 0, .int .u64 0, .int .u8 0, .int .u8 0, .int .u64 0, .int .u8 0, .bool false, .bool false, .bool false, .int .u64 0] 83 (0, 0))) = wa at *
  obtain ⟨bA, hbA⟩ : ∃ bA, w.heap.size = bA := ⟨_, rfl⟩
  rw [hbA] at HA ⊢
  have HBA := hid hbA
  clear hbA
  go_upto_region 2 with ((first
    | (refine wpList_load_mid rfl 90 _ rfl g (i * 16) rfl (pcl x) _ ?_ Try.underlying90 rfl (by kernel_rfl) ?_; exact HRA.out)
    | (refine wpList_store_mid rfl 90 _ _ rfl wa.heap.size 0 (pcl x).toArray rfl rfl ?_ (by kernel_rfl) (by simp [pcl, Value.oneCell']) ?_; exact there_block (alloc_block wa _) 16 rfl)))
  try simp only [Act.put, List.setIfInBounds_toArray, List.set_cons_zero, List.set_cons_succ]
  obtain ⟨hPB, kP0⟩ := setCells_all (alloc_block wa (.cells #[.int .u32 0, .bool false, .int .u64 0, .int .u32 0, .int .u64 0, .int .u8 0, .int .u8 0, .int .u64 0, .int .u8 0, .bool false, .bool false, .bool false, .int .u64 0, .int .i64 0, .bool false, .int .i64 0] 90 (0, 0))) (pcl x).toArray rfl
  have kP : Keeps Nil wa ((wa.alloc (.cells #[.int .u32 0, .bool false, .int .u64 0, .int .u32 0, .int .u64 0, .int .u8 0, .int .u8 0, .int .u64 0, .int .u8 0, .bool false, .bool false, .bool false, .int .u64 0, .int .i64 0, .bool false, .int .i64 0] 90 (0, 0))).setCells wa.heap.size 0 (pcl x)) := ((Keeps.refl Nil wa).alloc (.cells #[.int .u32 0, .bool false, .int .u64 0, .int .u32 0, .int .u64 0, .int .u8 0, .int .u8 0, .int .u64 0, .int .u8 0, .bool false, .bool false, .bool false, .int .u64 0, .int .i64 0, .bool false, .int .i64 0] 90 (0, 0))).thenAt kP0 (Nat.le_refl _)
  have hPB : ((wa.alloc (.cells #[.int .u32 0, .bool false, .int .u64 0, .int .u32 0, .int .u64 0, .int .u8 0, .int .u8 0, .int .u64 0, .int .u8 0, .bool false, .bool false, .bool false, .int .u64 0, .int .i64 0, .bool false, .int .i64 0] 90 (0, 0))).setCells wa.heap.size 0 (pcl x)).heap[wa.heap.size]? = some (.cells (pcl x).toArray 90 (0, 0)) := hPB
  generalize (wa.alloc (.cells #[.int .u32 0, .bool false, .int .u64 0, .int .u32 0, .int .u64 0, .int .u8 0, .int .u8 0, .int .u64 0, .int .u8 0, .bool false, .bool false, .bool false, .int .u64 0, .int .i64 0, .bool false, .int .i64 0] 90 (0, 0))).setCells wa.heap.size 0 (pcl x) = wb at *
  obtain ⟨bP, hbP⟩ : ∃ bP, wa.heap.size = bP := ⟨_, rfl⟩
  rw [hbP] at hPB ⊢
  have HBP := hid hbP
  have HPB := hid hPB
  have KB := hid (KA.out.trans kP)
  have KP := hid kP
  clear hbP hPB kP kP0
  have HS : ∀ W, Keeps Nil wb W → (W.cell? ⟨m, 5, Option.none⟩ = some (.int .u8 τ.hops) ∧ W.cell? ⟨m, 6, Option.none⟩ = some (.int .u64 τ.ver) ∧ W.cell? ⟨bP, 15, Option.none⟩ = some (.int .i64 x.sp)) := fun W k => by
    have hb := (k.block _ (lt_of_block HPB.out) (fun e => e)).trans HPB.out
    obtain ⟨⟨_, _, _, _, _, n5, n6, _⟩, _⟩ := (HM.out.keepN (KB.out.trans k)).cells
    exact ⟨n5, n6, by simp [World.cell?, hb, pcl]⟩
  have HSH := hid HS
  clear HS
  have hbPl := lt_of_block HPB.out
  go_cut [6] (fun s6 wx => ∃ b6 : Nat, s6 = .pointer (some ⟨b6, 0, Option.none⟩) ∧ Hid (wb.heap.size ≤ b6 ∧ wx.heap[b6]? = some (.cells #[.int .u64 τ.root, .int .u32 τ.cost, .int .u64 τ.id, .int .u8 (i : Int), .int .u8 τ.hops, .int .u64 τ.ver, .int .u8 3, .bool false, .bool false, .bool (decide (0 < x.sp)), .int .u64 0] 54 (0, 0)) ∧ Keeps Nil wb wx))
  case first =>
    have kk := Keeps.refl Nil wb
    obtain ⟨s5, s6, s15⟩ := HSH.out wb kk
    have OWN := hid (fun W (kW : Keeps Nil wb W) => own_any (i : Int) (HM.out.keepN (KB.out.trans kW)))
    go_region_held3 (fun W => W.cell? ⟨m, 5, Option.none⟩ = some (.int .u8 τ.hops) ∧ W.cell? ⟨m, 6, Option.none⟩ = some (.int .u64 τ.ver) ∧ W.cell? ⟨bP, 15, Option.none⟩ = some (.int .i64 x.sp)) ((refine HSH.out _ ?_; first | with_reducible exact kk | with_reducible exact kk.drew | with_reducible exact (kk.alloc _) | with_reducible exact (kk.drew.alloc _) | with_reducible exact (kk.alloc _).drew | with_reducible exact (set11_keeps _ kk (Nat.le_refl _) _ _ _ _ _ _ _ _ _ _ _)))
      ((first
        | (go_at_call 46; refine (OWN.out wb.drew (Keeps.refl _ _).drew).mono ?_; rintro e w2 ⟨rfl, k2⟩; replace kk := kk.drew.trans k2)
        | (go_at_call 46; refine (OWN.out (wb.alloc (.cells #[.int .u64 0, .int .u32 0, .int .u64 0, .int .u8 0, .int .u8 0, .int .u64 0, .int .u8 0, .bool false, .bool false, .bool false, .int .u64 0] 54 (0, 0))).drew ((Keeps.refl _ _).alloc _).drew).mono ?_; rintro e w2 ⟨rfl, k2⟩; replace kk := (kk.alloc _).drew.trans k2; have hl2 := (k2.block wb.heap.size (by simp) (fun e => e)).trans (alloc_block wb (.cells #[.int .u64 0, .int .u32 0, .int .u64 0, .int .u8 0, .int .u8 0, .int .u64 0, .int .u8 0, .bool false, .bool false, .bool false, .int .u64 0] 54 (0, 0))); obtain ⟨d0, d1, d2, d3, d4, d5, d6, d7, d8, d9, d10⟩ := blk11 hl2; obtain ⟨e0, e1, e2, e3, e4, e5, e6, e7, e8, e9, e10⟩ := free11 hl2; replace hl2 := hid hl2)))
    all_goals (go_wp2_with fail; go_meet)
    all_goals first
      | (have hs4 := store_11 hl2.out rfl; exact ⟨wb.heap.size, rfl, hid ⟨Nat.le_refl _, hs4 _ _ _ _ _ _ _ _ _ _ _, set11_keeps _ kk (Nat.le_refl _) _ _ _ _ _ _ _ _ _ _ _⟩⟩)
      | exact ⟨w2.heap.size, rfl, hid ⟨kk.size, alloc_block _ _, kk.alloc _⟩⟩
  case rest =>
    obtain ⟨b6, rfl, HC⟩ := hcut
    have RO := role_any (HM.out.keepN (KB.out.trans HC.out.2.2)) HX.out (by omega)
    have hWD : τ.word i x = (if τ.roleOf i x = 1 then (⟨τ.root, τ.cost, τ.id, i, τ.hops, τ.ver, 1, false, true, decide (0 < x.sp), x.h.ver⟩ : Bp) else if τ.roleOf i x = 2 then (⟨τ.root, τ.cost, τ.id, i, τ.hops, τ.ver, 2, !x.ag, false, decide (0 < x.sp), 0⟩ : Bp) else (⟨τ.root, τ.cost, τ.id, i, τ.hops, τ.ver, 3, false, false, decide (0 < x.sp), 0⟩ : Bp)) := rfl
    obtain ⟨ro, hro⟩ : ∃ ro, τ.roleOf i x = ro := ⟨_, rfl⟩
    rw [hro] at RO hWD
    have ROH := hid RO
    clear RO hro
    go_wp2_with fail
    refine ROH.out.mono ?_; rintro e w4 ⟨rfl, k4⟩
    have h6 := (k4.block _ (lt_of_block HC.out.2.1) (fun e => e)).trans HC.out.2.1
    have hP4 := ((HC.out.2.2.trans k4).block _ (lt_of_block HPB.out) (fun e => e)).trans HPB.out
    have kz4 : Keeps Nil wa w4 := (KP.out.trans HC.out.2.2).trans k4
    have hge : wa.heap.size ≤ b6 := Nat.le_trans KP.out.size HC.out.1
    have H6 := hid h6
    have HP4 := hid hP4
    by_cases h1 : ro = 1
    · subst h1
      simp only [if_true] at hWD
      have HWD := hid hWD
      obtain ⟨d0, d1, d2, d3, d4, d5, d6, d7, d8, d9, d10⟩ := blk11 h6
      obtain ⟨e0, e1, e2, e3, e4, e5, e6, e7, e8, e9, e10⟩ := free11 h6
      have p7 : w4.cell? ⟨bP, 7, Option.none⟩ = some (.int .u64 x.h.ver) := by simp [World.cell?, hP4, pcl]
      have hne : ¬ bP = b6 := by have := lt_of_block HPB.out; have := HC.out.1; omega
      clear hWD h6 hP4
      go_upto_region 5 with (fail)
      go_region
      go_upto_region 8 with (fail)
      have Hz6 : Hid (((((w4.setCell ⟨b6, 6, Option.none⟩ (.int .u8 1)).setCell ⟨b6, 8, Option.none⟩ (.bool true)).setCell ⟨b6, 10, Option.none⟩ (.int .u64 x.h.ver)).drew).heap[b6]? = some (.cells #[.int .u64 τ.root, .int .u32 τ.cost, .int .u64 τ.id, .int .u8 (i : Int), .int .u8 τ.hops, .int .u64 τ.ver, .int .u8 1, .bool false, .bool true, .bool (decide (0 < x.sp)), .int .u64 x.h.ver] 54 (0, 0))) := hid (setCell_block (setCell_block (setCell_block H6.out 6 (.int .u8 1)) 8 (.bool true)) 10 (.int .u64 x.h.ver))
      have Kz : Keeps Nil wa ((((w4.setCell ⟨b6, 6, Option.none⟩ (.int .u8 1)).setCell ⟨b6, 8, Option.none⟩ (.bool true)).setCell ⟨b6, 10, Option.none⟩ (.int .u64 x.h.ver)).drew) := (((kz4.setCell (p := ⟨b6, 6, Option.none⟩) (fun h => absurd h (by simp; omega)) (.int .u8 1)).setCell (p := ⟨b6, 8, Option.none⟩) (fun h => absurd h (by simp; omega)) (.bool true)).setCell (p := ⟨b6, 10, Option.none⟩) (fun h => absurd h (by simp; omega)) (.int .u64 x.h.ver)).drew
      clear p7 d0 e0 d1 e1 d2 e2 d3 e3 d4 e4 d5 e5 d6 e6 d7 e7 d8 e8 d9 e9 d10 e10
      generalize (((w4.setCell ⟨b6, 6, Option.none⟩ (.int .u8 1)).setCell ⟨b6, 8, Option.none⟩ (.bool true)).setCell ⟨b6, 10, Option.none⟩ (.int .u64 x.h.ver)).drew = wz at *
      have hAz := (Kz.block _ (lt_of_block HA.out) (fun e => e)).trans HA.out
      have hz6 := Hz6.out
      have HRZ : Hid (wz.rangeAt b6 0 [.int .u64 τ.root, .int .u32 τ.cost, .int .u64 τ.id, .int .u8 (i : Int), .int .u8 τ.hops, .int .u64 τ.ver, .int .u8 1, .bool false, .bool true, .bool (decide (0 < x.sp)), .int .u64 x.h.ver]) := hid (range_block0 hz6 [.int .u64 τ.root, .int .u32 τ.cost, .int .u64 τ.id, .int .u8 (i : Int), .int .u8 τ.hops, .int .u64 τ.ver, .int .u8 1, .bool false, .bool true, .bool (decide (0 < x.sp)), .int .u64 x.h.ver] (by intro j v hv; simpa using hv))
      have HAZ := hid hAz
      have HYW : Hid (τ.word i x = (⟨τ.root, τ.cost, τ.id, i, τ.hops, τ.ver, 1, false, true, decide (0 < x.sp), x.h.ver⟩ : Bp)) := hid HWD.out
      clear hAz hz6
      go_wp2_with ((first
        | (refine wpList_load_mid rfl 54 _ rfl b6 0 rfl [.int .u64 τ.root, .int .u32 τ.cost, .int .u64 τ.id, .int .u8 (i : Int), .int .u8 τ.hops, .int .u64 τ.ver, .int .u8 1, .bool false, .bool true, .bool (decide (0 < x.sp)), .int .u64 x.h.ver] _ ?_ Try.underlying54 rfl (by kernel_rfl) ?_; exact HRZ.out)
        | (refine wpList_store_mid rfl 83 _ _ rfl bA 0 #[.int .u8 (i : Int), .int .u64 τ.root, .int .u32 τ.cost, .int .u64 τ.id, .int .u8 (i : Int), .int .u8 τ.hops, .int .u64 τ.ver, .int .u8 1, .bool false, .bool true, .bool (decide (0 < x.sp)), .int .u64 x.h.ver] rfl rfl ?_ (by kernel_rfl) (by simp [Value.oneCell']) ?_; exact there_block HAZ.out 12 rfl; have hs := setCells_all HAZ.out #[.int .u8 (i : Int), .int .u64 τ.root, .int .u32 τ.cost, .int .u64 τ.id, .int .u8 (i : Int), .int .u8 τ.hops, .int .u64 τ.ver, .int .u8 1, .bool false, .bool true, .bool (decide (0 < x.sp)), .int .u64 x.h.ver] rfl; generalize wz.setCells bA 0 (#[.int .u8 (i : Int), .int .u64 τ.root, .int .u32 τ.cost, .int .u64 τ.id, .int .u8 (i : Int), .int .u8 τ.hops, .int .u64 τ.ver, .int .u8 1, .bool false, .bool true, .bool (decide (0 < x.sp)), .int .u64 x.h.ver] : Array Value).toList = wq at hs ⊢)))
      obtain ⟨hAF, kAF⟩ := hs
      refine bodyPost_ret (ret_cell1 rfl Try.underlying83 (n := 12) (by kernel_rfl) _ _ bA #[.int .u8 (i : Int), .int .u64 τ.root, .int .u32 τ.cost, .int .u64 τ.id, .int .u8 (i : Int), .int .u8 τ.hops, .int .u64 τ.ver, .int .u8 1, .bool false, .bool true, .bool (decide (0 < x.sp)), .int .u64 x.h.ver] rfl hAF rfl) rfl ?_
      exact ⟨by rw [HYW.out], (KA.out.trans Kz).thenAt kAF (Nat.le_of_eq HBA.out)⟩
    · by_cases h2 : ro = 2
      · subst h2
        simp only [if_true, if_neg h1] at hWD
        have HWD := hid hWD
        obtain ⟨d0, d1, d2, d3, d4, d5, d6, d7, d8, d9, d10⟩ := blk11 h6
        obtain ⟨e0, e1, e2, e3, e4, e5, e6, e7, e8, e9, e10⟩ := free11 h6
        have p14 : w4.cell? ⟨bP, 14, Option.none⟩ = some (.bool x.ag) := by simp [World.cell?, hP4, pcl]
        have hne : ¬ bP = b6 := by have := lt_of_block HPB.out; have := HC.out.1; omega
        clear hWD h6 hP4
        go_upto_region 7 with (fail)
        go_region
        go_upto_region 8 with (fail)
        have Hz6 : Hid ((((w4.setCell ⟨b6, 6, Option.none⟩ (.int .u8 2)).setCell ⟨b6, 7, Option.none⟩ (.bool (!x.ag))).drew).heap[b6]? = some (.cells #[.int .u64 τ.root, .int .u32 τ.cost, .int .u64 τ.id, .int .u8 (i : Int), .int .u8 τ.hops, .int .u64 τ.ver, .int .u8 2, .bool (!x.ag), .bool false, .bool (decide (0 < x.sp)), .int .u64 0] 54 (0, 0))) := hid (setCell_block (setCell_block H6.out 6 (.int .u8 2)) 7 (.bool (!x.ag)))
        have Kz : Keeps Nil wa (((w4.setCell ⟨b6, 6, Option.none⟩ (.int .u8 2)).setCell ⟨b6, 7, Option.none⟩ (.bool (!x.ag))).drew) := ((kz4.setCell (p := ⟨b6, 6, Option.none⟩) (fun h => absurd h (by simp; omega)) (.int .u8 2)).setCell (p := ⟨b6, 7, Option.none⟩) (fun h => absurd h (by simp; omega)) (.bool (!x.ag))).drew
        clear p14 d0 e0 d1 e1 d2 e2 d3 e3 d4 e4 d5 e5 d6 e6 d7 e7 d8 e8 d9 e9 d10 e10
        generalize ((w4.setCell ⟨b6, 6, Option.none⟩ (.int .u8 2)).setCell ⟨b6, 7, Option.none⟩ (.bool (!x.ag))).drew = wz at *
        have hAz := (Kz.block _ (lt_of_block HA.out) (fun e => e)).trans HA.out
        have hz6 := Hz6.out
        have HRZ : Hid (wz.rangeAt b6 0 [.int .u64 τ.root, .int .u32 τ.cost, .int .u64 τ.id, .int .u8 (i : Int), .int .u8 τ.hops, .int .u64 τ.ver, .int .u8 2, .bool (!x.ag), .bool false, .bool (decide (0 < x.sp)), .int .u64 0]) := hid (range_block0 hz6 [.int .u64 τ.root, .int .u32 τ.cost, .int .u64 τ.id, .int .u8 (i : Int), .int .u8 τ.hops, .int .u64 τ.ver, .int .u8 2, .bool (!x.ag), .bool false, .bool (decide (0 < x.sp)), .int .u64 0] (by intro j v hv; simpa using hv))
        have HAZ := hid hAz
        have HYW : Hid (τ.word i x = (⟨τ.root, τ.cost, τ.id, i, τ.hops, τ.ver, 2, !x.ag, false, decide (0 < x.sp), 0⟩ : Bp)) := hid HWD.out
        clear hAz hz6
        go_wp2_with ((first
          | (refine wpList_load_mid rfl 54 _ rfl b6 0 rfl [.int .u64 τ.root, .int .u32 τ.cost, .int .u64 τ.id, .int .u8 (i : Int), .int .u8 τ.hops, .int .u64 τ.ver, .int .u8 2, .bool (!x.ag), .bool false, .bool (decide (0 < x.sp)), .int .u64 0] _ ?_ Try.underlying54 rfl (by kernel_rfl) ?_; exact HRZ.out)
          | (refine wpList_store_mid rfl 83 _ _ rfl bA 0 #[.int .u8 (i : Int), .int .u64 τ.root, .int .u32 τ.cost, .int .u64 τ.id, .int .u8 (i : Int), .int .u8 τ.hops, .int .u64 τ.ver, .int .u8 2, .bool (!x.ag), .bool false, .bool (decide (0 < x.sp)), .int .u64 0] rfl rfl ?_ (by kernel_rfl) (by simp [Value.oneCell']) ?_; exact there_block HAZ.out 12 rfl; have hs := setCells_all HAZ.out #[.int .u8 (i : Int), .int .u64 τ.root, .int .u32 τ.cost, .int .u64 τ.id, .int .u8 (i : Int), .int .u8 τ.hops, .int .u64 τ.ver, .int .u8 2, .bool (!x.ag), .bool false, .bool (decide (0 < x.sp)), .int .u64 0] rfl; generalize wz.setCells bA 0 (#[.int .u8 (i : Int), .int .u64 τ.root, .int .u32 τ.cost, .int .u64 τ.id, .int .u8 (i : Int), .int .u8 τ.hops, .int .u64 τ.ver, .int .u8 2, .bool (!x.ag), .bool false, .bool (decide (0 < x.sp)), .int .u64 0] : Array Value).toList = wq at hs ⊢)))
        obtain ⟨hAF, kAF⟩ := hs
        refine bodyPost_ret (ret_cell1 rfl Try.underlying83 (n := 12) (by kernel_rfl) _ _ bA #[.int .u8 (i : Int), .int .u64 τ.root, .int .u32 τ.cost, .int .u64 τ.id, .int .u8 (i : Int), .int .u8 τ.hops, .int .u64 τ.ver, .int .u8 2, .bool (!x.ag), .bool false, .bool (decide (0 < x.sp)), .int .u64 0] rfl hAF rfl) rfl ?_
        exact ⟨by rw [HYW.out], (KA.out.trans Kz).thenAt kAF (Nat.le_of_eq HBA.out)⟩
      · rw [if_neg h1, if_neg h2] at hWD
        have HWD := hid hWD
        have b1 : (ro == 1) = false := by simp [h1]
        have b2 : (ro == 2) = false := by simp [h2]
        clear hWD h6 hP4
        go_upto_region 8 with (fail)
        have Hz6 : Hid ((w4).heap[b6]? = some (.cells #[.int .u64 τ.root, .int .u32 τ.cost, .int .u64 τ.id, .int .u8 (i : Int), .int .u8 τ.hops, .int .u64 τ.ver, .int .u8 3, .bool false, .bool false, .bool (decide (0 < x.sp)), .int .u64 0] 54 (0, 0))) := hid H6.out
        have Kz : Keeps Nil wa w4 := kz4
        obtain ⟨wz, hwz⟩ : ∃ wz, wz = w4 := ⟨_, rfl⟩
        subst hwz
        have hAz := (Kz.block _ (lt_of_block HA.out) (fun e => e)).trans HA.out
        have hz6 := Hz6.out
        have HRZ : Hid (wz.rangeAt b6 0 [.int .u64 τ.root, .int .u32 τ.cost, .int .u64 τ.id, .int .u8 (i : Int), .int .u8 τ.hops, .int .u64 τ.ver, .int .u8 3, .bool false, .bool false, .bool (decide (0 < x.sp)), .int .u64 0]) := hid (range_block0 hz6 [.int .u64 τ.root, .int .u32 τ.cost, .int .u64 τ.id, .int .u8 (i : Int), .int .u8 τ.hops, .int .u64 τ.ver, .int .u8 3, .bool false, .bool false, .bool (decide (0 < x.sp)), .int .u64 0] (by intro j v hv; simpa using hv))
        have HAZ := hid hAz
        have HYW : Hid (τ.word i x = (⟨τ.root, τ.cost, τ.id, i, τ.hops, τ.ver, 3, false, false, decide (0 < x.sp), 0⟩ : Bp)) := hid HWD.out
        clear hAz hz6
        go_wp2_with ((first
          | (refine wpList_load_mid rfl 54 _ rfl b6 0 rfl [.int .u64 τ.root, .int .u32 τ.cost, .int .u64 τ.id, .int .u8 (i : Int), .int .u8 τ.hops, .int .u64 τ.ver, .int .u8 3, .bool false, .bool false, .bool (decide (0 < x.sp)), .int .u64 0] _ ?_ Try.underlying54 rfl (by kernel_rfl) ?_; exact HRZ.out)
          | (refine wpList_store_mid rfl 83 _ _ rfl bA 0 #[.int .u8 (i : Int), .int .u64 τ.root, .int .u32 τ.cost, .int .u64 τ.id, .int .u8 (i : Int), .int .u8 τ.hops, .int .u64 τ.ver, .int .u8 3, .bool false, .bool false, .bool (decide (0 < x.sp)), .int .u64 0] rfl rfl ?_ (by kernel_rfl) (by simp [Value.oneCell']) ?_; exact there_block HAZ.out 12 rfl; have hs := setCells_all HAZ.out #[.int .u8 (i : Int), .int .u64 τ.root, .int .u32 τ.cost, .int .u64 τ.id, .int .u8 (i : Int), .int .u8 τ.hops, .int .u64 τ.ver, .int .u8 3, .bool false, .bool false, .bool (decide (0 < x.sp)), .int .u64 0] rfl; generalize wz.setCells bA 0 (#[.int .u8 (i : Int), .int .u64 τ.root, .int .u32 τ.cost, .int .u64 τ.id, .int .u8 (i : Int), .int .u8 τ.hops, .int .u64 τ.ver, .int .u8 3, .bool false, .bool false, .bool (decide (0 < x.sp)), .int .u64 0] : Array Value).toList = wq at hs ⊢)))
        obtain ⟨hAF, kAF⟩ := hs
        refine bodyPost_ret (ret_cell1 rfl Try.underlying83 (n := 12) (by kernel_rfl) _ _ bA #[.int .u8 (i : Int), .int .u64 τ.root, .int .u32 τ.cost, .int .u64 τ.id, .int .u8 (i : Int), .int .u8 τ.hops, .int .u64 τ.ver, .int .u8 3, .bool false, .bool false, .bool (decide (0 < x.sp)), .int .u64 0] rfl hAF rfl) rfl ?_
        exact ⟨by rw [HYW.out], (KA.out.trans Kz).thenAt kAF (Nat.le_of_eq HBA.out)⟩
end Go.Proofs.Ytbbodecdijankaa
