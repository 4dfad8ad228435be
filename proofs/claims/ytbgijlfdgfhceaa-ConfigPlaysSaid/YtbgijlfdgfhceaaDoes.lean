/-
  Layer 16: the law's little functions: mep, mip, assoc; acts; Does. Conditions: the table lies so; the act's numbers are in range.
-/
import Derived.Test.YtbgijlfdgfhceaaAddAsc
namespace Go.Proofs.Ytbgijlfdgfhceaa
open Go.RowKit
set_option linter.unusedVariables false
set_option linter.unusedSimpArgs false
set_option maxRecDepth 8000

theorem mep_any (ai id po : Int) (up : Bool) (w : World) : Calls Try.prog 15 #[.agg #[.int .i64 ai, .int .u16 id, .int .u8 po, .bool up]] w fun e w' => e = .returned (.agg #[.int .i64 ai, .int .u16 id, .int .u8 po, .bool up]) ∧ Keeps Nil w w' := by
  go_enter Try.func15, Try.ntmps15
  go_wp2_with fail
  go_returns
  exact ⟨rfl, by repeat' (first | exact Keeps.refl _ _ | refine Keeps.alloc ?_ _)⟩
theorem mip_any (po v l : Int) (w : World) : Calls Try.prog 21 #[.agg #[.int .u8 po, .int .u16 v, .int .u8 l]] w fun e w' => e = .returned (.agg #[.int .u8 po, .int .u16 v, .int .u8 l]) ∧ Keeps Nil w w' := by
  go_enter Try.func21, Try.ntmps21
  go_wp2_with fail
  go_returns
  exact ⟨rfl, by repeat' (first | exact Keeps.refl _ _ | refine Keeps.alloc ?_ _)⟩
theorem assoc_any (lv : Int) (d o : ByteArray) (v i : Int) (p : Option Addr) (n c : Nat) (w : World) : Calls Try.prog 23 #[.agg #[.int .u8 lv, .string d, .string o, .int .u16 v, .int .u8 i, .slice p n c]] w fun e w' => e = .returned (.agg #[.int .u8 lv, .string d, .string o, .int .u16 v, .int .u8 i, .slice p n c]) ∧ Keeps Nil w w' := by
  go_enter Try.func23, Try.ntmps23
  go_wp2_with fail
  go_returns
  exact ⟨rfl, by repeat' (first | exact Keeps.refl _ _ | refine Keeps.alloc ?_ _)⟩

/-- An act. -/
structure Ac where
  d : Int
  a : As
  e : Me
  m : Mi
abbrev cellsX (x : Ac) : List Value := [.int .u8 x.d, .int .u8 x.a.lv, .string x.a.dom, .string x.a.own, .int .u16 x.a.vid, .int .u8 x.a.iv, .slice x.a.p x.a.ms.length x.a.c, .int .i64 x.e.ai, .int .u16 x.e.id, .int .u8 x.e.port, .bool x.e.up, .int .u8 x.m.port, .int .u16 x.m.vid, .int .u8 x.m.lv]
def Ac.Ok (x : Ac) : Prop := (0 ≤ x.d ∧ x.d < 256) ∧ x.e.Ok ∧ ((0 ≤ x.m.port ∧ x.m.port < 256) ∧ (0 ≤ x.m.vid ∧ x.m.vid < 65536) ∧ (0 ≤ x.m.lv ∧ x.m.lv < 256)) ∧ (0 ≤ x.a.lv ∧ x.a.lv < 256) ∧ (0 ≤ x.a.vid ∧ x.a.vid < 65536)
def CT.does (τ : CT) (x : Ac) : CT × Int × Int :=
  if x.d = 0 then ((τ.addMep x.e).1, 0, (τ.addMep x.e).2)
  else if x.d = 1 then ((τ.dropMep x.e.ai x.e.id).1, 0, (τ.dropMep x.e.ai x.e.id).2)
  else if x.d = 2 then ((τ.addMip x.m).1, 0, (τ.addMip x.m).2)
  else if x.d = 3 then ((τ.dropMip x.m.port x.m.vid).1, 0, (τ.dropMip x.m.port x.m.vid).2)
  else τ.addAsc x.a
theorem After.from {w w1 w2 : World} {S : Nat → Prop} {t : Nat} {τ : CT} (h : After w1 w2 S t τ) (k : Keeps Nil w w1) (hS : ∀ g, S g → g < w.heap.size) (hz : w1.heap.size ≤ w2.heap.size) : After w w2 S t τ :=
  h.mono (fun g hg => hg.elim .inl (fun h => .inr ⟨Nat.le_trans k.size h.1, h.2⟩)) (nw_bound hS (Nat.le_trans k.size hz))
theorem fourteen_block {w : World} {b : Nat} {v0 v1 v2 v3 v4 v5 v6 v7 v8 v9 v10 v11 v12 v13 : Value} {T : TypeId} (h : w.heap[b]? = some (.cells #[v0, v1, v2, v3, v4, v5, v6, v7, v8, v9, v10, v11, v12, v13] T (0, 0))) :
    w.cell? ⟨b, 0, Option.none⟩ = some v0 ∧ w.cell? ⟨b, 1, Option.none⟩ = some v1 ∧ w.cell? ⟨b, 2, Option.none⟩ = some v2 ∧ w.cell? ⟨b, 3, Option.none⟩ = some v3 ∧ w.cell? ⟨b, 4, Option.none⟩ = some v4 ∧ w.cell? ⟨b, 5, Option.none⟩ = some v5 ∧ w.cell? ⟨b, 6, Option.none⟩ = some v6 ∧ w.cell? ⟨b, 7, Option.none⟩ = some v7 ∧ w.cell? ⟨b, 8, Option.none⟩ = some v8 ∧ w.cell? ⟨b, 9, Option.none⟩ = some v9 ∧ w.cell? ⟨b, 10, Option.none⟩ = some v10 ∧ w.cell? ⟨b, 11, Option.none⟩ = some v11 ∧ w.cell? ⟨b, 12, Option.none⟩ = some v12 ∧ w.cell? ⟨b, 13, Option.none⟩ = some v13 := by
  simp [World.cell?, h]
set_option maxHeartbeats 8000000 in
theorem does_nil (x : Ac) (w : World) : Calls Try.prog 9 #[.pointer Option.none, .agg #[.int .u8 x.d, .int .u8 x.a.lv, .string x.a.dom, .string x.a.own, .int .u16 x.a.vid, .int .u8 x.a.iv, .slice x.a.p x.a.ms.length x.a.c, .int .i64 x.e.ai, .int .u16 x.e.id, .int .u8 x.e.port, .bool x.e.up, .int .u8 x.m.port, .int .u16 x.m.vid, .int .u8 x.m.lv]] w fun e w' => e = .returned (.tuple #[.int .i64 0, .int .i64 1]) ∧ Keeps Nil w w' := by
  have k0 : Keeps Nil w (w.alloc (.cells #[.int .u8 x.d, .int .u8 x.a.lv, .string x.a.dom, .string x.a.own, .int .u16 x.a.vid, .int .u8 x.a.iv, .slice x.a.p x.a.ms.length x.a.c, .int .i64 x.e.ai, .int .u16 x.e.id, .int .u8 x.e.port, .bool x.e.up, .int .u8 x.m.port, .int .u16 x.m.vid, .int .u8 x.m.lv] 43 (0, 0))) := (Keeps.refl _ _).alloc _
  rcases (show x.d = 0 ∨ x.d = 1 ∨ x.d = 2 ∨ x.d = 3 ∨ (x.d ≠ 0 ∧ x.d ≠ 1 ∧ x.d ≠ 2 ∧ x.d ≠ 3) by omega) with c | c | c | c | c
  · have q0 : (x.d == 0) = true := by simp [c]
    clear c
    go_enter Try.func9, Try.ntmps9
    go_upto_region 1 with (fail)
    have hb := alloc_block w (.cells #[.int .u8 x.d, .int .u8 x.a.lv, .string x.a.dom, .string x.a.own, .int .u16 x.a.vid, .int .u8 x.a.iv, .slice x.a.p x.a.ms.length x.a.c, .int .i64 x.e.ai, .int .u16 x.e.id, .int .u8 x.e.port, .bool x.e.up, .int .u8 x.m.port, .int .u16 x.m.vid, .int .u8 x.m.lv] 43 (0, 0))
    generalize (w.alloc (.cells #[.int .u8 x.d, .int .u8 x.a.lv, .string x.a.dom, .string x.a.own, .int .u16 x.a.vid, .int .u8 x.a.iv, .slice x.a.p x.a.ms.length x.a.c, .int .i64 x.e.ai, .int .u16 x.e.id, .int .u8 x.e.port, .bool x.e.up, .int .u8 x.m.port, .int .u16 x.m.vid, .int .u8 x.m.lv] 43 (0, 0))) = W at *
    generalize w.heap.size = b0 at *
    obtain ⟨z0, z1, z2, z3, z4, z5, z6, z7, z8, z9, z10, z11, z12, z13⟩ := fourteen_block hb
    have lb := lt_of_block hb
    have K0 := hid k0
    clear k0 hb
    go_wp2_with fail
    refine (mep_any x.e.ai x.e.id x.e.port x.e.up W).mono ?_; rintro e w2 ⟨rfl, k2⟩
    go_wp2_with fail
    refine (addmep_nil x.e w2).mono ?_; rintro e w3 ⟨rfl, k3⟩
    go_wp2_with fail
    go_ret2
    exact ⟨rfl, (K0.out.trans k2).trans k3⟩
  · have q0 : (x.d == 0) = false := by simp [c]
    have q1 : (x.d == 1) = true := by simp [c]
    clear c
    go_enter Try.func9, Try.ntmps9
    go_upto_region 1 with (fail)
    have hb := alloc_block w (.cells #[.int .u8 x.d, .int .u8 x.a.lv, .string x.a.dom, .string x.a.own, .int .u16 x.a.vid, .int .u8 x.a.iv, .slice x.a.p x.a.ms.length x.a.c, .int .i64 x.e.ai, .int .u16 x.e.id, .int .u8 x.e.port, .bool x.e.up, .int .u8 x.m.port, .int .u16 x.m.vid, .int .u8 x.m.lv] 43 (0, 0))
    generalize (w.alloc (.cells #[.int .u8 x.d, .int .u8 x.a.lv, .string x.a.dom, .string x.a.own, .int .u16 x.a.vid, .int .u8 x.a.iv, .slice x.a.p x.a.ms.length x.a.c, .int .i64 x.e.ai, .int .u16 x.e.id, .int .u8 x.e.port, .bool x.e.up, .int .u8 x.m.port, .int .u16 x.m.vid, .int .u8 x.m.lv] 43 (0, 0))) = W at *
    generalize w.heap.size = b0 at *
    obtain ⟨z0, z1, z2, z3, z4, z5, z6, z7, z8, z9, z10, z11, z12, z13⟩ := fourteen_block hb
    have lb := lt_of_block hb
    have K0 := hid k0
    clear k0 hb
    go_wp2_with fail
    refine (dropmep_nil x.e.ai x.e.id W).mono ?_; rintro e w3 ⟨rfl, k3⟩
    go_wp2_with fail
    go_ret2
    exact ⟨rfl, K0.out.trans k3⟩
  · have q0 : (x.d == 0) = false := by simp [c]
    have q1 : (x.d == 1) = false := by simp [c]
    have q2 : (x.d == 2) = true := by simp [c]
    clear c
    go_enter Try.func9, Try.ntmps9
    go_upto_region 1 with (fail)
    have hb := alloc_block w (.cells #[.int .u8 x.d, .int .u8 x.a.lv, .string x.a.dom, .string x.a.own, .int .u16 x.a.vid, .int .u8 x.a.iv, .slice x.a.p x.a.ms.length x.a.c, .int .i64 x.e.ai, .int .u16 x.e.id, .int .u8 x.e.port, .bool x.e.up, .int .u8 x.m.port, .int .u16 x.m.vid, .int .u8 x.m.lv] 43 (0, 0))
    generalize (w.alloc (.cells #[.int .u8 x.d, .int .u8 x.a.lv, .string x.a.dom, .string x.a.own, .int .u16 x.a.vid, .int .u8 x.a.iv, .slice x.a.p x.a.ms.length x.a.c, .int .i64 x.e.ai, .int .u16 x.e.id, .int .u8 x.e.port, .bool x.e.up, .int .u8 x.m.port, .int .u16 x.m.vid, .int .u8 x.m.lv] 43 (0, 0))) = W at *
    generalize w.heap.size = b0 at *
    obtain ⟨z0, z1, z2, z3, z4, z5, z6, z7, z8, z9, z10, z11, z12, z13⟩ := fourteen_block hb
    have lb := lt_of_block hb
    have K0 := hid k0
    clear k0 hb
    go_wp2_with fail
    refine (mip_any x.m.port x.m.vid x.m.lv W).mono ?_; rintro e w2 ⟨rfl, k2⟩
    go_wp2_with fail
    refine (addmip_nil x.m w2).mono ?_; rintro e w3 ⟨rfl, k3⟩
    go_wp2_with fail
    go_ret2
    exact ⟨rfl, (K0.out.trans k2).trans k3⟩
  · have q0 : (x.d == 0) = false := by simp [c]
    have q1 : (x.d == 1) = false := by simp [c]
    have q2 : (x.d == 2) = false := by simp [c]
    have q3 : (x.d == 3) = true := by simp [c]
    clear c
    go_enter Try.func9, Try.ntmps9
    go_upto_region 1 with (fail)
    have hb := alloc_block w (.cells #[.int .u8 x.d, .int .u8 x.a.lv, .string x.a.dom, .string x.a.own, .int .u16 x.a.vid, .int .u8 x.a.iv, .slice x.a.p x.a.ms.length x.a.c, .int .i64 x.e.ai, .int .u16 x.e.id, .int .u8 x.e.port, .bool x.e.up, .int .u8 x.m.port, .int .u16 x.m.vid, .int .u8 x.m.lv] 43 (0, 0))
    generalize (w.alloc (.cells #[.int .u8 x.d, .int .u8 x.a.lv, .string x.a.dom, .string x.a.own, .int .u16 x.a.vid, .int .u8 x.a.iv, .slice x.a.p x.a.ms.length x.a.c, .int .i64 x.e.ai, .int .u16 x.e.id, .int .u8 x.e.port, .bool x.e.up, .int .u8 x.m.port, .int .u16 x.m.vid, .int .u8 x.m.lv] 43 (0, 0))) = W at *
    generalize w.heap.size = b0 at *
    obtain ⟨z0, z1, z2, z3, z4, z5, z6, z7, z8, z9, z10, z11, z12, z13⟩ := fourteen_block hb
    have lb := lt_of_block hb
    have K0 := hid k0
    clear k0 hb
    go_wp2_with fail
    refine (dropmip_nil x.m.port x.m.vid W).mono ?_; rintro e w3 ⟨rfl, rfl⟩
    go_wp2_with fail
    go_ret2
    exact ⟨rfl, K0.out⟩
  · have q0 : (x.d == 0) = false := by simp [c]
    have q1 : (x.d == 1) = false := by simp [c]
    have q2 : (x.d == 2) = false := by simp [c]
    have q3 : (x.d == 3) = false := by simp [c]
    clear c
    go_enter Try.func9, Try.ntmps9
    go_upto_region 1 with (fail)
    have hb := alloc_block w (.cells #[.int .u8 x.d, .int .u8 x.a.lv, .string x.a.dom, .string x.a.own, .int .u16 x.a.vid, .int .u8 x.a.iv, .slice x.a.p x.a.ms.length x.a.c, .int .i64 x.e.ai, .int .u16 x.e.id, .int .u8 x.e.port, .bool x.e.up, .int .u8 x.m.port, .int .u16 x.m.vid, .int .u8 x.m.lv] 43 (0, 0))
    generalize (w.alloc (.cells #[.int .u8 x.d, .int .u8 x.a.lv, .string x.a.dom, .string x.a.own, .int .u16 x.a.vid, .int .u8 x.a.iv, .slice x.a.p x.a.ms.length x.a.c, .int .i64 x.e.ai, .int .u16 x.e.id, .int .u8 x.e.port, .bool x.e.up, .int .u8 x.m.port, .int .u16 x.m.vid, .int .u8 x.m.lv] 43 (0, 0))) = W at *
    generalize w.heap.size = b0 at *
    obtain ⟨z0, z1, z2, z3, z4, z5, z6, z7, z8, z9, z10, z11, z12, z13⟩ := fourteen_block hb
    have lb := lt_of_block hb
    have K0 := hid k0
    clear k0 hb
    go_wp2_with fail
    refine (assoc_any x.a.lv x.a.dom x.a.own x.a.vid x.a.iv x.a.p x.a.ms.length x.a.c W).mono ?_; rintro e w2 ⟨rfl, k2⟩
    go_wp2_with fail
    refine (addasc_nil x.a w2).mono ?_; rintro e w3 ⟨rfl, k3⟩
    go_wp2_with fail
    go_ret2
    exact ⟨rfl, (K0.out.trans k2).trans k3⟩

set_option maxHeartbeats 8000000 in
theorem p_does (x : Ac) (hx : x.Ok) (B : Nat) {w : World} {S : Nat → Prop} {t : Nat} {τ : CT} (h : Tbl w S t τ) (hg : τ.Good) (hm : MsV w B x.a) :
    Calls Try.prog 9 #[.pointer (some ⟨t, 0, Option.none⟩), .agg #[.int .u8 x.d, .int .u8 x.a.lv, .string x.a.dom, .string x.a.own, .int .u16 x.a.vid, .int .u8 x.a.iv, .slice x.a.p x.a.ms.length x.a.c, .int .i64 x.e.ai, .int .u16 x.e.id, .int .u8 x.e.port, .bool x.e.up, .int .u8 x.m.port, .int .u16 x.m.vid, .int .u8 x.m.lv]] w fun e w' => e = .returned (.tuple #[.int .i64 (τ.does x).2.1, .int .i64 (τ.does x).2.2]) ∧ After w w' S t (τ.does x).1 ∧ Keeps S w w' := by
  have HT := hid h
  have HG := hid hg
  have HO := hid hx
  have k0 : Keeps Nil w (w.alloc (.cells #[.int .u8 x.d, .int .u8 x.a.lv, .string x.a.dom, .string x.a.own, .int .u16 x.a.vid, .int .u8 x.a.iv, .slice x.a.p x.a.ms.length x.a.c, .int .i64 x.e.ai, .int .u16 x.e.id, .int .u8 x.e.port, .bool x.e.up, .int .u8 x.m.port, .int .u16 x.m.vid, .int .u8 x.m.lv] 43 (0, 0))) := (Keeps.refl _ _).alloc _
  have MS := hid (hm.keepN k0)

  clear h hg hx hm
  rcases (show x.d = 0 ∨ x.d = 1 ∨ x.d = 2 ∨ x.d = 3 ∨ (x.d ≠ 0 ∧ x.d ≠ 1 ∧ x.d ≠ 2 ∧ x.d ≠ 3) by omega) with c | c | c | c | c
  · have HD := hid (show τ.does x = ((τ.addMep x.e).1, 0, (τ.addMep x.e).2) by unfold CT.does; simp [c])
    have q0 : (x.d == 0) = true := by simp [c]
    clear c
    go_enter Try.func9, Try.ntmps9
    go_upto_region 1 with (fail)
    have hb := alloc_block w (.cells #[.int .u8 x.d, .int .u8 x.a.lv, .string x.a.dom, .string x.a.own, .int .u16 x.a.vid, .int .u8 x.a.iv, .slice x.a.p x.a.ms.length x.a.c, .int .i64 x.e.ai, .int .u16 x.e.id, .int .u8 x.e.port, .bool x.e.up, .int .u8 x.m.port, .int .u16 x.m.vid, .int .u8 x.m.lv] 43 (0, 0))
    generalize (w.alloc (.cells #[.int .u8 x.d, .int .u8 x.a.lv, .string x.a.dom, .string x.a.own, .int .u16 x.a.vid, .int .u8 x.a.iv, .slice x.a.p x.a.ms.length x.a.c, .int .i64 x.e.ai, .int .u16 x.e.id, .int .u8 x.e.port, .bool x.e.up, .int .u8 x.m.port, .int .u16 x.m.vid, .int .u8 x.m.lv] 43 (0, 0))) = W at *
    generalize w.heap.size = b0 at *
    obtain ⟨z0, z1, z2, z3, z4, z5, z6, z7, z8, z9, z10, z11, z12, z13⟩ := fourteen_block hb
    have lb := lt_of_block hb
    have K0 := hid k0
    clear k0 hb
    go_wp2_with fail
    refine (mep_any x.e.ai x.e.id x.e.port x.e.up W).mono ?_; rintro e w2 ⟨rfl, k2⟩
    go_wp2_with fail
    refine (p_addmep x.e HO.out.2.1 (HT.out.keepN (K0.out.trans k2)) HG.out).mono ?_; rintro e w3 ⟨rfl, h3, k3⟩
    have H3 := hid h3
    clear h3
    go_wp2_with fail
    go_ret2
    rw [HD.out]
    exact ⟨rfl, H3.out.from (K0.out.trans k2) HT.out.bound k3.size, ((K0.out.trans k2)).ofNil.trans k3⟩
  · have HD := hid (show τ.does x = ((τ.dropMep x.e.ai x.e.id).1, 0, (τ.dropMep x.e.ai x.e.id).2) by unfold CT.does; simp [c])
    have q0 : (x.d == 0) = false := by simp [c]
    have q1 : (x.d == 1) = true := by simp [c]
    clear c
    go_enter Try.func9, Try.ntmps9
    go_upto_region 1 with (fail)
    have hb := alloc_block w (.cells #[.int .u8 x.d, .int .u8 x.a.lv, .string x.a.dom, .string x.a.own, .int .u16 x.a.vid, .int .u8 x.a.iv, .slice x.a.p x.a.ms.length x.a.c, .int .i64 x.e.ai, .int .u16 x.e.id, .int .u8 x.e.port, .bool x.e.up, .int .u8 x.m.port, .int .u16 x.m.vid, .int .u8 x.m.lv] 43 (0, 0))
    generalize (w.alloc (.cells #[.int .u8 x.d, .int .u8 x.a.lv, .string x.a.dom, .string x.a.own, .int .u16 x.a.vid, .int .u8 x.a.iv, .slice x.a.p x.a.ms.length x.a.c, .int .i64 x.e.ai, .int .u16 x.e.id, .int .u8 x.e.port, .bool x.e.up, .int .u8 x.m.port, .int .u16 x.m.vid, .int .u8 x.m.lv] 43 (0, 0))) = W at *
    generalize w.heap.size = b0 at *
    obtain ⟨z0, z1, z2, z3, z4, z5, z6, z7, z8, z9, z10, z11, z12, z13⟩ := fourteen_block hb
    have lb := lt_of_block hb
    have K0 := hid k0
    clear k0 hb
    go_wp2_with fail
    refine (p_dropmep x.e.ai x.e.id (HT.out.keepN K0.out) HG.out).mono ?_; rintro e w3 ⟨rfl, h3, k3⟩
    have H3 := hid h3
    clear h3
    go_wp2_with fail
    go_ret2
    rw [HD.out]
    exact ⟨rfl, H3.out.from K0.out HT.out.bound k3.size, (K0.out).ofNil.trans k3⟩
  · have HD := hid (show τ.does x = ((τ.addMip x.m).1, 0, (τ.addMip x.m).2) by unfold CT.does; simp [c])
    have q0 : (x.d == 0) = false := by simp [c]
    have q1 : (x.d == 1) = false := by simp [c]
    have q2 : (x.d == 2) = true := by simp [c]
    clear c
    go_enter Try.func9, Try.ntmps9
    go_upto_region 1 with (fail)
    have hb := alloc_block w (.cells #[.int .u8 x.d, .int .u8 x.a.lv, .string x.a.dom, .string x.a.own, .int .u16 x.a.vid, .int .u8 x.a.iv, .slice x.a.p x.a.ms.length x.a.c, .int .i64 x.e.ai, .int .u16 x.e.id, .int .u8 x.e.port, .bool x.e.up, .int .u8 x.m.port, .int .u16 x.m.vid, .int .u8 x.m.lv] 43 (0, 0))
    generalize (w.alloc (.cells #[.int .u8 x.d, .int .u8 x.a.lv, .string x.a.dom, .string x.a.own, .int .u16 x.a.vid, .int .u8 x.a.iv, .slice x.a.p x.a.ms.length x.a.c, .int .i64 x.e.ai, .int .u16 x.e.id, .int .u8 x.e.port, .bool x.e.up, .int .u8 x.m.port, .int .u16 x.m.vid, .int .u8 x.m.lv] 43 (0, 0))) = W at *
    generalize w.heap.size = b0 at *
    obtain ⟨z0, z1, z2, z3, z4, z5, z6, z7, z8, z9, z10, z11, z12, z13⟩ := fourteen_block hb
    have lb := lt_of_block hb
    have K0 := hid k0
    clear k0 hb
    go_wp2_with fail
    refine (mip_any x.m.port x.m.vid x.m.lv W).mono ?_; rintro e w2 ⟨rfl, k2⟩
    go_wp2_with fail
    refine (p_addmip x.m HO.out.2.2.1 (HT.out.keepN (K0.out.trans k2)) HG.out).mono ?_; rintro e w3 ⟨rfl, h3, k3⟩
    have H3 := hid h3
    clear h3
    go_wp2_with fail
    go_ret2
    rw [HD.out]
    exact ⟨rfl, H3.out.from (K0.out.trans k2) HT.out.bound k3.size, ((K0.out.trans k2)).ofNil.trans k3⟩
  · have HD := hid (show τ.does x = ((τ.dropMip x.m.port x.m.vid).1, 0, (τ.dropMip x.m.port x.m.vid).2) by unfold CT.does; simp [c])
    have q0 : (x.d == 0) = false := by simp [c]
    have q1 : (x.d == 1) = false := by simp [c]
    have q2 : (x.d == 2) = false := by simp [c]
    have q3 : (x.d == 3) = true := by simp [c]
    clear c
    go_enter Try.func9, Try.ntmps9
    go_upto_region 1 with (fail)
    have hb := alloc_block w (.cells #[.int .u8 x.d, .int .u8 x.a.lv, .string x.a.dom, .string x.a.own, .int .u16 x.a.vid, .int .u8 x.a.iv, .slice x.a.p x.a.ms.length x.a.c, .int .i64 x.e.ai, .int .u16 x.e.id, .int .u8 x.e.port, .bool x.e.up, .int .u8 x.m.port, .int .u16 x.m.vid, .int .u8 x.m.lv] 43 (0, 0))
    generalize (w.alloc (.cells #[.int .u8 x.d, .int .u8 x.a.lv, .string x.a.dom, .string x.a.own, .int .u16 x.a.vid, .int .u8 x.a.iv, .slice x.a.p x.a.ms.length x.a.c, .int .i64 x.e.ai, .int .u16 x.e.id, .int .u8 x.e.port, .bool x.e.up, .int .u8 x.m.port, .int .u16 x.m.vid, .int .u8 x.m.lv] 43 (0, 0))) = W at *
    generalize w.heap.size = b0 at *
    obtain ⟨z0, z1, z2, z3, z4, z5, z6, z7, z8, z9, z10, z11, z12, z13⟩ := fourteen_block hb
    have lb := lt_of_block hb
    have K0 := hid k0
    clear k0 hb
    go_wp2_with fail
    refine (p_dropmip x.m.port x.m.vid ⟨HO.out.2.2.1.1, HO.out.2.2.1.2.1⟩ (HT.out.keepN K0.out)).mono ?_; rintro e w3 ⟨rfl, h3, k3⟩
    have H3 := hid h3
    clear h3
    go_wp2_with fail
    go_ret2
    rw [HD.out]
    exact ⟨rfl, H3.out.from K0.out HT.out.bound k3.size, (K0.out).ofNil.trans k3⟩
  · have HD := hid (show τ.does x = τ.addAsc x.a by unfold CT.does; simp [c])
    have q0 : (x.d == 0) = false := by simp [c]
    have q1 : (x.d == 1) = false := by simp [c]
    have q2 : (x.d == 2) = false := by simp [c]
    have q3 : (x.d == 3) = false := by simp [c]
    clear c
    go_enter Try.func9, Try.ntmps9
    go_upto_region 1 with (fail)
    have hb := alloc_block w (.cells #[.int .u8 x.d, .int .u8 x.a.lv, .string x.a.dom, .string x.a.own, .int .u16 x.a.vid, .int .u8 x.a.iv, .slice x.a.p x.a.ms.length x.a.c, .int .i64 x.e.ai, .int .u16 x.e.id, .int .u8 x.e.port, .bool x.e.up, .int .u8 x.m.port, .int .u16 x.m.vid, .int .u8 x.m.lv] 43 (0, 0))
    generalize (w.alloc (.cells #[.int .u8 x.d, .int .u8 x.a.lv, .string x.a.dom, .string x.a.own, .int .u16 x.a.vid, .int .u8 x.a.iv, .slice x.a.p x.a.ms.length x.a.c, .int .i64 x.e.ai, .int .u16 x.e.id, .int .u8 x.e.port, .bool x.e.up, .int .u8 x.m.port, .int .u16 x.m.vid, .int .u8 x.m.lv] 43 (0, 0))) = W at *
    generalize w.heap.size = b0 at *
    obtain ⟨z0, z1, z2, z3, z4, z5, z6, z7, z8, z9, z10, z11, z12, z13⟩ := fourteen_block hb
    have lb := lt_of_block hb
    have K0 := hid k0
    clear k0 hb
    go_wp2_with fail
    refine (assoc_any x.a.lv x.a.dom x.a.own x.a.vid x.a.iv x.a.p x.a.ms.length x.a.c W).mono ?_; rintro e w2 ⟨rfl, k2⟩
    go_wp2_with fail
    refine (p_addasc x.a _ (HT.out.keepN (K0.out.trans k2)) HG.out (MS.out.keepN k2)).mono ?_; rintro e w3 ⟨rfl, h3, k3⟩
    have H3 := hid h3
    clear h3
    go_wp2_with fail
    go_ret2
    rw [HD.out]
    exact ⟨rfl, H3.out.from (K0.out.trans k2) HT.out.bound k3.size, ((K0.out.trans k2)).ofNil.trans k3⟩

end Go.Proofs.Ytbgijlfdgfhceaa
