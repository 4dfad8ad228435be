/-
  Layer 16: the law of ConfigNil. Conditions: the numbers are in range.
-/
import Derived.Test.YtbgijlfdgfhceaaGreat
namespace Go.Proofs.Ytbgijlfdgfhceaa
open Go.RowKit
set_option linter.unusedVariables false
set_option linter.unusedSimpArgs false
set_option maxRecDepth 8000

set_option maxHeartbeats 8000000 in
theorem cnil_any (x : Ac) (hx : x.Ok) (port vid i : Int) (w : World) :
    Calls Try.prog 4 #[.agg #[.int .u8 x.d, .int .u8 x.a.lv, .string x.a.dom, .string x.a.own, .int .u16 x.a.vid, .int .u8 x.a.iv, .slice x.a.p x.a.ms.length x.a.c, .int .i64 x.e.ai, .int .u16 x.e.id, .int .u8 x.e.port, .bool x.e.up, .int .u8 x.m.port, .int .u16 x.m.vid, .int .u8 x.m.lv], .int .u8 port, .int .u16 vid, .int .i64 i] w fun e w' => e = .returned (.bool true) ∧ Keeps Nil w w' := by
  have WA := fun W => wakes_any W
  have DN := fun W => does_nil x W
  have AN := fun W => assoc_nil i W
  have MN := fun W => meps_nil W
  have TN := fun W => at_nil port vid W
  have k0 : Keeps Nil w (w.alloc (.cells #[.int .u8 x.d, .int .u8 x.a.lv, .string x.a.dom, .string x.a.own, .int .u16 x.a.vid, .int .u8 x.a.iv, .slice x.a.p x.a.ms.length x.a.c, .int .i64 x.e.ai, .int .u16 x.e.id, .int .u8 x.e.port, .bool x.e.up, .int .u8 x.m.port, .int .u16 x.m.vid, .int .u8 x.m.lv] 43 (0, 0))) := (Keeps.refl _ _).alloc _
  have hb := alloc_block w (.cells #[.int .u8 x.d, .int .u8 x.a.lv, .string x.a.dom, .string x.a.own, .int .u16 x.a.vid, .int .u8 x.a.iv, .slice x.a.p x.a.ms.length x.a.c, .int .i64 x.e.ai, .int .u16 x.e.id, .int .u8 x.e.port, .bool x.e.up, .int .u8 x.m.port, .int .u16 x.m.vid, .int .u8 x.m.lv] 43 (0, 0))
  go_enter Try.func4, Try.ntmps4
  go_upto_region 1 with (fail)
  generalize (w.alloc (.cells #[.int .u8 x.d, .int .u8 x.a.lv, .string x.a.dom, .string x.a.own, .int .u16 x.a.vid, .int .u8 x.a.iv, .slice x.a.p x.a.ms.length x.a.c, .int .i64 x.e.ai, .int .u16 x.e.id, .int .u8 x.e.port, .bool x.e.up, .int .u8 x.m.port, .int .u16 x.m.vid, .int .u8 x.m.lv] 43 (0, 0))) = W at *
  generalize w.heap.size = b4 at *
  obtain ⟨z0, z1, z2, z3, z4, z5, z6, z7, z8, z9, z10, z11, z12, z13⟩ := fourteen_block hb
  have lb := lt_of_block hb
  have k1 : Keeps Nil W (W.alloc (.cells #[.int .u8 x.d, .int .u8 x.a.lv, .string x.a.dom, .string x.a.own, .int .u16 x.a.vid, .int .u8 x.a.iv, .slice x.a.p x.a.ms.length x.a.c, .int .i64 x.e.ai, .int .u16 x.e.id, .int .u8 x.e.port, .bool x.e.up, .int .u8 x.m.port, .int .u16 x.m.vid, .int .u8 x.m.lv] 43 (0, 0))) := (Keeps.refl _ _).alloc _
  have GR := great_any 0 (some ⟨W.heap.size, 0, Option.none⟩) 1 1 [x] (W.alloc (.cells #[.int .u8 x.d, .int .u8 x.a.lv, .string x.a.dom, .string x.a.own, .int .u16 x.a.vid, .int .u8 x.a.iv, .slice x.a.p x.a.ms.length x.a.c, .int .i64 x.e.ai, .int .u16 x.e.id, .int .u8 x.e.port, .bool x.e.up, .int .u8 x.m.port, .int .u16 x.m.vid, .int .u8 x.m.lv] 43 (0, 0))) (WV.new W #[.int .u8 x.d, .int .u8 x.a.lv, .string x.a.dom, .string x.a.own, .int .u16 x.a.vid, .int .u8 x.a.iv, .slice x.a.p x.a.ms.length x.a.c, .int .i64 x.e.ai, .int .u16 x.e.id, .int .u8 x.e.port, .bool x.e.up, .int .u8 x.m.port, .int .u16 x.m.vid, .int .u8 x.m.lv] 43 14 rfl) (by decide)
  have K1 := hid (k0.trans k1)
  have HB := hid ((k1.block _ lb (fun e => e)).trans hb)
  clear k0 hb k1
  cases hg : greatB [x] with
  | true =>
    rw [hg] at GR
    go_wp2_with fail
    refine GR.mono ?_; rintro e w2 ⟨rfl, k2⟩
    go_wp2_with fail
    refine (WA _).mono ?_; rintro e w3 ⟨rfl, k3⟩
    go_wp2_with fail
    go_ret
    exact ⟨rfl, (K1.out.trans k2).trans k3⟩
  | false =>
    rw [hg] at GR
    have hq := eql56 0 0 (-1) 0 0 (-1) true (by decide)
    go_wp2_with fail
    refine GR.mono ?_; rintro e w2 ⟨rfl, k2⟩
    have hb2 := (k2.block _ (lt_of_block HB.out) (fun e => e)).trans HB.out
    obtain ⟨y0, y1, y2, y3, y4, y5, y6, y7, y8, y9, y10, y11, y12, y13⟩ := fourteen_block hb2
    have lb2 := lt_of_block hb2
    have K2 := hid (K1.out.trans k2)
    clear hb2 k2
    go_wp2_with fail
    refine (DN _).mono ?_; rintro e w3 ⟨rfl, k3⟩
    have K3 := hid (K2.out.trans k3)
    clear k3
    go_wp2_with fail
    refine (AN _).mono ?_; rintro e w4 ⟨rfl, k4⟩
    have K4 := hid (K3.out.trans k4)
    clear k4
    go_wp2_with fail
    refine (MN _).mono ?_; rintro e w5 ⟨rfl, rfl⟩
    go_wp2_with fail
    refine (TN _).mono ?_; rintro e w6 ⟨rfl, k6⟩
    go_wp2_with fail
    refine (WA _).mono ?_; rintro e w7 ⟨rfl, k7⟩
    go_wp2_with fail
    go_ret
    exact ⟨rfl, ((K4.out.alloc _).trans k6).trans k7⟩
end Go.Proofs.Ytbgijlfdgfhceaa
