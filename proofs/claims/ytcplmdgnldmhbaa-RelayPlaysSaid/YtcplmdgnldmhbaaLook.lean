/-
  Layer 8: Look. Conditions: it lies so; the place's numbers are in range.
-/
import Derived.Test.YtcplmdgnldmhbaaTbl
import Derived.Deep.QuietTactic
import Derived.BigQuiet
import Derived.Deep.RegionHeld3
import Derived.WalkArith
namespace Go.Proofs.Ytcplmdgnldmhbaa
open Go.RowKit
set_option linter.unusedVariables false

theorem two_allocs (w : World) (A B : Obj) : ((w.alloc A).alloc B).heap[w.heap.size]? = some A ∧ ((w.alloc A).alloc B).heap[w.heap.size + 1]? = some B := by
  have h1 : ((w.alloc A).alloc B).heap[w.heap.size]? = some A := by
    rw [Below.heap_alloc _ _ _ (by simp)]; exact alloc_block w A
  have h2 := alloc_block (w.alloc A) B
  rw [show (w.alloc A).heap.size = w.heap.size + 1 from by simp] at h2
  exact ⟨h1, h2⟩
theorem seven_of {w : World} {b : Nat} {T : TypeId} {x0 x1 x2 x3 x4 x5 x6 : Value} (h : w.heap[b]? = some (.cells #[x0, x1, x2, x3, x4, x5, x6] T (0, 0))) :
    w.cell? ⟨b, 0, Option.none⟩ = some x0 ∧ w.cell? ⟨b, 1, Option.none⟩ = some x1 ∧ w.cell? ⟨b, 2, Option.none⟩ = some x2 ∧ w.cell? ⟨b, 3, Option.none⟩ = some x3 ∧ w.cell? ⟨b, 4, Option.none⟩ = some x4 ∧ w.cell? ⟨b, 5, Option.none⟩ = some x5 ∧ w.cell? ⟨b, 6, Option.none⟩ = some x6 := by
  simp [World.cell?, h]
def InR (x : En) : Prop := 0 ≤ x.port ∧ x.port < 8
theorem look_draws {w : World} {mb : Nat} {S : List (Pl × Int)} (h : MapIs w mb S) (p : Pl) (hp : p.Ok) : ∀ k, (Instr.lookup 89 (.map (some mb)) (.agg #[Value.int IntKind.u16 p.v, Value.int IntKind.u8 p.a, Value.int IntKind.u8 p.b, Value.int IntKind.u8 p.c, Value.int IntKind.u8 p.d, Value.int IntKind.u8 p.e, Value.int IntKind.u8 p.f]) true).run Try.prog (w.drewN k) = .ok (.tuple #[.int .u8 ((sget S p).getD 0), .bool (sget S p).isSome]) (w.drewN k) :=
  fun k => (h.keep (Keeps.drewN w k) (fun e => e)).look p hp

set_option maxHeartbeats 2000000 in
theorem look_static (q : Pl) (hq : q.Ok) (u : Int) (B t mb : Nat) (p : Option Addr) (n c : Nat) (τ : Tb) (w : World) (h : TbIs w B t mb p n c τ) (hu : sget τ.S q = some u) :
    Calls Try.prog 15 #[.pointer (some ⟨t, 0, Option.none⟩), .int .u16 q.v, q.mac] w fun e w' => e = .returned (.tuple #[.int .u8 u, .bool true]) ∧ Keeps Nil w w' := by
  have H := hid h
  have HU := hid hu
  clear h hu
  go_enter Try.func15, Try.ntmps15
  go_upto_region 4 with (fail)
  have kz : Keeps Nil w ((w.alloc (.cells #[Value.int IntKind.u8 q.a, Value.int IntKind.u8 q.b, Value.int IntKind.u8 q.c, Value.int IntKind.u8 q.d, Value.int IntKind.u8 q.e, Value.int IntKind.u8 q.f] 31 (0, 0))).alloc (.cells #[Value.int IntKind.u16 q.v, Value.int IntKind.u8 q.a, Value.int IntKind.u8 q.b, Value.int IntKind.u8 q.c, Value.int IntKind.u8 q.d, Value.int IntKind.u8 q.e, Value.int IntKind.u8 q.f] 88 (0, 0))) := ((Keeps.refl _ _).alloc _).alloc _
  obtain ⟨_, hP⟩ := two_allocs w (.cells #[Value.int IntKind.u8 q.a, Value.int IntKind.u8 q.b, Value.int IntKind.u8 q.c, Value.int IntKind.u8 q.d, Value.int IntKind.u8 q.e, Value.int IntKind.u8 q.f] 31 (0, 0)) (.cells #[Value.int IntKind.u16 q.v, Value.int IntKind.u8 q.a, Value.int IntKind.u8 q.b, Value.int IntKind.u8 q.c, Value.int IntKind.u8 q.d, Value.int IntKind.u8 q.e, Value.int IntKind.u8 q.f] 88 (0, 0))
  have KZ := hid kz
  generalize ((w.alloc (.cells #[Value.int IntKind.u8 q.a, Value.int IntKind.u8 q.b, Value.int IntKind.u8 q.c, Value.int IntKind.u8 q.d, Value.int IntKind.u8 q.e, Value.int IntKind.u8 q.f] 31 (0, 0))).alloc (.cells #[Value.int IntKind.u16 q.v, Value.int IntKind.u8 q.a, Value.int IntKind.u8 q.b, Value.int IntKind.u8 q.c, Value.int IntKind.u8 q.d, Value.int IntKind.u8 q.e, Value.int IntKind.u8 q.f] 88 (0, 0))) = W at *
  generalize w.heap.size + 1 = b8 at *
  have H2 := hid (H.out.keepN kz)
  obtain ⟨p0, p1, p2, p3, p4, p5, p6⟩ := seven_of hP
  have HP := hid hP
  obtain ⟨a0, a1⟩ := two_cells H2.out.1
  have hlk := look_draws H2.out.2.2 q hq
  clear hP kz
  rw [HU.out] at hlk
  go_quiet (fail)
  go_wp2_with fail
  go_ret2
  exact ⟨rfl, KZ.out.trans (Keeps.drewN _ _)⟩

set_option maxHeartbeats 2000000 in
theorem look_none (q : Pl) (hq : q.Ok) (B t mb : Nat) (p : Option Addr) (n c : Nat) (τ : Tb) (w : World) (h : TbIs w B t mb p n c τ) (hu : sget τ.S q = Option.none) (hi : idx (fun x => decide (q = x.p)) τ.L = -1) :
    Calls Try.prog 15 #[.pointer (some ⟨t, 0, Option.none⟩), .int .u16 q.v, q.mac] w fun e w' => e = .returned (.tuple #[.int .u8 0, .bool false]) ∧ Keeps Nil w w' := by
  have H := hid h
  have HU := hid hu
  have HI := hid hi
  clear h hu hi
  go_enter Try.func15, Try.ntmps15
  go_upto_region 4 with (fail)
  have kz : Keeps Nil w ((w.alloc (.cells #[Value.int IntKind.u8 q.a, Value.int IntKind.u8 q.b, Value.int IntKind.u8 q.c, Value.int IntKind.u8 q.d, Value.int IntKind.u8 q.e, Value.int IntKind.u8 q.f] 31 (0, 0))).alloc (.cells #[Value.int IntKind.u16 q.v, Value.int IntKind.u8 q.a, Value.int IntKind.u8 q.b, Value.int IntKind.u8 q.c, Value.int IntKind.u8 q.d, Value.int IntKind.u8 q.e, Value.int IntKind.u8 q.f] 88 (0, 0))) := ((Keeps.refl _ _).alloc _).alloc _
  obtain ⟨_, hP⟩ := two_allocs w (.cells #[Value.int IntKind.u8 q.a, Value.int IntKind.u8 q.b, Value.int IntKind.u8 q.c, Value.int IntKind.u8 q.d, Value.int IntKind.u8 q.e, Value.int IntKind.u8 q.f] 31 (0, 0)) (.cells #[Value.int IntKind.u16 q.v, Value.int IntKind.u8 q.a, Value.int IntKind.u8 q.b, Value.int IntKind.u8 q.c, Value.int IntKind.u8 q.d, Value.int IntKind.u8 q.e, Value.int IntKind.u8 q.f] 88 (0, 0))
  have KZ := hid kz
  generalize ((w.alloc (.cells #[Value.int IntKind.u8 q.a, Value.int IntKind.u8 q.b, Value.int IntKind.u8 q.c, Value.int IntKind.u8 q.d, Value.int IntKind.u8 q.e, Value.int IntKind.u8 q.f] 31 (0, 0))).alloc (.cells #[Value.int IntKind.u16 q.v, Value.int IntKind.u8 q.a, Value.int IntKind.u8 q.b, Value.int IntKind.u8 q.c, Value.int IntKind.u8 q.d, Value.int IntKind.u8 q.e, Value.int IntKind.u8 q.f] 88 (0, 0))) = W at *
  generalize w.heap.size + 1 = b8 at *
  have H2 := hid (H.out.keepN kz)
  obtain ⟨p0, p1, p2, p3, p4, p5, p6⟩ := seven_of hP
  have HP := hid hP
  obtain ⟨a0, a1⟩ := two_cells H2.out.1
  have hlk := look_draws H2.out.2.2 q hq
  clear hP kz
  rw [HU.out] at hlk
  have HX : ∀ V, Keeps Nil W V → Hid (Calls Try.prog 38 #[.slice p n c, .func (.func 35) #[q.val] #[]] V fun e w' => e = .returned (.int .i64 (-1)) ∧ Keeps Nil V w') := fun V kv => hid (by
    have := index_of q B p n c τ.L V (H2.out.2.1.keepN kv) (fun x W _ _ => of_any q x W)
    rwa [HI.out] at this)
  go_quiet (fail)
  go_wp2_with fail
  have S7 : ∀ V, Keeps Nil W V → V.cell? ⟨t, 0, Option.none⟩ = some (.slice p n c) ∧ (V.cell? ⟨b8, 0, Option.none⟩ = some (.int .u16 q.v) ∧ V.cell? ⟨b8, 1, Option.none⟩ = some (.int .u8 q.a) ∧ V.cell? ⟨b8, 2, Option.none⟩ = some (.int .u8 q.b) ∧ V.cell? ⟨b8, 3, Option.none⟩ = some (.int .u8 q.c) ∧ V.cell? ⟨b8, 4, Option.none⟩ = some (.int .u8 q.d) ∧ V.cell? ⟨b8, 5, Option.none⟩ = some (.int .u8 q.e) ∧ V.cell? ⟨b8, 6, Option.none⟩ = some (.int .u8 q.f)) := fun V kv =>
    ⟨(two_cells (H2.out.keepN kv).1).1, seven_of ((kv.block _ (lt_of_block HP.out) (fun e => e)).trans HP.out)⟩
  have kk : Keeps Nil W (W.drewN nq) := Keeps.drewN _ _
  have S7 := hid S7
  clear hlk
  go_region_held3 (fun V => V.cell? ⟨t, 0, Option.none⟩ = some (.slice p n c) ∧ (V.cell? ⟨b8, 0, Option.none⟩ = some (.int .u16 q.v) ∧ V.cell? ⟨b8, 1, Option.none⟩ = some (.int .u8 q.a) ∧ V.cell? ⟨b8, 2, Option.none⟩ = some (.int .u8 q.b) ∧ V.cell? ⟨b8, 3, Option.none⟩ = some (.int .u8 q.c) ∧ V.cell? ⟨b8, 4, Option.none⟩ = some (.int .u8 q.d) ∧ V.cell? ⟨b8, 5, Option.none⟩ = some (.int .u8 q.e) ∧ V.cell? ⟨b8, 6, Option.none⟩ = some (.int .u8 q.f))) (first | exact S7.out _ kk | exact S7.out _ kk.drew | exact S7.out _ kk.drew.drew) ((go_at_call 38; refine (HX _ (by first | exact kk | exact kk.drew | exact kk.drew.drew)).out.mono ?_; rintro ee wz ⟨rfl, kz⟩; have kk : Keeps Nil W wz := by first | exact kk.trans kz | exact kk.drew.trans kz | exact kk.drew.drew.trans kz))
  go_wp2_with fail
  go_ret2
  first | exact ⟨rfl, KZ.out.trans kk⟩ | exact ⟨rfl, KZ.out.trans kk.drew⟩

set_option maxHeartbeats 4000000 in
theorem look_some (q : Pl) (hq : q.Ok) (B t mb : Nat) (p : Option Addr) (n c : Nat) (τ : Tb) (w : World) (h : TbIs w B t mb p n c τ) (hu : sget τ.S q = Option.none) (k : Nat) (x : En) (hi : idx (fun x => decide (q = x.p)) τ.L = k) (hx : τ.L[k]? = some x) (hr : InR x) :
    Calls Try.prog 15 #[.pointer (some ⟨t, 0, Option.none⟩), .int .u16 q.v, q.mac] w fun e w' => e = .returned (.tuple #[.int .u8 (2 ^ x.port.toNat), .bool true]) ∧ Keeps Nil w w' := by
  have H := hid h
  have HU := hid hu
  have HI := hid hi
  have HXX := hid hx
  have hr0 := hr.1
  have hr1 := hr.2
  have hkn : k < n := by have h1 := (List.getElem?_eq_some_iff.1 hx).1; have h2 := h.2.1.1; omega
  have hnc := h.2.1.le
  clear h hu hi hx hr
  go_enter Try.func15, Try.ntmps15
  go_upto_region 4 with (fail)
  have kz : Keeps Nil w ((w.alloc (.cells #[Value.int IntKind.u8 q.a, Value.int IntKind.u8 q.b, Value.int IntKind.u8 q.c, Value.int IntKind.u8 q.d, Value.int IntKind.u8 q.e, Value.int IntKind.u8 q.f] 31 (0, 0))).alloc (.cells #[Value.int IntKind.u16 q.v, Value.int IntKind.u8 q.a, Value.int IntKind.u8 q.b, Value.int IntKind.u8 q.c, Value.int IntKind.u8 q.d, Value.int IntKind.u8 q.e, Value.int IntKind.u8 q.f] 88 (0, 0))) := ((Keeps.refl _ _).alloc _).alloc _
  obtain ⟨_, hP⟩ := two_allocs w (.cells #[Value.int IntKind.u8 q.a, Value.int IntKind.u8 q.b, Value.int IntKind.u8 q.c, Value.int IntKind.u8 q.d, Value.int IntKind.u8 q.e, Value.int IntKind.u8 q.f] 31 (0, 0)) (.cells #[Value.int IntKind.u16 q.v, Value.int IntKind.u8 q.a, Value.int IntKind.u8 q.b, Value.int IntKind.u8 q.c, Value.int IntKind.u8 q.d, Value.int IntKind.u8 q.e, Value.int IntKind.u8 q.f] 88 (0, 0))
  have KZ := hid kz
  generalize ((w.alloc (.cells #[Value.int IntKind.u8 q.a, Value.int IntKind.u8 q.b, Value.int IntKind.u8 q.c, Value.int IntKind.u8 q.d, Value.int IntKind.u8 q.e, Value.int IntKind.u8 q.f] 31 (0, 0))).alloc (.cells #[Value.int IntKind.u16 q.v, Value.int IntKind.u8 q.a, Value.int IntKind.u8 q.b, Value.int IntKind.u8 q.c, Value.int IntKind.u8 q.d, Value.int IntKind.u8 q.e, Value.int IntKind.u8 q.f] 88 (0, 0))) = W at *
  generalize w.heap.size + 1 = b8 at *
  have H2 := hid (H.out.keepN kz)
  obtain ⟨p0, p1, p2, p3, p4, p5, p6⟩ := seven_of hP
  have HP := hid hP
  obtain ⟨a0, a1⟩ := two_cells H2.out.1
  have hlk := look_draws H2.out.2.2 q hq
  clear hP kz
  rw [HU.out] at hlk
  have HX : ∀ V, Keeps Nil W V → Hid (Calls Try.prog 38 #[.slice p n c, .func (.func 35) #[q.val] #[]] V fun e w' => e = .returned (.int .i64 k) ∧ Keeps Nil V w') := fun V kv => hid (by
    have := index_of q B p n c τ.L V (H2.out.2.1.keepN kv) (fun x W _ _ => of_any q x W)
    rwa [HI.out] at this)
  go_quiet (fail)
  go_wp2_with fail
  have S7 : ∀ V, Keeps Nil W V → V.cell? ⟨t, 0, Option.none⟩ = some (.slice p n c) ∧ (V.cell? ⟨b8, 0, Option.none⟩ = some (.int .u16 q.v) ∧ V.cell? ⟨b8, 1, Option.none⟩ = some (.int .u8 q.a) ∧ V.cell? ⟨b8, 2, Option.none⟩ = some (.int .u8 q.b) ∧ V.cell? ⟨b8, 3, Option.none⟩ = some (.int .u8 q.c) ∧ V.cell? ⟨b8, 4, Option.none⟩ = some (.int .u8 q.d) ∧ V.cell? ⟨b8, 5, Option.none⟩ = some (.int .u8 q.e) ∧ V.cell? ⟨b8, 6, Option.none⟩ = some (.int .u8 q.f)) := fun V kv =>
    ⟨(two_cells (H2.out.keepN kv).1).1, seven_of ((kv.block _ (lt_of_block HP.out) (fun e => e)).trans HP.out)⟩
  have kk : Keeps Nil W (W.drewN nq) := Keeps.drewN _ _
  have S7 := hid S7
  clear hlk
  go_region_held3 (fun V => V.cell? ⟨t, 0, Option.none⟩ = some (.slice p n c) ∧ (V.cell? ⟨b8, 0, Option.none⟩ = some (.int .u16 q.v) ∧ V.cell? ⟨b8, 1, Option.none⟩ = some (.int .u8 q.a) ∧ V.cell? ⟨b8, 2, Option.none⟩ = some (.int .u8 q.b) ∧ V.cell? ⟨b8, 3, Option.none⟩ = some (.int .u8 q.c) ∧ V.cell? ⟨b8, 4, Option.none⟩ = some (.int .u8 q.d) ∧ V.cell? ⟨b8, 5, Option.none⟩ = some (.int .u8 q.e) ∧ V.cell? ⟨b8, 6, Option.none⟩ = some (.int .u8 q.f))) (first | exact S7.out _ kk | exact S7.out _ kk.drew | exact S7.out _ kk.drew.drew) ((go_at_call 38; refine (HX _ (by first | exact kk | exact kk.drew | exact kk.drew.drew)).out.mono ?_; rintro ee wz ⟨rfl, kz⟩; have kk : Keeps Nil W wz := by first | exact kk.trans kz | exact kk.drew.trans kz | exact kk.drew.drew.trans kz))
  obtain ⟨g, hpg, hr⟩ : ∃ g, p = some ⟨g, 0, Option.none⟩ ∧ Row W g c τ.L := by
    obtain ⟨_, ⟨_, hn, _⟩ | ⟨g, e, _, hr⟩⟩ := H2.out.2.1
    · omega
    · exact ⟨g, e, hr⟩
  subst hpg
  have hb : ∀ V, Keeps Nil W V → V.cell? ⟨g, k * 9 + 7, Option.none⟩ = some (.int .u8 x.port) := fun V kv => ((hr.keep kv (fun e => e)).read HXX.out).1.2.2.2.2.2.2.2.1
  have hc7 : wz.cell? ⟨g, k * 9 + 7, Option.none⟩ = some (.int .u8 x.port) := by first | exact hb _ kk | exact hb _ kk.drew
  have hc0 : wz.cell? ⟨t, 0, Option.none⟩ = some (.slice (some ⟨g, 0, Option.none⟩) n c) := (S7.out _ kk).1
  have h256 : (2 : Int) ^ x.port.toNat % 256 = 2 ^ x.port.toNat := by
    have key : ∀ n : Fin 8, (2 : Int) ^ (n : Nat) % 256 = 2 ^ (n : Nat) := by decide
    exact key ⟨x.port.toNat, by omega⟩
  go_wp2_with fail
  go_ret2
  first | exact ⟨rfl, KZ.out.trans kk⟩ | exact ⟨rfl, KZ.out.trans kk.drew⟩
end Go.Proofs.Ytcplmdgnldmhbaa
