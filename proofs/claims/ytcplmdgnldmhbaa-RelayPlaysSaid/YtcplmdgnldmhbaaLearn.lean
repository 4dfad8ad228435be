/-
  Layer 8: Learn. Conditions: it lies so; the numbers are in range.
-/
import Derived.Test.YtcplmdgnldmhbaaLook
import Derived.Deep.AppendLies
import Derived.Deep.DrawnRows
import Derived.OwnWalk
import Derived.Deep.RegionLaw
namespace Go.Proofs.Ytcplmdgnldmhbaa
open Go.RowKit
set_option linter.unusedVariables false
attribute [local go_sem ↓] Go.wp_at_zero Go.wp_at_succ

theorem einfo : (Try.prog.info? 95).map (fun i => (i.zero, i.size, i.bytes)) = some (some (.agg #[.int .u16 0, .int .u8 0, .int .u8 0, .int .u8 0, .int .u8 0, .int .u8 0, .int .u8 0, .int .u8 0, .int .i64 0]), 9, 24) := by kernel_rfl
theorem six_of {w : World} {b : Nat} {T : TypeId} {x0 x1 x2 x3 x4 x5 : Value} (h : w.heap[b]? = some (.cells #[x0, x1, x2, x3, x4, x5] T (0, 0))) :
    w.cell? ⟨b, 0, Option.none⟩ = some x0 ∧ w.cell? ⟨b, 1, Option.none⟩ = some x1 ∧ w.cell? ⟨b, 2, Option.none⟩ = some x2 ∧ w.cell? ⟨b, 3, Option.none⟩ = some x3 ∧ w.cell? ⟨b, 4, Option.none⟩ = some x4 ∧ w.cell? ⟨b, 5, Option.none⟩ = some x5 := by
  simp [World.cell?, h]
/-- May it be learnt? -/
def mayLearn (q : Pl) (port : Int) : Prop := ¬ q.a % 2 = 1 ∧ port < 8 ∧ 1 ≤ q.v ∧ q.v ≤ 4094
theorem own_inp {w : World} {B n c : Nat} {p : Option Addr} {L : List En} (h : Sl w B p n c L) {k : Nat} (hk : (Value.slice p n c).ownBlock = some k) : InP p k := by
  obtain ⟨_, ⟨rfl, _⟩ | ⟨g, rfl, _⟩⟩ := h
  · simp [Value.ownBlock] at hk
  · simp [Value.ownBlock] at hk
    subst hk
    rfl
/-- Behind a turn: the database lies somewhere; its row is the old one or a new one. -/
def After (w w' : World) (B t mb : Nat) (p : Option Addr) (τ : Tb) : Prop := ∃ p' n' c', TbIs w' B t mb p' n' c' τ ∧ ∀ y, InP p' y → InP p y ∨ w.heap.size ≤ y
theorem learn_close {w w4 w5 : World} {B t mb n c g cap H : Nat} {p : Option Addr} {τ : Tb} {x : En} (T4 : TbIs w4 B t mb p n c τ) (kw5 : Keeps (InP p) w4 w5)
    (own5 : w5.ownsRow B 95 9 (.slice (some ⟨g, 0, Option.none⟩) (n + 1) cap) (n + 1) (flat τ.L ++ x.cells)) (hat : (Value.slice p n c).ownBlock = some g ∨ g = H) (hH : w.heap.size ≤ H)
    (b5 : w5.heap[t]? = some (.cells #[.slice p n c, .map (some mb)] 91 (0, 0))) (K : Keeps (TOwn t mb p) w w4) :
    After w (w5.setCell ⟨t, 0, Option.none⟩ (.slice (some ⟨g, 0, Option.none⟩) (n + 1) cap)) B t mb p ⟨τ.L ++ [x], τ.S⟩ ∧
      Keeps (TOwn t mb p) w (w5.setCell ⟨t, 0, Option.none⟩ (.slice (some ⟨g, 0, Option.none⟩) (n + 1) cap)) := by
  have kt : Keeps (At t) w5 (w5.setCell ⟨t, 0, Option.none⟩ (.slice (some ⟨g, 0, Option.none⟩) (n + 1) cap)) := (Keeps.refl _ _).set _ _ (at_self _) _
  have hs : Sl w5 B (some ⟨g, 0, Option.none⟩) (n + 1) cap (τ.L ++ [x]) := Sl.of_own (by rw [flat_append, show flat [x] = x.cells from by simp [flat]]; exact own5)
  have hne := hs.ne_cells b5 (by decide)
  refine ⟨⟨_, _, _, ⟨setCell_block b5 0 _, hs.keepP kt (fun y hy hl e => hne (by rw [At] at e; subst e; exact hy)), ((T4.2.2.keep kw5 T4.not_m).keep kt (fun e => T4.t_m e.symm))⟩, fun y hy => ?_⟩, (K.trans (kw5.mono (fun k e => .inr (.inr e)))).trans (kt.mono (fun k e => .inl e))⟩
  have hyg : y = g := by
    unfold InP at hy
    injection hy with hy
    injection hy with hy
    exact hy.symm
  subst hyg
  rcases hat with h | h
  · exact .inl (own_inp T4.2.1 h)
  · exact .inr (by omega)
theorem group_h (q : Pl) (hq : q.Ok) (b : Bool) (hb : decide (q.a % 2 = 1) = b) : ∀ W, Hid (Calls Try.prog 56 #[q.mac] W fun e w' => e = .returned (.bool b) ∧ Keeps Nil W w') := fun W => hid (by
  have := group_any q W hq.2.1.1 hq.2.1.2
  rwa [hb] at this)
theorem may_h (v : Int) (b : Bool) (hb : (decide (1 ≤ v) && decide (v ≤ 4094)) = b) : ∀ W, Hid (Calls Try.prog 33 #[.int .u16 v] W fun e w' => e = .returned (.bool b) ∧ W = w') := fun W => hid (by
  have := may_any v W
  rwa [hb] at this)

set_option maxHeartbeats 4000000 in
theorem learn_no (q : Pl) (hq : q.Ok) (port : Int) (B t mb : Nat) (p : Option Addr) (n c : Nat) (τ : Tb) (w : World) (h : TbIs w B t mb p n c τ) (hno : ¬ mayLearn q port) :
    Calls Try.prog 39 #[.pointer (some ⟨t, 0, Option.none⟩), .int .u16 q.v, q.mac, .int .u8 port] w fun e w' => e = .returned (.tuple #[]) ∧ Keeps Nil w w' := by
  by_cases g1 : q.a % 2 = 1
  · have HG := group_h q hq true (by simp [g1])
    clear h hno g1
    go_enter Try.func39, Try.ntmps39
    go_wp2_with (go_at_call 56; refine (HG _).out.mono ?_; rintro e wg ⟨rfl, kg⟩)
    go_returns
    exact ⟨rfl, ((Keeps.refl Nil w).alloc _).trans kg⟩
  · have HG := group_h q hq false (by simp [g1])
    by_cases g2 : port < 8
    · have hm : (decide (1 ≤ q.v) && decide (q.v ≤ 4094)) = false := by
        by_cases a : 1 ≤ q.v
        · have : ¬ q.v ≤ 4094 := fun b => hno ⟨g1, g2, a, b⟩
          simp [this]
        · simp [a]
      have HM := may_h q.v false hm
      have g2' : decide (8 ≤ port) = false := by simp; omega
      clear h hno g1 hm
      go_enter Try.func39, Try.ntmps39
      go_wp2_with (first | (go_at_call 56; refine (HG _).out.mono ?_; rintro e wg ⟨rfl, kg⟩) | (go_at_call 33; refine (HM _).out.mono ?_; rintro e wm ⟨rfl, rfl⟩))
      go_returns
      exact ⟨rfl, ((Keeps.refl Nil w).alloc _).trans kg⟩
    · have g2' : decide (8 ≤ port) = true := by simp; omega
      clear h hno g1
      go_enter Try.func39, Try.ntmps39
      go_wp2_with (first | (go_at_call 56; refine (HG _).out.mono ?_; rintro e wg ⟨rfl, kg⟩))
      go_returns
      exact ⟨rfl, ((Keeps.refl Nil w).alloc _).trans kg⟩

set_option maxHeartbeats 4000000 in
theorem learn_static (q : Pl) (hq : q.Ok) (port : Int) (u : Int) (B t mb : Nat) (p : Option Addr) (n c : Nat) (τ : Tb) (w : World) (h : TbIs w B t mb p n c τ) (hmay : mayLearn q port) (hu : sget τ.S q = some u) :
    Calls Try.prog 39 #[.pointer (some ⟨t, 0, Option.none⟩), .int .u16 q.v, q.mac, .int .u8 port] w fun e w' => e = .returned (.tuple #[]) ∧ Keeps Nil w w' := by
  obtain ⟨g1, g2, g3, g4⟩ := hmay
  have HG := group_h q hq false (by simp [g1])
  have HM := may_h q.v true (by simp [g3, g4])
  have g2' : decide (8 ≤ port) = false := by simp; omega
  have H := hid h
  have HU := hid hu
  clear h hu g1 g3 g4
  go_enter Try.func39, Try.ntmps39
  go_upto_region 2 with (first | (go_at_call 56; refine (HG _).out.mono ?_; rintro e wg ⟨rfl, kg⟩) | (go_at_call 33; refine (HM _).out.mono ?_; rintro e wm ⟨rfl, rfl⟩))
  have hbx := (kg.block _ (by simp) (fun e => e)).trans (alloc_block w (.cells #[Value.int IntKind.u8 q.a, Value.int IntKind.u8 q.b, Value.int IntKind.u8 q.c, Value.int IntKind.u8 q.d, Value.int IntKind.u8 q.e, Value.int IntKind.u8 q.f] 31 (0, 0)))
  obtain ⟨s0, s1, s2, s3, s4, s5⟩ := six_of hbx
  go_upto_region 3 with (fail)
  clear s0 s1 s2 s3 s4 s5
  have kx : Keeps Nil wg (wg.alloc (.cells #[Value.int IntKind.u16 q.v, Value.int IntKind.u8 q.a, Value.int IntKind.u8 q.b, Value.int IntKind.u8 q.c, Value.int IntKind.u8 q.d, Value.int IntKind.u8 q.e, Value.int IntKind.u8 q.f] 88 (0, 0))) := (Keeps.refl _ _).alloc _
  have hP := alloc_block wg (.cells #[Value.int IntKind.u16 q.v, Value.int IntKind.u8 q.a, Value.int IntKind.u8 q.b, Value.int IntKind.u8 q.c, Value.int IntKind.u8 q.d, Value.int IntKind.u8 q.e, Value.int IntKind.u8 q.f] 88 (0, 0))
  have hbx := (kx.block _ (lt_of_block hbx) (fun e => e)).trans hbx
  have kz : Keeps Nil w (wg.alloc (.cells #[Value.int IntKind.u16 q.v, Value.int IntKind.u8 q.a, Value.int IntKind.u8 q.b, Value.int IntKind.u8 q.c, Value.int IntKind.u8 q.d, Value.int IntKind.u8 q.e, Value.int IntKind.u8 q.f] 88 (0, 0))) := (((Keeps.refl Nil w).alloc _).trans kg).trans kx
  generalize (wg.alloc (.cells #[Value.int IntKind.u16 q.v, Value.int IntKind.u8 q.a, Value.int IntKind.u8 q.b, Value.int IntKind.u8 q.c, Value.int IntKind.u8 q.d, Value.int IntKind.u8 q.e, Value.int IntKind.u8 q.f] 88 (0, 0))) = W at *
  generalize wg.heap.size = b8 at *
  have KZ := hid kz
  have H2 := hid (H.out.keepN kz)
  obtain ⟨p0, p1, p2, p3, p4, p5, p6⟩ := seven_of hP
  have HP := hid hP
  have HBX := hid hbx
  obtain ⟨a0, a1⟩ := two_cells H2.out.1
  have hlk := look_draws H2.out.2.2 q hq
  clear hP kz kx hbx kg
  rw [HU.out] at hlk
  go_quiet (fail)
  go_wp2_with fail
  go_returns
  exact ⟨rfl, KZ.out.trans (Keeps.drewN _ _)⟩

set_option maxHeartbeats 8000000 in
theorem learn_room (q : Pl) (hq : q.Ok) (port : Int) (B t mb : Nat) (p : Option Addr) (n c : Nat) (τ : Tb) (w : World) (h : TbIs w B t mb p n c τ) (hB : B ≤ w.heap.size) (hmay : mayLearn q port) (hu : sget τ.S q = Option.none) (hn : n ≤ 1000) (hlt : (τ.L.filter (fun x => !(decide (q = x.p)))).length < 32) :
    Calls Try.prog 39 #[.pointer (some ⟨t, 0, Option.none⟩), .int .u16 q.v, q.mac, .int .u8 port] w fun e w' => e = .returned (.tuple #[]) ∧ After w w' B t mb p ⟨τ.L.filter (fun x => !(decide (q = x.p))) ++ [⟨q, port, 0⟩], τ.S⟩ ∧ Keeps (TOwn t mb p) w w' := by
  obtain ⟨g1, g2, g3, g4⟩ := hmay
  have HG := group_h q hq false (by simp [g1])
  have HM := may_h q.v true (by simp [g3, g4])
  have g2' : decide (8 ≤ port) = false := by simp; omega
  have H := hid h
  have HU := hid hu
  have HLT := hid hlt
  clear h hu g1 g3 g4 hlt
  go_enter Try.func39, Try.ntmps39
  go_upto_region 2 with (first | (go_at_call 56; refine (HG _).out.mono ?_; rintro e wg ⟨rfl, kg⟩) | (go_at_call 33; refine (HM _).out.mono ?_; rintro e wm ⟨rfl, rfl⟩))
  have hbx := (kg.block _ (by simp) (fun e => e)).trans (alloc_block w (.cells #[Value.int IntKind.u8 q.a, Value.int IntKind.u8 q.b, Value.int IntKind.u8 q.c, Value.int IntKind.u8 q.d, Value.int IntKind.u8 q.e, Value.int IntKind.u8 q.f] 31 (0, 0)))
  obtain ⟨s0, s1, s2, s3, s4, s5⟩ := six_of hbx
  go_upto_region 3 with (fail)
  clear s0 s1 s2 s3 s4 s5
  have kx : Keeps Nil wg (wg.alloc (.cells #[Value.int IntKind.u16 q.v, Value.int IntKind.u8 q.a, Value.int IntKind.u8 q.b, Value.int IntKind.u8 q.c, Value.int IntKind.u8 q.d, Value.int IntKind.u8 q.e, Value.int IntKind.u8 q.f] 88 (0, 0))) := (Keeps.refl _ _).alloc _
  have hP := alloc_block wg (.cells #[Value.int IntKind.u16 q.v, Value.int IntKind.u8 q.a, Value.int IntKind.u8 q.b, Value.int IntKind.u8 q.c, Value.int IntKind.u8 q.d, Value.int IntKind.u8 q.e, Value.int IntKind.u8 q.f] 88 (0, 0))
  have hbx := (kx.block _ (lt_of_block hbx) (fun e => e)).trans hbx
  have kz : Keeps Nil w (wg.alloc (.cells #[Value.int IntKind.u16 q.v, Value.int IntKind.u8 q.a, Value.int IntKind.u8 q.b, Value.int IntKind.u8 q.c, Value.int IntKind.u8 q.d, Value.int IntKind.u8 q.e, Value.int IntKind.u8 q.f] 88 (0, 0))) := (((Keeps.refl Nil w).alloc _).trans kg).trans kx
  generalize (wg.alloc (.cells #[Value.int IntKind.u16 q.v, Value.int IntKind.u8 q.a, Value.int IntKind.u8 q.b, Value.int IntKind.u8 q.c, Value.int IntKind.u8 q.d, Value.int IntKind.u8 q.e, Value.int IntKind.u8 q.f] 88 (0, 0))) = W at *
  generalize wg.heap.size = b8 at *
  have KZ := hid kz
  have H2 := hid (H.out.keepN kz)
  obtain ⟨p0, p1, p2, p3, p4, p5, p6⟩ := seven_of hP
  have HP := hid hP
  have HBX := hid hbx
  obtain ⟨a0, a1⟩ := two_cells H2.out.1
  have hlk := look_draws H2.out.2.2 q hq
  clear hP kz kx hbx kg
  rw [HU.out] at hlk
  go_quiet (fail)
  clear hlk
  go_wp2_with fail
  have kd : Keeps Nil W (W.drewN nq) := Keeps.drewN _ _
  refine (drop_of q B t mb p n c τ (W.drewN nq) (H2.out.keepN kd) hn (fun x V _ _ => of_any q x V)).mono ?_; rintro ee w4 ⟨⟨n', hn', rfl, T4⟩, k4⟩
  have hlen : n' < 32 := by have h1 := T4.2.1.1; have h2 := HLT.out; simp only at h1; omega
  obtain ⟨a0, a1⟩ := two_cells T4.1
  obtain ⟨f0, f1⟩ := two_free T4.1
  have hbne : ¬ TOwn t mb p w.heap.size := by
    rintro (e | e | e)
    · have h1 := HBX.out; have h2 := H2.out.1; rw [← e] at h2; rw [h1] at h2; injection h2 with h2; injection h2 with _ h2; exact absurd h2 (by decide)
    · obtain ⟨es, cl, h2⟩ := H2.out.2.2.raw; have h1 := HBX.out; rw [← e] at h2; rw [h1] at h2; cases h2
    · exact H2.out.2.1.ne_cells HBX.out (by decide) e
  have hbx4 := (k4.block _ (lt_of_block HBX.out) hbne).trans HBX.out
  have T4 := hid T4
  have HBX4 := hid hbx4
  have hl32 : decide ((32 : Int) ≤ (n' : Int)) = false := by simp; omega
  clear hbne hbx4
  go_upto_region 8 with (fail)
  have S8 : ∀ V, Keeps Nil w4 V → V.cell? ⟨t, 0, Option.none⟩ = some (.slice p n' c) ∧ V.cell? ⟨w.heap.size, 0, Option.none⟩ = some (.int .u8 q.a) ∧ V.cell? ⟨w.heap.size, 1, Option.none⟩ = some (.int .u8 q.b) ∧ V.cell? ⟨w.heap.size, 2, Option.none⟩ = some (.int .u8 q.c) ∧ V.cell? ⟨w.heap.size, 3, Option.none⟩ = some (.int .u8 q.d) ∧ V.cell? ⟨w.heap.size, 4, Option.none⟩ = some (.int .u8 q.e) ∧ V.cell? ⟨w.heap.size, 5, Option.none⟩ = some (.int .u8 q.f) := fun V kv =>
    ⟨(two_cells (T4.out.keepN kv).1).1, six_of ((kv.block _ (lt_of_block HBX4.out) (fun e => e)).trans HBX4.out)⟩
  have S8 := hid S8
  obtain ⟨i0, hi, hz0, hz1, hz2⟩ := info_parts einfo
  have HI := hid (And.intro hi (And.intro hz0 (And.intro hz1 hz2)))
  have OWN := hid T4.out.2.1.own
  have hbase : B ≤ w4.heap.size := by have h1 := KZ.out.size; have h2 := k4.size; have h3 := kd.size; omega
  have HBASE := hid hbase
  have hnm : n' + 1 ≤ maxLen := by unfold maxLen; omega
  clear hi hz0 hz1 hz2 hbase
  have kk : Keeps Nil w4 w4 := Keeps.refl _ _
  obtain ⟨a0, x0, x1, x2, x3, x4, x5⟩ := S8.out _ kk
  have tlt := T4.out.t_lt
  have blt := lt_of_block HBX4.out
  go_region_law ((refine step_append_lies _ (by rfl) _ _ 47 (by rfl) B 95 i0 (.agg #[.int .u16 0, .int .u8 0, .int .u8 0, .int .u8 0, .int .u8 0, .int .u8 0, .int .u8 0, .int .u8 0, .int .i64 0]) 9 24 Try.underlying47 HI.out.1 HI.out.2.1 HI.out.2.2.1 HI.out.2.2.2 rfl (by decide) (.slice p n' c) n' _ (by rfl) (ownsRow_keep OWN.out (by first | exact (Keeps.refl Nil w4).alloc _ | exact ((Keeps.refl Nil w4).alloc _).drew | exact ((Keeps.refl Nil w4).drew).alloc _ | exact ((Keeps.refl Nil w4).drew.alloc _).drew) (fun _ _ h => h)) ⟨w4.heap.size, 0, Option.none⟩ 1 1 (En.cells ⟨q, port, 0⟩) (by rfl) (by rfl) (World.news_of_block (cs := #[.int .u16 q.v, .int .u8 q.a, .int .u8 q.b, .int .u8 q.c, .int .u8 q.d, .int .u8 q.e, .int .u8 q.f, .int .u8 port, .int .i64 0]) (t := 95) (fr := (0, 0)) (heap_alloc_new w4 _)) (by simp [Value.oneCell']) (by decide) hnm (by omega) (Nat.le_trans HBASE.out (Keeps.size (S := Nil) (by first | exact (Keeps.refl Nil w4).alloc _ | exact ((Keeps.refl Nil w4).alloc _).drew | exact ((Keeps.refl Nil w4).drew).alloc _ | exact ((Keeps.refl Nil w4).drew.alloc _).drew))) _ rfl ?_; intro g cap w5 own5 hgrow hat hltg; have kw5 := hid (Keeps.grown (by first | exact (Keeps.refl (InP p) w4).alloc _ | exact ((Keeps.refl (InP p) w4).alloc _).drew | exact ((Keeps.refl (InP p) w4).drew).alloc _ | exact ((Keeps.refl (InP p) w4).drew.alloc _).drew) hgrow (fun k hk _ => own_inp T4.out.2.1 hk)); have b5 := (kw5.out.block _ T4.out.t_lt T4.out.not_t).trans T4.out.1; have x5 := (kw5.out.block _ (lt_of_block HBX4.out) (T4.out.2.1.ne_cells HBX4.out (by decide))).trans HBX4.out; have hs5 := (two_cells b5).1; have hf5 := (two_free b5).1; have B5 := hid b5; clear b5 x5))
  all_goals go_wp2_with fail
  all_goals go_returns
  all_goals (refine ⟨rfl, learn_close T4.out kw5.out own5 hat ?_ B5.out ?_⟩)
  all_goals first | exact ((KZ.out.trans kd).ofNil).trans k4 | (have h1 := KZ.out.size; have h2 := k4.size; have h3 := kd.size; simp; omega)
end Go.Proofs.Ytcplmdgnldmhbaa
