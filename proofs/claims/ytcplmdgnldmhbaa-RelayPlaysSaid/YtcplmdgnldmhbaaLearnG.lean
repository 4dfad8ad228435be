/-
  Layer 8: Learn where the row is full. Conditions: it lies so; the numbers are in range.
-/
import Derived.Test.YtcplmdgnldmhbaaLearnF
namespace Go.Proofs.Ytcplmdgnldmhbaa
open Go.RowKit
set_option linter.unusedVariables false
attribute [local go_sem ↓] Go.wp_at_zero Go.wp_at_succ

theorem TbIs.not_own' {w : World} {B t mb n c : Nat} {p : Option Addr} {τ : Tb} (h : TbIs w B t mb p n c τ) {k : Nat} {cs : Array Value} {T : TypeId} {f : Nat × Nat} (hk : w.heap[k]? = some (.cells cs T f)) (h1 : T ≠ 91) (h2 : T ≠ 95) : ¬ TOwn t mb p k := by
  rintro (e | e | e)
  · subst e
    have := h.1
    rw [hk] at this
    injection this with this
    injection this with _ this
    exact h1 this
  · subst e
    obtain ⟨es, cl, hb⟩ := h.2.2.raw
    rw [hk] at hb
    cases hb
  · exact h.2.1.ne_cells hk h2 e
set_option maxRecDepth 6000 in
set_option maxHeartbeats 8000000 in
theorem learn_full (q : Pl) (hq : q.Ok) (port : Int) (B t mb : Nat) (p : Option Addr) (n c : Nat) (τ : Tb) (w : World) (h : TbIs w B t mb p n c τ) (hB : B ≤ w.heap.size) (hmay : mayLearn q port) (hu : sget τ.S q = Option.none) (hn : n ≤ 1000) (hlt : (τ.L.filter (fun x => !(decide (q = x.p)))).length = 32) :
    Calls Try.prog 39 #[.pointer (some ⟨t, 0, Option.none⟩), .int .u16 q.v, q.mac, .int .u8 port] w fun e w' => e = .returned (.tuple #[]) ∧ After w w' B t mb p ⟨(τ.L.filter (fun x => !(decide (q = x.p)))).drop 1 ++ [⟨q, port, 0⟩], τ.S⟩ ∧ Keeps (TOwn t mb p) w w' := by
  obtain ⟨g1, g2, g3, g4⟩ := hmay
  have HG := group_h q hq false (by simp [g1])
  have HM := may_h q.v true (by simp [g3, g4])
  have g2' : decide (8 ≤ port) = false := by simp; omega
  have H := hid h
  have HU := hid hu
  have HLT := hid hlt
  clear h hu g1 g3 g4 hlt
  go_enter Try.func39, Try.ntmps39
  go_upto_region 2 with (first | (go_at_call 56; refine (HG _).out.mono ?_; rintro e wg ⟨rfl, kg⟩) | (go_at_call 33; refine (HM _).out.mono ?_; rintro e wm ⟨rfl, rfl⟩))
  have hbx := (kg.block _ (by simp) (fun e => e)).trans (alloc_block w (.cells #[Value.int IntKind.u8 q.a, Value.int IntKind.u8 q.b, Value.int IntKind.u8 q.c, Value.int IntKind.u8 q.d, Value.int IntKind.u8 q.e, Value.int IntKind.u8 q.f] 31 (0, 0)))
  obtain ⟨s0, s1, s2, s3, s4, s5⟩ := six_of hbx
  go_upto_region 3 with (fail)
  clear s0 s1 s2 s3 s4 s5
  have kx : Keeps Nil wg (wg.alloc (.cells #[Value.int IntKind.u16 q.v, Value.int IntKind.u8 q.a, Value.int IntKind.u8 q.b, Value.int IntKind.u8 q.c, Value.int IntKind.u8 q.d, Value.int IntKind.u8 q.e, Value.int IntKind.u8 q.f] 88 (0, 0))) := (Keeps.refl _ _).alloc _
  have hP := alloc_block wg (.cells #[Value.int IntKind.u16 q.v, Value.int IntKind.u8 q.a, Value.int IntKind.u8 q.b, Value.int IntKind.u8 q.c, Value.int IntKind.u8 q.d, Value.int IntKind.u8 q.e, Value.int IntKind.u8 q.f] 88 (0, 0))
  have hbx := (kx.block _ (lt_of_block hbx) (fun e => e)).trans hbx
  have kz : Keeps Nil w (wg.alloc (.cells #[Value.int IntKind.u16 q.v, Value.int IntKind.u8 q.a, Value.int IntKind.u8 q.b, Value.int IntKind.u8 q.c, Value.int IntKind.u8 q.d, Value.int IntKind.u8 q.e, Value.int IntKind.u8 q.f] 88 (0, 0))) := (((Keeps.refl Nil w).alloc _).trans kg).trans kx
  generalize (wg.alloc (.cells #[Value.int IntKind.u16 q.v, Value.int IntKind.u8 q.a, Value.int IntKind.u8 q.b, Value.int IntKind.u8 q.c, Value.int IntKind.u8 q.d, Value.int IntKind.u8 q.e, Value.int IntKind.u8 q.f] 88 (0, 0))) = W at *
  generalize wg.heap.size = b8 at *
  have KZ := hid kz
  have H2 := hid (H.out.keepN kz)
  obtain ⟨p0, p1, p2, p3, p4, p5, p6⟩ := seven_of hP
  have HP := hid hP
  have HBX := hid hbx
  obtain ⟨a0, a1⟩ := two_cells H2.out.1
  have hlk := look_draws H2.out.2.2 q hq
  clear hP kz kx hbx kg
  rw [HU.out] at hlk
  go_quiet (fail)
  clear hlk
  go_wp2_with fail
  have kd : Keeps Nil W (W.drewN nq) := Keeps.drewN _ _
  refine (drop_of q B t mb p n c τ (W.drewN nq) (H2.out.keepN kd) hn (fun x V _ _ => of_any q x V)).mono ?_; rintro ee w4 ⟨⟨n', hn', rfl, T4⟩, k4⟩
  obtain rfl : n' = 32 := by have h1 := T4.2.1.1; have h2 := HLT.out; simp only at h1; omega
  obtain ⟨g, hpg, hBg, R4⟩ : ∃ g, p = some ⟨g, 0, Option.none⟩ ∧ B ≤ g ∧ Row w4 g c (τ.L.filter (fun x => !(decide (q = x.p)))) := by
    obtain ⟨_, ⟨_, h0, _⟩ | ⟨g, e, hb, hr⟩⟩ := T4.2.1
    · omega
    · exact ⟨g, e, hb, hr⟩
  subst hpg
  obtain ⟨a0, a1⟩ := two_cells T4.1
  obtain ⟨f0, f1⟩ := two_free T4.1
  have hbne : ¬ TOwn t mb (some ⟨g, 0, Option.none⟩) w.heap.size := H2.out.not_own' HBX.out (by decide) (by decide)
  have hbx4 := (k4.block _ (lt_of_block HBX.out) hbne).trans HBX.out
  have T4 := hid T4
  have HBX4 := hid hbx4
  have HR4 := hid R4
  have hgt : ¬ At g t := fun e => T4.out.not_t (by rw [At] at e; subst e; rfl)
  have hgm : ¬ At g mb := fun e => T4.out.not_m (by rw [At] at e; subst e; rfl)
  have hgx : ¬ At g w.heap.size := fun e => T4.out.2.1.ne_cells HBX4.out (by decide) (by rw [At] at e; subst e; rfl)
  clear hbne hbx4 R4
  go_wp2_with fail
  refine (delete_first g c _ w4 HR4.out HLT.out).mono ?_; rintro ee w5 ⟨rfl, R5, k5⟩
  have b5 := (k5.block _ T4.out.t_lt hgt).trans T4.out.1
  have x5 := (k5.block _ (lt_of_block HBX4.out) hgx).trans HBX4.out
  have m5 := T4.out.2.2.keep k5 hgm
  clear a0 a1 f0 f1
  obtain ⟨a0, a1⟩ := two_cells b5
  obtain ⟨f0, f1⟩ := two_free b5
  have B5 := hid b5
  have X5 := hid x5
  have M5 := hid m5
  have R5 := hid R5
  clear b5 x5 m5
  go_upto_region 8 with (fail)
  have kt : Keeps (At t) w5 (w5.setCell ⟨t, 0, Option.none⟩ (.slice (some ⟨g, 0, Option.none⟩) 31 c)) := (Keeps.refl _ _).set _ _ (at_self _) _
  have htg : ¬ At t g := fun e => hgt (by rw [At] at e ⊢; exact e.symm)
  have T6 : TbIs (w5.setCell ⟨t, 0, Option.none⟩ (.slice (some ⟨g, 0, Option.none⟩) 31 c)) B t mb (some ⟨g, 0, Option.none⟩) 31 c ⟨(τ.L.filter (fun x => !(decide (q = x.p)))).drop 1, τ.S⟩ :=
    ⟨setCell_block B5.out 0 _, ⟨by rw [List.length_drop, HLT.out], .inr ⟨g, rfl, hBg, R5.out.keep kt htg⟩⟩, M5.out.keep kt (fun e => T4.out.t_m e.symm)⟩
  have hxt : ¬ At t w.heap.size := by
    intro e
    have h1 := X5.out
    rw [At] at e
    rw [e, B5.out] at h1
    injection h1 with h1; injection h1 with _ h1; exact absurd h1 (by decide)
  have x6 := (kt.block _ (lt_of_block X5.out) hxt).trans X5.out
  have k6 : Keeps (TOwn t mb (some ⟨g, 0, Option.none⟩)) (W.drewN nq) _ := (k4.trans (k5.mono (fun k e => .inr (.inr (by rw [At] at e; subst e; rfl))))).trans (kt.mono (fun k e => .inl e))
  have hM : ((τ.L.filter (fun x => !(decide (q = x.p)))).drop 1).length = 31 := by rw [List.length_drop, HLT.out]
  clear a0 a1 f0 f1 kt htg hxt hgt hgm hgx k4 k5
  generalize hMM : (τ.L.filter (fun x => !(decide (q = x.p)))).drop 1 = M at *
  have HMM := hid hMM
  clear hMM
  generalize (w5.setCell ⟨t, 0, Option.none⟩ (.slice (some ⟨g, 0, Option.none⟩) 31 c)) = w6 at *
  obtain ⟨n6, hn6, hn6'⟩ : ∃ n : Nat, 31 = n ∧ n ≤ 100 := ⟨31, rfl, by omega⟩
  rw [hn6] at T6
  clear hn6
  obtain ⟨a0, a1⟩ := two_cells T6.1
  obtain ⟨f0, f1⟩ := two_free T6.1
  have T6 := hid T6
  have HBX6 := hid x6
  clear x6
  have S8 : ∀ V, Keeps Nil w6 V → V.cell? ⟨t, 0, Option.none⟩ = some (.slice (some ⟨g, 0, Option.none⟩) n6 c) ∧ V.cell? ⟨w.heap.size, 0, Option.none⟩ = some (.int .u8 q.a) ∧ V.cell? ⟨w.heap.size, 1, Option.none⟩ = some (.int .u8 q.b) ∧ V.cell? ⟨w.heap.size, 2, Option.none⟩ = some (.int .u8 q.c) ∧ V.cell? ⟨w.heap.size, 3, Option.none⟩ = some (.int .u8 q.d) ∧ V.cell? ⟨w.heap.size, 4, Option.none⟩ = some (.int .u8 q.e) ∧ V.cell? ⟨w.heap.size, 5, Option.none⟩ = some (.int .u8 q.f) := fun V kv =>
    ⟨(two_cells (T6.out.keepN kv).1).1, six_of ((kv.block _ (lt_of_block HBX6.out) (fun e => e)).trans HBX6.out)⟩
  have S8 := hid S8
  obtain ⟨i0, hi, hz0, hz1, hz2⟩ := info_parts einfo
  have HI := hid (And.intro hi (And.intro hz0 (And.intro hz1 hz2)))
  have OWN := hid T6.out.2.1.own
  have hbase : B ≤ w6.heap.size := by have h1 := KZ.out.size; have h2 := k6.size; have h3 := kd.size; omega
  have HBASE := hid hbase
  have hnm : n6 + 1 ≤ maxLen := by unfold maxLen; omega
  clear hi hz0 hz1 hz2 hbase
  have kk : Keeps Nil w6 w6 := Keeps.refl _ _
  obtain ⟨a0, x0, x1, x2, x3, x4, x5⟩ := S8.out _ kk
  have tlt := T6.out.t_lt
  have blt := lt_of_block HBX6.out
  go_region_law ((refine step_append_lies _ (by rfl) _ _ 47 (by rfl) B 95 i0 (.agg #[.int .u16 0, .int .u8 0, .int .u8 0, .int .u8 0, .int .u8 0, .int .u8 0, .int .u8 0, .int .u8 0, .int .i64 0]) 9 24 Try.underlying47 HI.out.1 HI.out.2.1 HI.out.2.2.1 HI.out.2.2.2 rfl (by decide) (.slice (some ⟨g, 0, Option.none⟩) n6 c) n6 _ (by rfl) (ownsRow_keep OWN.out (by first | exact (Keeps.refl Nil w6).alloc _ | exact ((Keeps.refl Nil w6).alloc _).drew | exact ((Keeps.refl Nil w6).drew).alloc _ | exact ((Keeps.refl Nil w6).drew.alloc _).drew) (fun _ _ h => h)) ⟨w6.heap.size, 0, Option.none⟩ 1 1 (En.cells ⟨q, port, 0⟩) (by rfl) (by rfl) (World.news_of_block (cs := #[.int .u16 q.v, .int .u8 q.a, .int .u8 q.b, .int .u8 q.c, .int .u8 q.d, .int .u8 q.e, .int .u8 q.f, .int .u8 port, .int .i64 0]) (t := 95) (fr := (0, 0)) (heap_alloc_new w6 _)) (by simp [Value.oneCell']) (by decide) hnm (by omega) (Nat.le_trans HBASE.out (Keeps.size (S := Nil) (by first | exact (Keeps.refl Nil w6).alloc _ | exact ((Keeps.refl Nil w6).alloc _).drew | exact ((Keeps.refl Nil w6).drew).alloc _ | exact ((Keeps.refl Nil w6).drew.alloc _).drew))) _ rfl ?_; intro g5 cap w5' own5 hgrow hat hltg; have kw5 := hid (Keeps.grown (by first | exact (Keeps.refl (InP (some ⟨g, 0, Option.none⟩)) w6).alloc _ | exact ((Keeps.refl (InP (some ⟨g, 0, Option.none⟩)) w6).alloc _).drew | exact ((Keeps.refl (InP (some ⟨g, 0, Option.none⟩)) w6).drew).alloc _ | exact ((Keeps.refl (InP (some ⟨g, 0, Option.none⟩)) w6).drew.alloc _).drew) hgrow (fun k hk _ => own_inp T6.out.2.1 hk)); have b5 := (kw5.out.block _ T6.out.t_lt T6.out.not_t).trans T6.out.1; have x5 := (kw5.out.block _ (lt_of_block HBX6.out) (T6.out.2.1.ne_cells HBX6.out (by decide))).trans HBX6.out; have hs5 := (two_cells b5).1; have hf5 := (two_free b5).1; have B5 := hid b5; clear b5 x5))
  all_goals go_wp2_with fail
  all_goals go_returns
  all_goals (have hMM := HMM.out; rw [List.drop_one] at hMM; rw [hMM]; refine ⟨rfl, learn_close T6.out kw5.out own5 hat ?_ B5.out ?_⟩)
  all_goals first | exact ((KZ.out.trans kd).ofNil).trans k6 | (have h1 := KZ.out.size; have h2 := k6.size; have h3 := kd.size; simp; omega)
end Go.Proofs.Ytcplmdgnldmhbaa
