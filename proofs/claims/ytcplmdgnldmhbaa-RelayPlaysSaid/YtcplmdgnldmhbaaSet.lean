/-
  Layer 8: SetStatic, DropStatic, List, Statics. Conditions: it lies so; the numbers are in range.
-/
import Derived.Test.YtcplmdgnldmhbaaLearn
namespace Go.Proofs.Ytcplmdgnldmhbaa
open Go.RowKit
set_option linter.unusedVariables false

theorem step_delete_run {P : Program} {ops : Array Oper} {o : Oper} {a : Act} {w w' : World} {K : Act → World → Prop} {Q : Exit → Act → World → Prop} {E : Prop} {v vs vx : Value} (s x : Operand) (t u : TypeId) (hgd : o.guard = Option.none)
    (ho : o.op = .call { callee := .builtin .delete, args := #[s, x], argTypes := #[t, u] }) (hs : a.eval s = vs) (hx : a.eval x = vx)
    (hr : (Builtin.delete_ #[t, u] o.type #[vs, vx]).run P w = .ok v w') (h : K (a.put o.dst v) w') :
    if Region.wanted o (yielded ops a.tmps) = true then Oper.wp P o a w K Q else E := by
  have hw : Region.wanted o (yielded ops a.tmps) = true := by simp [Region.wanted, hgd]
  rw [if_pos hw]
  unfold Oper.wp execOp
  simp only [ho, resolve, invoke, builtin, Sem.run_bind, Sem.run_pure, Result.andThen_ok, List.map_toArray, List.map_cons, List.map_nil, hs, hx, hr]
  exact h
theorem len_draws {w : World} {mb : Nat} {S : List (Pl × Int)} (h : MapIs w mb S) : ∀ k ty, (Builtin.len_ #[89] ty #[.map (some mb)]).run Try.prog (w.drewN k) = .ok (.int .i64 S.length) (w.drewN k) :=
  fun k ty => (h.keep (Keeps.drewN w k) (fun e => e)).len ty

set_option maxHeartbeats 2000000 in
theorem set_out (q : Pl) (ports : Int) (t : Nat) (w : World) (hno : ¬ (1 ≤ q.v ∧ q.v ≤ 4094)) :
    Calls Try.prog 12 #[.pointer (some ⟨t, 0, Option.none⟩), .int .u16 q.v, q.mac, .int .u8 ports] w fun e w' => e = .returned (.int .i64 2) ∧ Keeps Nil w w' := by
  have hm : (decide (1 ≤ q.v) && decide (q.v ≤ 4094)) = false := by
    by_cases a : 1 ≤ q.v
    · have : ¬ q.v ≤ 4094 := fun b => hno ⟨a, b⟩
      simp [this]
    · simp [a]
  have HM := may_h q.v false hm
  clear hm hno
  go_enter Try.func12, Try.ntmps12
  go_wp2_with (go_at_call 33; refine (HM _).out.mono ?_; rintro e wm ⟨rfl, rfl⟩)
  go_ret
  exact ⟨rfl, (Keeps.refl Nil w).alloc _⟩

set_option maxHeartbeats 4000000 in
theorem set_full (q : Pl) (hq : q.Ok) (ports : Int) (B t mb : Nat) (p : Option Addr) (n c : Nat) (τ : Tb) (w : World) (h : TbIs w B t mb p n c τ) (hv : 1 ≤ q.v ∧ q.v ≤ 4094) (hu : sget τ.S q = Option.none) (hf : 16 ≤ τ.S.length) (hl : τ.S.length ≤ 1000) :
    Calls Try.prog 12 #[.pointer (some ⟨t, 0, Option.none⟩), .int .u16 q.v, q.mac, .int .u8 ports] w fun e w' => e = .returned (.int .i64 6) ∧ Keeps Nil w w' := by
  have HM := may_h q.v true (by simp [hv.1, hv.2])
  have H := hid h
  have HU := hid hu
  clear h hu hv
  go_enter Try.func12, Try.ntmps12
  go_upto_region 6 with (go_at_call 33; refine (HM _).out.mono ?_; rintro e wm ⟨rfl, rfl⟩)
  obtain ⟨hbx, hP⟩ := two_allocs w (.cells #[Value.int IntKind.u8 q.a, Value.int IntKind.u8 q.b, Value.int IntKind.u8 q.c, Value.int IntKind.u8 q.d, Value.int IntKind.u8 q.e, Value.int IntKind.u8 q.f] 31 (0, 0)) (.cells #[Value.int IntKind.u16 q.v, Value.int IntKind.u8 q.a, Value.int IntKind.u8 q.b, Value.int IntKind.u8 q.c, Value.int IntKind.u8 q.d, Value.int IntKind.u8 q.e, Value.int IntKind.u8 q.f] 88 (0, 0))
  have kz : Keeps Nil w ((w.alloc (.cells #[Value.int IntKind.u8 q.a, Value.int IntKind.u8 q.b, Value.int IntKind.u8 q.c, Value.int IntKind.u8 q.d, Value.int IntKind.u8 q.e, Value.int IntKind.u8 q.f] 31 (0, 0))).alloc (.cells #[Value.int IntKind.u16 q.v, Value.int IntKind.u8 q.a, Value.int IntKind.u8 q.b, Value.int IntKind.u8 q.c, Value.int IntKind.u8 q.d, Value.int IntKind.u8 q.e, Value.int IntKind.u8 q.f] 88 (0, 0))) := ((Keeps.refl _ _).alloc _).alloc _
  generalize ((w.alloc (.cells #[Value.int IntKind.u8 q.a, Value.int IntKind.u8 q.b, Value.int IntKind.u8 q.c, Value.int IntKind.u8 q.d, Value.int IntKind.u8 q.e, Value.int IntKind.u8 q.f] 31 (0, 0))).alloc (.cells #[Value.int IntKind.u16 q.v, Value.int IntKind.u8 q.a, Value.int IntKind.u8 q.b, Value.int IntKind.u8 q.c, Value.int IntKind.u8 q.d, Value.int IntKind.u8 q.e, Value.int IntKind.u8 q.f] 88 (0, 0))) = W at *
  generalize w.heap.size + 1 = b8 at *
  have KZ := hid kz
  have H2 := hid (H.out.keepN kz)
  obtain ⟨p0, p1, p2, p3, p4, p5, p6⟩ := seven_of hP
  have HP := hid hP
  have HBX := hid hbx
  obtain ⟨a0, a1⟩ := two_cells H2.out.1
  have hlk := look_draws H2.out.2.2 q hq
  clear hP kz hbx
  rw [HU.out] at hlk
  have hln := len_draws H2.out.2.2
  have hge : decide ((16 : Int) ≤ (τ.S.length : Int)) = true := by simp; omega
  go_quiet (fail)
  go_wp2_with fail
  go_ret
  exact ⟨rfl, KZ.out.trans (Keeps.drewN _ _)⟩

set_option maxHeartbeats 4000000 in
theorem set_new (q : Pl) (hq : q.Ok) (ports : Int) (B t mb : Nat) (p : Option Addr) (n c : Nat) (τ : Tb) (w : World) (h : TbIs w B t mb p n c τ) (hv : 1 ≤ q.v ∧ q.v ≤ 4094) (hu : sget τ.S q = Option.none) (hp : 0 ≤ ports ∧ ports < 256) (hl : τ.S.length ≤ 900) (hn : n ≤ 1000) (hf : τ.S.length < 16) :
    Calls Try.prog 12 #[.pointer (some ⟨t, 0, Option.none⟩), .int .u16 q.v, q.mac, .int .u8 ports] w fun e w' => e = .returned (.int .i64 0) ∧ (∃ n', TbIs w' B t mb p n' c ⟨τ.L.filter (fun x => !(decide (q = x.p))), sput τ.S q ports⟩) ∧ Keeps (TOwn t mb p) w w' := by
  have HM := may_h q.v true (by simp [hv.1, hv.2])
  have H := hid h
  have HU := hid hu
  clear h hu hv
  go_enter Try.func12, Try.ntmps12
  go_upto_region 6 with (go_at_call 33; refine (HM _).out.mono ?_; rintro e wm ⟨rfl, rfl⟩)
  obtain ⟨hbx, hP⟩ := two_allocs w (.cells #[Value.int IntKind.u8 q.a, Value.int IntKind.u8 q.b, Value.int IntKind.u8 q.c, Value.int IntKind.u8 q.d, Value.int IntKind.u8 q.e, Value.int IntKind.u8 q.f] 31 (0, 0)) (.cells #[Value.int IntKind.u16 q.v, Value.int IntKind.u8 q.a, Value.int IntKind.u8 q.b, Value.int IntKind.u8 q.c, Value.int IntKind.u8 q.d, Value.int IntKind.u8 q.e, Value.int IntKind.u8 q.f] 88 (0, 0))
  have kz : Keeps Nil w ((w.alloc (.cells #[Value.int IntKind.u8 q.a, Value.int IntKind.u8 q.b, Value.int IntKind.u8 q.c, Value.int IntKind.u8 q.d, Value.int IntKind.u8 q.e, Value.int IntKind.u8 q.f] 31 (0, 0))).alloc (.cells #[Value.int IntKind.u16 q.v, Value.int IntKind.u8 q.a, Value.int IntKind.u8 q.b, Value.int IntKind.u8 q.c, Value.int IntKind.u8 q.d, Value.int IntKind.u8 q.e, Value.int IntKind.u8 q.f] 88 (0, 0))) := ((Keeps.refl _ _).alloc _).alloc _
  generalize ((w.alloc (.cells #[Value.int IntKind.u8 q.a, Value.int IntKind.u8 q.b, Value.int IntKind.u8 q.c, Value.int IntKind.u8 q.d, Value.int IntKind.u8 q.e, Value.int IntKind.u8 q.f] 31 (0, 0))).alloc (.cells #[Value.int IntKind.u16 q.v, Value.int IntKind.u8 q.a, Value.int IntKind.u8 q.b, Value.int IntKind.u8 q.c, Value.int IntKind.u8 q.d, Value.int IntKind.u8 q.e, Value.int IntKind.u8 q.f] 88 (0, 0))) = W at *
  generalize w.heap.size + 1 = b8 at *
  have KZ := hid kz
  have H2 := hid (H.out.keepN kz)
  obtain ⟨p0, p1, p2, p3, p4, p5, p6⟩ := seven_of hP
  have HP := hid hP
  have HBX := hid hbx
  obtain ⟨a0, a1⟩ := two_cells H2.out.1
  have hlk := look_draws H2.out.2.2 q hq
  clear hP kz hbx
  rw [HU.out] at hlk
  have hln := len_draws H2.out.2.2
  have hge : decide ((16 : Int) ≤ (τ.S.length : Int)) = false := by simp; omega
  go_quiet (fail)
  clear hlk
  go_wp2_with fail
  have kd : Keeps Nil W (W.drewN nq) := Keeps.drewN _ _
  have H3 := hid (H2.out.keepN kd)
  have hP3 := (kd.block _ (lt_of_block HP.out) (fun e => e)).trans HP.out
  have KZ := hid (KZ.out.trans kd)
  clear kd
  generalize W.drewN nq = V at *
  have HP3 := hid hP3
  obtain ⟨p0, p1, p2, p3, p4, p5, p6⟩ := seven_of hP3
  obtain ⟨a0, a1⟩ := two_cells H3.out.1
  obtain ⟨w5, hrun, m5, k5⟩ := (H3.out.2.2.keep ((Keeps.refl Nil V).drew) (fun e => e)).put q hq ports hp (by omega)
  simp only [Pl.val] at hrun
  have HR := hid hrun
  clear hP3
  go_region
  all_goals
    have kv : Keeps (At mb) V w5 := ((Keeps.refl Nil V).drew).ofNil.trans k5
    have T5 : TbIs w5 B t mb p n c ⟨τ.L, sput τ.S q ports⟩ := ⟨(k5.block _ H3.out.t_lt (fun e => H3.out.t_m e)).trans H3.out.1, H3.out.2.1.keepP kv (fun g hg _ e => H3.out.not_m (by rw [At] at e; subst e; exact hg)), m5⟩
    have hbm : ¬ At mb b8 := by
      intro e
      obtain ⟨es, cl, h2⟩ := H3.out.2.2.raw
      have h1 := HP3.out
      rw [At] at e
      rw [e] at h1
      rw [h1] at h2
      cases h2
    have hP5 := (kv.block _ (lt_of_block HP3.out) hbm).trans HP3.out
    have T5 := hid T5
    have KV := hid kv
    clear p0 p1 p2 p3 p4 p5 p6 a0 a1 hrun m5 k5 kv hbm
    obtain ⟨p0, p1, p2, p3, p4, p5, p6⟩ := seven_of hP5
    go_wp2_with fail
    refine (drop_of q B t mb p n c ⟨τ.L, sput τ.S q ports⟩ _ T5.out hn (fun x V _ _ => of_any q x V)).mono ?_; rintro ee w6 ⟨⟨n', hn', rfl, T6⟩, k6⟩
    have T6 := hid T6
    go_wp2_with fail
    go_ret
    exact ⟨rfl, ⟨n', T6.out⟩, ((KZ.out.ofNil).trans (KV.out.mono (fun k e => .inr (.inl e)))).trans k6⟩

set_option maxHeartbeats 4000000 in
theorem set_old (q : Pl) (hq : q.Ok) (ports : Int) (B t mb : Nat) (p : Option Addr) (n c : Nat) (τ : Tb) (w : World) (h : TbIs w B t mb p n c τ) (hv : 1 ≤ q.v ∧ q.v ≤ 4094) (u : Int) (hu : sget τ.S q = some u) (hp : 0 ≤ ports ∧ ports < 256) (hl : τ.S.length ≤ 900) (hn : n ≤ 1000) :
    Calls Try.prog 12 #[.pointer (some ⟨t, 0, Option.none⟩), .int .u16 q.v, q.mac, .int .u8 ports] w fun e w' => e = .returned (.int .i64 0) ∧ (∃ n', TbIs w' B t mb p n' c ⟨τ.L.filter (fun x => !(decide (q = x.p))), sput τ.S q ports⟩) ∧ Keeps (TOwn t mb p) w w' := by
  have HM := may_h q.v true (by simp [hv.1, hv.2])
  have H := hid h
  have HU := hid hu
  clear h hu hv
  go_enter Try.func12, Try.ntmps12
  go_upto_region 6 with (go_at_call 33; refine (HM _).out.mono ?_; rintro e wm ⟨rfl, rfl⟩)
  obtain ⟨hbx, hP⟩ := two_allocs w (.cells #[Value.int IntKind.u8 q.a, Value.int IntKind.u8 q.b, Value.int IntKind.u8 q.c, Value.int IntKind.u8 q.d, Value.int IntKind.u8 q.e, Value.int IntKind.u8 q.f] 31 (0, 0)) (.cells #[Value.int IntKind.u16 q.v, Value.int IntKind.u8 q.a, Value.int IntKind.u8 q.b, Value.int IntKind.u8 q.c, Value.int IntKind.u8 q.d, Value.int IntKind.u8 q.e, Value.int IntKind.u8 q.f] 88 (0, 0))
  have kz : Keeps Nil w ((w.alloc (.cells #[Value.int IntKind.u8 q.a, Value.int IntKind.u8 q.b, Value.int IntKind.u8 q.c, Value.int IntKind.u8 q.d, Value.int IntKind.u8 q.e, Value.int IntKind.u8 q.f] 31 (0, 0))).alloc (.cells #[Value.int IntKind.u16 q.v, Value.int IntKind.u8 q.a, Value.int IntKind.u8 q.b, Value.int IntKind.u8 q.c, Value.int IntKind.u8 q.d, Value.int IntKind.u8 q.e, Value.int IntKind.u8 q.f] 88 (0, 0))) := ((Keeps.refl _ _).alloc _).alloc _
  generalize ((w.alloc (.cells #[Value.int IntKind.u8 q.a, Value.int IntKind.u8 q.b, Value.int IntKind.u8 q.c, Value.int IntKind.u8 q.d, Value.int IntKind.u8 q.e, Value.int IntKind.u8 q.f] 31 (0, 0))).alloc (.cells #[Value.int IntKind.u16 q.v, Value.int IntKind.u8 q.a, Value.int IntKind.u8 q.b, Value.int IntKind.u8 q.c, Value.int IntKind.u8 q.d, Value.int IntKind.u8 q.e, Value.int IntKind.u8 q.f] 88 (0, 0))) = W at *
  generalize w.heap.size + 1 = b8 at *
  have KZ := hid kz
  have H2 := hid (H.out.keepN kz)
  obtain ⟨p0, p1, p2, p3, p4, p5, p6⟩ := seven_of hP
  have HP := hid hP
  have HBX := hid hbx
  obtain ⟨a0, a1⟩ := two_cells H2.out.1
  have hlk := look_draws H2.out.2.2 q hq
  clear hP kz hbx
  rw [HU.out] at hlk
  go_quiet (fail)
  clear hlk
  go_wp2_with fail
  have kd : Keeps Nil W (W.drewN nq) := Keeps.drewN _ _
  have H3 := hid (H2.out.keepN kd)
  have hP3 := (kd.block _ (lt_of_block HP.out) (fun e => e)).trans HP.out
  have KZ := hid (KZ.out.trans kd)
  clear kd
  generalize W.drewN nq = V at *
  have HP3 := hid hP3
  obtain ⟨p0, p1, p2, p3, p4, p5, p6⟩ := seven_of hP3
  obtain ⟨a0, a1⟩ := two_cells H3.out.1
  obtain ⟨w5, hrun, m5, k5⟩ := (H3.out.2.2.keep ((Keeps.refl Nil V).drew) (fun e => e)).put q hq ports hp (by omega)
  simp only [Pl.val] at hrun
  have HR := hid hrun
  clear hP3
  go_region
  all_goals
    have kv : Keeps (At mb) V w5 := ((Keeps.refl Nil V).drew).ofNil.trans k5
    have T5 : TbIs w5 B t mb p n c ⟨τ.L, sput τ.S q ports⟩ := ⟨(k5.block _ H3.out.t_lt (fun e => H3.out.t_m e)).trans H3.out.1, H3.out.2.1.keepP kv (fun g hg _ e => H3.out.not_m (by rw [At] at e; subst e; exact hg)), m5⟩
    have hbm : ¬ At mb b8 := by
      intro e
      obtain ⟨es, cl, h2⟩ := H3.out.2.2.raw
      have h1 := HP3.out
      rw [At] at e
      rw [e] at h1
      rw [h1] at h2
      cases h2
    have hP5 := (kv.block _ (lt_of_block HP3.out) hbm).trans HP3.out
    have T5 := hid T5
    have KV := hid kv
    clear p0 p1 p2 p3 p4 p5 p6 a0 a1 hrun m5 k5 kv hbm
    obtain ⟨p0, p1, p2, p3, p4, p5, p6⟩ := seven_of hP5
    go_wp2_with fail
    refine (drop_of q B t mb p n c ⟨τ.L, sput τ.S q ports⟩ _ T5.out hn (fun x V _ _ => of_any q x V)).mono ?_; rintro ee w6 ⟨⟨n', hn', rfl, T6⟩, k6⟩
    have T6 := hid T6
    go_wp2_with fail
    go_ret
    exact ⟨rfl, ⟨n', T6.out⟩, ((KZ.out.ofNil).trans (KV.out.mono (fun k e => .inr (.inl e)))).trans k6⟩
end Go.Proofs.Ytcplmdgnldmhbaa
