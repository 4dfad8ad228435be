/-
  Layer 7: New, Set, Members of a table of VLANs. Conditions: it lies so; the numbers are in range.
-/
import Derived.Test.YtcplmdgnldmhbaaVMap
namespace Go.Proofs.Ytcplmdgnldmhbaa
open Go.RowKit
set_option linter.unusedVariables false
set_option linter.unusedSimpArgs false
set_option maxRecDepth 8000

theorem ten_of {w : World} {b : Nat} {T : TypeId} {x0 x1 x2 x3 x4 x5 x6 x7 x8 x9 : Value} (h : w.heap[b]? = some (.cells #[x0, x1, x2, x3, x4, x5, x6, x7, x8, x9] T (0, 0))) :
    w.cell? ⟨b, 0, Option.none⟩ = some x0 ∧ w.cell? ⟨b, 1, Option.none⟩ = some x1 ∧ w.cell? ⟨b, 2, Option.none⟩ = some x2 ∧ w.cell? ⟨b, 3, Option.none⟩ = some x3 ∧ w.cell? ⟨b, 4, Option.none⟩ = some x4 ∧ w.cell? ⟨b, 5, Option.none⟩ = some x5 ∧
    w.cell? ⟨b, 6, Option.none⟩ = some x6 ∧ w.cell? ⟨b, 7, Option.none⟩ = some x7 ∧ w.cell? ⟨b, 8, Option.none⟩ = some x8 ∧ w.cell? ⟨b, 9, Option.none⟩ = some x9 := by
  simp [World.cell?, h]
theorem one_of {w : World} {b : Nat} {T : TypeId} {x0 : Value} (h : w.heap[b]? = some (.cells #[x0] T (0, 0))) : w.cell? ⟨b, 0, Option.none⟩ = some x0 := by
  simp [World.cell?, h]
theorem Keeps.lies {S : Nat → Prop} {w w' : World} (k : Keeps S w w') {b : Nat} {o : Obj} (h : w.heap[b]? = some o) (hs : ¬ S b := by exact fun h => h) : w'.heap[b]? = some o := (k.block b (lt_of_block h) hs).trans h

/-- The table of VLANs lies at t, its map at mb. -/
def VIs (w : World) (t mb : Nat) (n : Int) (S : List (Pl × Int)) : Prop :=
  w.heap[t]? = some (.cells #[Value.int IntKind.i64 n, Value.map (some mb), Value.int IntKind.u16 0, Value.int IntKind.u16 0, Value.int IntKind.u16 0, Value.int IntKind.u16 0, Value.int IntKind.u16 0, Value.int IntKind.u16 0, Value.int IntKind.u16 0, Value.int IntKind.u16 0] 81 (0, 0)) ∧ MapV w mb S
theorem VIs.ne {w : World} {t mb : Nat} {n : Int} {S : List (Pl × Int)} (h : VIs w t mb n S) : t ≠ mb := fun e => by
  obtain ⟨es, cl, hb⟩ := h.2.raw
  subst e
  rw [h.1] at hb
  cases hb
theorem VIs.keep {T : Nat → Prop} {w w' : World} {t mb : Nat} {n : Int} {S : List (Pl × Int)} (h : VIs w t mb n S) (k : Keeps T w w') (h1 : ¬ T t) (h2 : ¬ T mb) : VIs w' t mb n S :=
  ⟨k.lies h.1 h1, h.2.keep k h2⟩
theorem VIs.keepN {w w' : World} {t mb : Nat} {n : Int} {S : List (Pl × Int)} (h : VIs w t mb n S) (k : Keeps Nil w w') : VIs w' t mb n S := h.keep k (fun e => e) (fun e => e)

def vsetP (n : Int) (S : List (Pl × Int)) (v a b : Int) : List (Pl × Int) × Int :=
  if (decide (1 ≤ v) && decide (v ≤ 4094)) = false ∨ (a / 2 ^ n.toNat == 0) = false ∨ (bits BinOp.andNot .u8 b a != 0) = true then (S, 2)
  else if (sget S (vp v)).isSome = false ∧ 8 ≤ S.length then (S, 6)
  else (sput S (vp v) (a * 256 + b), 0)

set_option maxHeartbeats 2000000 in
theorem vnew_any (n : Int) (h1 : 1 ≤ n) (h8 : n ≤ 8) (w : World) : Calls Try.prog 29 #[.int .i64 n] w fun e w' => ∃ t mb, e = .returned (.tuple #[.pointer (some ⟨t, 0, Option.none⟩), .int .i64 0]) ∧ VIs w' t mb n [] ∧ w.heap.size ≤ t ∧ w.heap.size ≤ mb ∧ Keeps Nil w w' := by
  have hmm := @run_makeMap Try.prog
  go_enter Try.func29, Try.ntmps29
  go_wp2
  go_ret2
  have hs : (w.alloc (.map #[] 0)).heap.size = w.heap.size + 1 := World.size_alloc _ _
  have hb := alloc_block (w.alloc (.map #[] 0)) (.cells #[Value.int IntKind.i64 n, Value.map (some w.heap.size), Value.int IntKind.u16 0, Value.int IntKind.u16 0, Value.int IntKind.u16 0, Value.int IntKind.u16 0, Value.int IntKind.u16 0, Value.int IntKind.u16 0, Value.int IntKind.u16 0, Value.int IntKind.u16 0] 81 (0, 0))
  rw [hs] at hb
  refine ⟨_, _, rfl, ⟨hb, (MapV.made w).keep ((Keeps.refl Nil _).alloc _) (fun e => e)⟩, ?_, Nat.le_refl _, ((Keeps.refl Nil w).alloc _).alloc _⟩
  omega
set_option maxHeartbeats 2000000 in
theorem vnew_no (n : Int) (h : n < 1 ∨ 8 < n) (w : World) : Calls Try.prog 29 #[.int .i64 n] w fun e w' => e = .returned (.tuple #[.pointer Option.none, .int .i64 2]) ∧ Keeps Nil w w' := by
  by_cases h1 : n < 1
  · go_enter Try.func29, Try.ntmps29
    go_wp2
    go_ret2
    exact ⟨rfl, Keeps.refl _ _⟩
  · have h8 : 8 < n := by omega
    go_enter Try.func29, Try.ntmps29
    go_wp2
    go_ret2
    exact ⟨rfl, Keeps.refl _ _⟩
theorem vmay_any (v : Int) (w : World) : Calls Try.prog 32 #[.int .u16 v] w fun e w' => e = .returned (.bool (decide (1 ≤ v) && decide (v ≤ 4094))) ∧ w = w' := by
  by_cases h1 : 1 ≤ v
  · go_enter Try.func32, Try.ntmps32
    go_wp2
    go_ret
    exact ⟨by simp [h1], rfl⟩
  · go_enter Try.func32, Try.ntmps32
    go_wp2
    go_ret
    exact ⟨by simp [h1]; try omega, rfl⟩
theorem there_any {t mb bx : Nat} {n : Int} {S : List (Pl × Int)} (w : World) (h : VIs w t mb n S) (hb : w.heap[bx]? = some (.cells #[Value.pointer (some ⟨t, 0, Option.none⟩)] 36 (0, 0))) (s : Int) (hs : 0 ≤ s ∧ s < 256) (h1 : 1 ≤ n) (h8 : n ≤ 8) :
    Calls Try.prog 31 #[.int .u8 s, .pointer (some ⟨bx, 0, Option.none⟩)] w fun e w' => e = .returned (.bool (s / 2 ^ n.toNat == 0)) ∧ w = w' := by
  obtain ⟨c0, c1, c2, c3, c4, c5, c6, c7, c8, c9⟩ := ten_of h.1
  have b0 := one_of hb
  have hw : IntKind.i64.wrap s = s := by rw [IntKind.wrap_i64]; omega
  clear h hb
  go_enter Try.func31, Try.ntmps31
  go_wp2
  go_ret
  exact ⟨rfl, rfl⟩
theorem field85 (x y : Int) (W : World) : (Instr.field 85 (.agg #[.int .u8 x, .int .u8 y]) 0).run Try.prog W = .ok (.int .u8 x) W := by kernel_rfl
set_option maxHeartbeats 4000000 in
theorem members_any {t mb : Nat} {n : Int} {S : List (Pl × Int)} (w : World) (h : VIs w t mb n S) {v : Int} (hv : 0 ≤ v ∧ v < 65536) :
    Calls Try.prog 17 #[.pointer (some ⟨t, 0, Option.none⟩), .int .u16 v] w fun e w' => e = .returned (.int .u8 (vcode S v / 256)) ∧ w = w' := by
  obtain ⟨c0, c1, c2, c3, c4, c5, c6, c7, c8, c9⟩ := ten_of h.1
  have hl := h.2.get hv
  have hf := field85
  clear h
  go_enter Try.func17, Try.ntmps17
  go_wp2
  go_ret
  exact ⟨rfl, rfl⟩
set_option maxHeartbeats 16000000 in
theorem vset_any {t mb : Nat} {n : Int} {S : List (Pl × Int)} (w : World) (h : VIs w t mb n S) (hS : S.length ≤ 8) {v a b : Int} (hv : 0 ≤ v ∧ v < 65536) (ha : 0 ≤ a ∧ a < 256) (hb : 0 ≤ b ∧ b < 256) (h1 : 1 ≤ n) (h8 : n ≤ 8) :
    Calls Try.prog 10 #[.pointer (some ⟨t, 0, Option.none⟩), .int .u16 v, .int .u8 a, .int .u8 b] w fun e w' => e = .returned (.int .i64 (vsetP n S v a b).2) ∧ VIs w' t mb n (vsetP n S v a b).1 ∧ Keeps (At mb) w w' := by
  obtain ⟨⟨S', r⟩, hP⟩ : ∃ x, vsetP n S v a b = x := ⟨_, rfl⟩
  rw [hP]
  have HVP := hid hP
  clear hP
  have kz : Keeps Nil w (w.alloc (.cells #[Value.pointer (some ⟨t, 0, Option.none⟩)] 36 (0, 0))) := (Keeps.refl _ _).alloc _
  have hx := alloc_block w (.cells #[Value.pointer (some ⟨t, 0, Option.none⟩)] 36 (0, 0))
  have HZ := hid (h.keepN kz)
  have HVR := hid hv
  have HA := hid ha
  have HB := hid hb
  have hne := h.ne
  clear h
  go_enter Try.func10, Try.ntmps10
  go_upto_region 1 with (fail)
  generalize (w.alloc (.cells #[Value.pointer (some ⟨t, 0, Option.none⟩)] 36 (0, 0))) = wz at *
  generalize w.heap.size = bx at *
  have HMAY : ∀ W, Hid (Calls Try.prog 32 #[.int .u16 v] W fun e w' => e = .returned (.bool (decide (1 ≤ v) && decide (v ≤ 4094))) ∧ W = w') := fun W => hid (vmay_any v W)
  have HTH : Hid (Calls Try.prog 31 #[.int .u8 a, .pointer (some ⟨bx, 0, Option.none⟩)] wz fun e w' => e = .returned (.bool (a / 2 ^ n.toNat == 0)) ∧ wz = w') := hid (there_any wz HZ.out hx a ha h1 h8)
  obtain ⟨c0, c1, c2, c3, c4, c5, c6, c7, c8, c9⟩ := ten_of HZ.out.1
  have hl := HZ.out.2.look hv
  have hln : ∀ ty, (Builtin.len_ #[79] ty #[.map (some mb)]).run Try.prog wz = .ok (.int .i64 S.length) wz := fun ty => HZ.out.2.len ty
  have b0 := one_of hx
  have HXX := hid hx
  clear hx hv ha hb
  have hP := HVP.out
  unfold vsetP at hP
  cases hm : (decide (1 ≤ v) && decide (v ≤ 4094)) with
  | false =>
    rw [hm] at HMAY
    rw [if_pos (.inl hm)] at hP
    injection hP with e1 e2
    subst e1 e2
    go_wp2_with (first | (go_at_call 32; refine (HMAY _).out.mono ?_; rintro ee wq ⟨rfl, rfl⟩) | (go_at_call 31; refine HTH.out.mono ?_; rintro ee wq ⟨rfl, rfl⟩))
    go_ret
    exact ⟨rfl, HZ.out, kz.ofNil⟩
  | true =>
    rw [hm] at HMAY
    cases ht : (a / 2 ^ n.toNat == 0) with
    | false =>
      rw [ht] at HTH
      rw [if_pos (.inr (.inl ht))] at hP
      injection hP with e1 e2
      subst e1 e2
      clear hm ht
      go_wp2_with (first | (go_at_call 32; refine (HMAY _).out.mono ?_; rintro ee wq ⟨rfl, rfl⟩) | (go_at_call 31; refine HTH.out.mono ?_; rintro ee wq ⟨rfl, rfl⟩))
      go_ret
      exact ⟨rfl, HZ.out, kz.ofNil⟩
    | true =>
      rw [ht] at HTH
      cases hn : (bits BinOp.andNot .u8 b a != 0) with
      | true =>
        rw [if_pos (.inr (.inr hn))] at hP
        injection hP with e1 e2
        subst e1 e2
        clear hm ht
        go_wp2_with (first | (go_at_call 32; refine (HMAY _).out.mono ?_; rintro ee wq ⟨rfl, rfl⟩) | (go_at_call 31; refine HTH.out.mono ?_; rintro ee wq ⟨rfl, rfl⟩))
        go_ret
        exact ⟨rfl, HZ.out, kz.ofNil⟩
      | false =>
        rw [if_neg (by rw [hm, ht, hn]; simp)] at hP
        clear hm ht
        cases hg : (sget S (vp v)).isSome with
        | true =>
          rw [hg] at hl hP
          rw [if_neg (by simp)] at hP
          injection hP with e1 e2
          subst e1 e2
          go_upto_region 7 with (first | (go_at_call 32; refine (HMAY _).out.mono ?_; rintro ee wq ⟨rfl, rfl⟩) | (go_at_call 31; refine HTH.out.mono ?_; rintro ee wq ⟨rfl, rfl⟩))
          have kq : Keeps Nil wz (wz.alloc (.cells #[Value.int IntKind.u8 (vcode S v / 256), Value.int IntKind.u8 (vcode S v % 256)] 85 (0, 0))) := (Keeps.refl _ _).alloc _
          have HZ2 := hid (HZ.out.keepN kq)
          have kw := hid (kz.trans kq)
          clear c0 c1 c2 c3 c4 c5 c6 c7 c8 c9 b0 hl hln kz HMAY HTH
          have hx2 := kq.lies HXX.out
          generalize (wz.alloc (.cells #[Value.int IntKind.u8 (vcode S v / 256), Value.int IntKind.u8 (vcode S v % 256)] 85 (0, 0))) = wy at *
          obtain ⟨c0, c1, c2, c3, c4, c5, c6, c7, c8, c9⟩ := ten_of HZ2.out.1
          have hln : ∀ ty, (Builtin.len_ #[79] ty #[.map (some mb)]).run Try.prog wy = .ok (.int .i64 S.length) wy := fun ty => HZ2.out.2.len ty
          have b0 := one_of hx2
          clear hx2
          obtain ⟨w5, hrun, m5, k5⟩ := HZ2.out.2.put HVR.out HA.out HB.out (by omega)
          have h5 := hid (show VIs w5 t mb n _ from ⟨k5.lies HZ2.out.1 (fun e => hne e), m5⟩)
          have k5 := hid k5
          clear m5
          go_wp2_with fail
          go_ret
          exact ⟨rfl, h5.out, kw.out.ofNil.trans k5.out⟩
        | false =>
          rw [hg] at hl hP
          by_cases h8l : 8 ≤ S.length
          · rw [if_pos ⟨rfl, h8l⟩] at hP
            injection hP with e1 e2
            subst e1 e2
            have hd : decide ((8 : Int) ≤ (S.length : Int)) = true := by simp; omega
            go_upto_region 7 with (first | (go_at_call 32; refine (HMAY _).out.mono ?_; rintro ee wq ⟨rfl, rfl⟩) | (go_at_call 31; refine HTH.out.mono ?_; rintro ee wq ⟨rfl, rfl⟩))
            have kq : Keeps Nil wz (wz.alloc (.cells #[Value.int IntKind.u8 (vcode S v / 256), Value.int IntKind.u8 (vcode S v % 256)] 85 (0, 0))) := (Keeps.refl _ _).alloc _
            have HZ2 := hid (HZ.out.keepN kq)
            have kw := hid (kz.trans kq)
            clear c0 c1 c2 c3 c4 c5 c6 c7 c8 c9 b0 hl hln kz HMAY HTH
            have hx2 := kq.lies HXX.out
            generalize (wz.alloc (.cells #[Value.int IntKind.u8 (vcode S v / 256), Value.int IntKind.u8 (vcode S v % 256)] 85 (0, 0))) = wy at *
            obtain ⟨c0, c1, c2, c3, c4, c5, c6, c7, c8, c9⟩ := ten_of HZ2.out.1
            have hln : ∀ ty, (Builtin.len_ #[79] ty #[.map (some mb)]).run Try.prog wy = .ok (.int .i64 S.length) wy := fun ty => HZ2.out.2.len ty
            have b0 := one_of hx2
            clear hx2
            go_wp2_with fail
            go_ret
            exact ⟨rfl, HZ2.out, kw.out.ofNil⟩
          · rw [if_neg (fun h => h8l h.2)] at hP
            injection hP with e1 e2
            subst e1 e2
            have hd : decide ((8 : Int) ≤ (S.length : Int)) = false := by simp; omega
            go_upto_region 7 with (first | (go_at_call 32; refine (HMAY _).out.mono ?_; rintro ee wq ⟨rfl, rfl⟩) | (go_at_call 31; refine HTH.out.mono ?_; rintro ee wq ⟨rfl, rfl⟩))
            have kq : Keeps Nil wz (wz.alloc (.cells #[Value.int IntKind.u8 (vcode S v / 256), Value.int IntKind.u8 (vcode S v % 256)] 85 (0, 0))) := (Keeps.refl _ _).alloc _
            have HZ2 := hid (HZ.out.keepN kq)
            have kw := hid (kz.trans kq)
            clear c0 c1 c2 c3 c4 c5 c6 c7 c8 c9 b0 hl hln kz HMAY HTH
            have hx2 := kq.lies HXX.out
            generalize (wz.alloc (.cells #[Value.int IntKind.u8 (vcode S v / 256), Value.int IntKind.u8 (vcode S v % 256)] 85 (0, 0))) = wy at *
            obtain ⟨c0, c1, c2, c3, c4, c5, c6, c7, c8, c9⟩ := ten_of HZ2.out.1
            have hln : ∀ ty, (Builtin.len_ #[79] ty #[.map (some mb)]).run Try.prog wy = .ok (.int .i64 S.length) wy := fun ty => HZ2.out.2.len ty
            have b0 := one_of hx2
            clear hx2
            obtain ⟨w5, hrun, m5, k5⟩ := HZ2.out.2.put HVR.out HA.out HB.out (by omega)
            have h5 := hid (show VIs w5 t mb n _ from ⟨k5.lies HZ2.out.1 (fun e => hne e), m5⟩)
            have k5 := hid k5
            clear m5
            go_wp2_with fail
            go_ret
            exact ⟨rfl, h5.out, kw.out.ofNil.trans k5.out⟩
end Go.Proofs.Ytcplmdgnldmhbaa
