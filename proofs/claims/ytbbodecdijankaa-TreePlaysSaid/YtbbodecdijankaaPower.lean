/-
  Layer 9: a port goes up or down. Conditions: the machine lies so; its numbers are in their types.
-/
import Derived.Test.YtbbodecdijankaaChoose
import Derived.Test.YtbbodecdijankaaOk
namespace Go.Proofs.Ytbbodecdijankaa
open Go.RowKit
set_option linter.unusedVariables false
set_option linter.unusedSimpArgs false
set_option maxRecDepth 4000

theorem set_fresh {w : World} {m g c i : Nat} {τ : TM} {x : Pt} (h : Mach w m g c τ) (hx : τ.P[i]? = some x) (y : Pt) :
    Mach (w.setCells g (i * 16) (pcl y)) m g c { τ with P := τ.P.set i y } ∧ Keeps (At g) w (w.setCells g (i * 16) (pcl y)) :=
  h.putRange 0 (pcl y) (by simp [pcl_len]) hx (fun q hq => by rw [if_pos (by simp [pcl_len]; omega), Nat.sub_zero])
theorem info90 : (Try.prog.info? 90).map (·.size) = some 16 := by kernel_rfl
set_option maxHeartbeats 4000000 in
theorem power_same {w : World} {m g c i : Nat} {τ : TM} {x : Pt} (up : Bool) (h : Mach w m g c τ) (hx : τ.P[i]? = some x) (hu : x.up = up) (h8 : i < 256) :
    Calls Try.prog 33 #[.pointer (some ⟨m, 0, Option.none⟩), .int .u8 (i : Int), .bool up] w fun e w' => e = .returned (.slice Option.none 0 0) ∧ w = w' := by
  have AT := hid (at_some h (List.getElem?_eq_some_iff.1 hx).1)
  obtain ⟨_, c1, _⟩ := h.row.read hx
  rw [hu] at c1
  clear h hx hu
  cases up
  all_goals
    go_enter Try.func33, Try.ntmps33
    go_wp2_with (go_at_call 40; refine AT.out.mono ?_; rintro e w' ⟨rfl, rfl⟩)
    go_ret
    exact ⟨rfl, rfl⟩
set_option maxHeartbeats 4000000 in
theorem power_far {w : World} {m g c i : Nat} {τ : TM} (up : Bool) (h : Mach w m g c τ) (hi : τ.P.length ≤ i) (h8 : i < 256) :
    Calls Try.prog 33 #[.pointer (some ⟨m, 0, Option.none⟩), .int .u8 (i : Int), .bool up] w fun e w' => e = .returned (.slice Option.none 0 0) ∧ w = w' := by
  have AT := hid (at_none h hi h8)
  clear h
  go_enter Try.func33, Try.ntmps33
  go_wp2_with (go_at_call 40; refine AT.out.mono ?_; rintro e w' ⟨rfl, rfl⟩)
  go_ret
  exact ⟨rfl, rfl⟩
set_option maxHeartbeats 8000000 in
theorem power_turn {w : World} {m g c i : Nat} {τ : TM} {x : Pt} (up : Bool) (h : Mach w m g c τ) (hx : τ.P[i]? = some x) (hu : x.up = !up) (hok : τ.Ok) (hv : τ.ver < 9223372036854775807) :
    Calls Try.prog 33 #[.pointer (some ⟨m, 0, Option.none⟩), .int .u8 (i : Int), .bool up] w fun e w' => e = .returned (.slice Option.none 0 0) ∧ Mach w' m g c (τ.power i up) ∧ Keeps (Of m g) w w' := by
  have hi := (List.getElem?_eq_some_iff.1 hx).1
  have hn := hok.n
  have AT := hid (at_some h hi)
  obtain ⟨c0, c1, _⟩ := h.row.read hx
  rw [hu] at c1
  have hxo := hok.P x (List.mem_of_getElem? hx)
  have hle := h.row.le
  have hfr := h.row.frozen
  obtain ⟨hp, kp⟩ := set_fresh h hx (x.fresh up)
  have HTH := hid (h.row.there hi 0 16 (by omega))
  have HOK2 := hid (fun (f : Int) (hf : 0 ≤ f ∧ f < 256) => hok.setP i (hxo.fresh up) f hf)
  have HP := hid hp
  have KP := hid kp
  have hne : ¬ x.up = up := by rw [hu]; cases up <;> simp
  have HPW : Hid (τ.power i up = TM.choose { τ with P := τ.P.set i (x.fresh up), fl := if up then τ.fl else bor τ.fl i }) := by
    unfold TM.power
    rw [hx]
    simp only []
    rw [if_neg hne]
    exact hid rfl
  have hfl := hok.fl
  have h8 := pow8 (i := i) (by omega)
  have H8 := hid h8
  have hi8 : (i : Int) < 8 := by omega
  have hi0 : (0 : Int) ≤ (i : Int) := by omega
  have HM := hid h
  clear h hx hu hne hp kp hok hfr h8
  cases up with
  | true =>
    have hth : w.there g (i * 16) (#[.int .u32 x.cost, .bool true, .int .u64 0, .int .u32 0, .int .u64 0, .int .u8 0, .int .u8 0, .int .u64 0, .int .u8 0, .bool false, .bool false, .bool false, .int .u64 0, .int .i64 0, .bool false, .int .i64 0] : Array Value).size := HTH.out
    have HTH := hid hth
    have e1 : w.setCells g (i * 16) (pcl (x.fresh true)) = w.setCells g (i * 16) (#[.int .u32 x.cost, .bool true, .int .u64 0, .int .u32 0, .int .u64 0, .int .u8 0, .int .u8 0, .int .u64 0, .int .u8 0, .bool false, .bool false, .bool false, .int .u64 0, .int .i64 0, .bool false, .int .i64 0] : Array Value).toList := rfl
    rw [e1] at HP KP
    clear hth e1
    go_enter Try.func33, Try.ntmps33
    go_upto_region 3 with ((go_at_call 40; refine AT.out.mono ?_; rintro e w' ⟨rfl, rfl⟩))
    go_upto_if 30 with ((refine wpList_store_mid rfl 90 _ _ rfl g (i * 16) #[.int .u32 x.cost, .bool true, .int .u64 0, .int .u32 0, .int .u64 0, .int .u8 0, .int .u8 0, .int .u64 0, .int .u8 0, .bool false, .bool false, .bool false, .int .u64 0, .int .i64 0, .bool false, .int .i64 0] rfl rfl ?_ (by kernel_rfl) (by simp [Value.oneCell']) ?_; exact HTH.out))
    generalize w.setCells g (i * 16) (#[.int .u32 x.cost, .bool true, .int .u64 0, .int .u32 0, .int .u64 0, .int .u8 0, .int .u8 0, .int .u64 0, .int .u8 0, .bool false, .bool false, .bool false, .int .u64 0, .int .i64 0, .bool false, .int .i64 0] : Array Value).toList = w1 at *
    have CH := hid (choose_any HP.out (by have := HOK2.out τ.fl hfl; exact this) hv)
    go_wp2_with fail
    refine CH.out.mono ?_; rintro e w2 ⟨rfl, h2, k2⟩
    go_wp2_with fail
    go_ret
    rw [HPW.out]
    exact ⟨rfl, h2, KP.out.ofG.trans k2⟩
  | false =>
    have hth : w.there g (i * 16) (#[.int .u32 x.cost, .bool false, .int .u64 0, .int .u32 0, .int .u64 0, .int .u8 0, .int .u8 0, .int .u64 0, .int .u8 0, .bool false, .bool false, .bool false, .int .u64 0, .int .i64 0, .bool false, .int .i64 0] : Array Value).size := HTH.out
    have HTH := hid hth
    have e1 : w.setCells g (i * 16) (pcl (x.fresh false)) = w.setCells g (i * 16) (#[.int .u32 x.cost, .bool false, .int .u64 0, .int .u32 0, .int .u64 0, .int .u8 0, .int .u8 0, .int .u64 0, .int .u8 0, .bool false, .bool false, .bool false, .int .u64 0, .int .i64 0, .bool false, .int .i64 0] : Array Value).toList := rfl
    rw [e1] at HP KP
    clear hth e1
    go_enter Try.func33, Try.ntmps33
    go_upto_region 3 with ((go_at_call 40; refine AT.out.mono ?_; rintro e w' ⟨rfl, rfl⟩))
    go_upto_if 30 with ((refine wpList_store_mid rfl 90 _ _ rfl g (i * 16) #[.int .u32 x.cost, .bool false, .int .u64 0, .int .u32 0, .int .u64 0, .int .u8 0, .int .u8 0, .int .u64 0, .int .u8 0, .bool false, .bool false, .bool false, .int .u64 0, .int .i64 0, .bool false, .int .i64 0] rfl rfl ?_ (by kernel_rfl) (by simp [Value.oneCell']) ?_; exact HTH.out))
    generalize w.setCells g (i * 16) (#[.int .u32 x.cost, .bool false, .int .u64 0, .int .u32 0, .int .u64 0, .int .u8 0, .int .u8 0, .int .u64 0, .int .u8 0, .bool false, .bool false, .bool false, .int .u64 0, .int .i64 0, .bool false, .int .i64 0] : Array Value).toList = w1 at *
    obtain ⟨⟨_, _, _, _, _, _, _, n7⟩, nf⟩ := HP.out.cells
    simp only at n7
    have nf7 := nf 7
    clear nf
    go_upto_region 6 with (fail)
    have s7 : Mach (w1.setCell ⟨m, 7, Option.none⟩ (.int .u8 (bits BinOp.or IntKind.u8 τ.fl (2 ^ i % 256)))) m g c { τ with P := τ.P.set i (x.fresh false), fl := bor τ.fl i } := by
      have hb : bits BinOp.or IntKind.u8 τ.fl (2 ^ i % 256) = bor τ.fl i := by rw [H8.out]; rfl
      rw [hb]
      exact HP.out.set 7 rfl (by simp [hcl])
    have K7 : Keeps (Of m g) w (w1.setCell ⟨m, 7, Option.none⟩ (.int .u8 (bits BinOp.or IntKind.u8 τ.fl (2 ^ i % 256)))) := KP.out.ofG.setM 7 _
    have CH := hid (choose_any s7 (HOK2.out (bor τ.fl i) (bor_range _ _)) hv)
    have K7H := hid K7
    clear s7 K7 n7 nf7
    go_wp2_with fail
    refine CH.out.mono ?_; rintro e w2 ⟨rfl, h2, k2⟩
    go_wp2_with fail
    go_ret
    rw [HPW.out]
    exact ⟨rfl, h2, K7H.out.trans k2⟩
/-- A port goes up or down, whatever it was. -/
theorem power_any {w : World} {m g c i : Nat} {τ : TM} (up : Bool) (h : Mach w m g c τ) (h8 : i < 256) (hok : τ.Ok) (hv : τ.ver < 9223372036854775807) :
    Calls Try.prog 33 #[.pointer (some ⟨m, 0, Option.none⟩), .int .u8 (i : Int), .bool up] w fun e w' => e = .returned (.slice Option.none 0 0) ∧ Mach w' m g c (τ.power i up) ∧ Keeps (Of m g) w w' := by
  by_cases hi : i < τ.P.length
  · obtain ⟨x, hx⟩ : ∃ x, τ.P[i]? = some x := ⟨_, List.getElem?_eq_getElem hi⟩
    by_cases hu : x.up = up
    · refine (power_same up h hx hu h8).mono ?_
      rintro e w' ⟨rfl, rfl⟩
      refine ⟨rfl, ?_, Keeps.refl _ _⟩
      have : τ.power i up = τ := by unfold TM.power; rw [hx]; simp only []; rw [if_pos hu]
      rw [this]
      exact h
    · exact power_turn up h hx (by cases hx1 : x.up <;> cases up <;> simp_all) hok hv
  · refine (power_far up h (by omega) h8).mono ?_
    rintro e w' ⟨rfl, rfl⟩
    refine ⟨rfl, ?_, Keeps.refl _ _⟩
    have : τ.power i up = τ := by unfold TM.power; rw [List.getElem?_eq_none (by omega)]
    rw [this]
    exact h
set_option maxHeartbeats 1000000 in
theorem up_any {w : World} {m g c i : Nat} {τ : TM} (h : Mach w m g c τ) (h8 : i < 256) (hok : τ.Ok) (hv : τ.ver < 9223372036854775807) :
    Calls Try.prog 11 #[.pointer (some ⟨m, 0, Option.none⟩), .int .u8 (i : Int)] w fun e w' => e = .returned (.slice Option.none 0 0) ∧ Mach w' m g c (τ.power i true) ∧ Keeps (Of m g) w w' := by
  have P := hid (power_any true h h8 hok hv)
  clear h
  go_enter Try.func11, Try.ntmps11
  go_wp2_with fail
  refine P.out.mono ?_; rintro e w2 ⟨rfl, h2, k2⟩
  go_wp2_with fail
  go_ret
  exact ⟨rfl, h2, k2⟩
set_option maxHeartbeats 1000000 in
theorem down_any {w : World} {m g c i : Nat} {τ : TM} (h : Mach w m g c τ) (h8 : i < 256) (hok : τ.Ok) (hv : τ.ver < 9223372036854775807) :
    Calls Try.prog 13 #[.pointer (some ⟨m, 0, Option.none⟩), .int .u8 (i : Int)] w fun e w' => e = .returned (.slice Option.none 0 0) ∧ Mach w' m g c (τ.power i false) ∧ Keeps (Of m g) w w' := by
  have P := hid (power_any false h h8 hok hv)
  clear h
  go_enter Try.func13, Try.ntmps13
  go_wp2_with fail
  refine P.out.mono ?_; rintro e w2 ⟨rfl, h2, k2⟩
  go_wp2_with fail
  go_ret
  exact ⟨rfl, h2, k2⟩
theorem power_nil (i : Int) (up : Bool) (w : World) : Calls Try.prog 33 #[.pointer Option.none, .int .u8 i, .bool up] w fun e w' => e = .returned (.slice Option.none 0 0) ∧ w = w' := by
  go_enter Try.func33, Try.ntmps33
  go_wp2_with (go_at_call 40; refine (at_nil _ _).mono ?_; rintro e w' ⟨rfl, rfl⟩)
  go_ret
  exact ⟨rfl, rfl⟩
theorem up_nil (i : Int) (w : World) : Calls Try.prog 11 #[.pointer Option.none, .int .u8 i] w fun e w' => e = .returned (.slice Option.none 0 0) ∧ w = w' := by
  go_enter Try.func11, Try.ntmps11
  go_wp2_with (go_at_call 33; refine (power_nil _ _ _).mono ?_; rintro e w' ⟨rfl, rfl⟩)
  go_ret
  exact ⟨rfl, rfl⟩
theorem down_nil (i : Int) (w : World) : Calls Try.prog 13 #[.pointer Option.none, .int .u8 i] w fun e w' => e = .returned (.slice Option.none 0 0) ∧ w = w' := by
  go_enter Try.func13, Try.ntmps13
  go_wp2_with (go_at_call 33; refine (power_nil _ _ _).mono ?_; rintro e w' ⟨rfl, rfl⟩)
  go_ret
  exact ⟨rfl, rfl⟩
end Go.Proofs.Ytbbodecdijankaa
