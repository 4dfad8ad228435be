/-
  Layer 9: a port of the document's machine goes up, or down. Conditions: the machine lies so.
-/
import Derived.Test.YtbbodecdijankaaRChoose
import Derived.Test.YtbbodecdijankaaPower
import Derived.BigRegion
import Derived.RegionTactic
namespace Go.Proofs.Ytbbodecdijankaa
open Go.RowKit
set_option linter.unusedVariables false
set_option linter.unusedSimpArgs false
set_option maxRecDepth 8000

theorem rset_fresh {w : World} {m g c f i : Nat} {τ : TM} {x : Pt} (h : RMach w m g c f τ) (hx : τ.P[i]? = some x) (y : Pt) :
    RMach (w.setCells g (i * 16) (pcl y)) m g c f { τ with P := τ.P.set i y } ∧ Keeps (At g) w (w.setCells g (i * 16) (pcl y)) :=
  h.putRange 0 (pcl y) (by simp [pcl_len]) hx (fun q hq => by rw [if_pos (by simp [pcl_len]; omega), Nat.sub_zero])
/-- A bit laid down as it was. -/
theorem RMach.flagSame {w : World} {m g c f i : Nat} {τ : TM} {b : Bool} (h : RMach w m g c f τ) (hb : w.cell? ⟨f, i, Option.none⟩ = some (.bool b)) : RMach (w.setCell ⟨f, i, Option.none⟩ (.bool b)) m g c f τ := by
  refine ⟨(Below.heap_setCell _ _ _ _ h.mf).trans h.head, h.row.of_block (Below.heap_setCell _ _ _ _ h.gf), ?_⟩
  obtain ⟨F, h1, hF, h2⟩ := h.fl
  refine ⟨F, h1, ?_, h2⟩
  rw [setCell_block hF i (.bool b)]
  congr 2
  have hb' : (F.map Value.bool)[i]? = some (.bool b) := by simpa [World.cell?, hF] using hb
  apply Array.ext_getElem?
  intro j
  simp only [Array.getElem?_setIfInBounds, List.getElem?_toArray]
  by_cases hj : i = j
  · subst hj
    rw [if_pos rfl, hb', if_pos (by have := (List.getElem?_eq_some_iff.1 hb').1; simpa using this)]
  · rw [if_neg hj]
set_option maxHeartbeats 2000000 in
theorem rpower_same {w : World} {m g c f i : Nat} {τ : TM} {x : Pt} (up : Bool) (h : RMach w m g c f τ) (hx : τ.P[i]? = some x) (hu : x.up = up) :
    Calls Try.prog 12 #[.pointer (some ⟨m, 0, Option.none⟩), .int .i64 (i : Int), .bool up] w fun e w' => e = .returned (.tuple #[]) ∧ w = w' := by
  have hi := (List.getElem?_eq_some_iff.1 hx).1
  have hd : decide (i < τ.P.length) = true := by simp; omega
  obtain ⟨⟨m0, m1, m2, m3, m4, m5, m6, m7⟩, _⟩ := h.cells
  obtain ⟨_, c1, _⟩ := h.row.read hx
  rw [hu] at c1
  clear h hx hu m0 m2 m3 m4 m5 m6 m7
  cases up
  all_goals
    go_enter Try.func12, Try.ntmps12
    go_wp2_with fail
    ((try simp only [Exit.inBlock, Exit.then]); refine bodyPost_ret (results_none rfl _ _ _) rfl ?_)
    exact ⟨rfl, rfl⟩
set_option maxHeartbeats 1000000 in
theorem rpower_far {w : World} {m g c f i : Nat} {τ : TM} (up : Bool) (h : RMach w m g c f τ) (hi : τ.P.length ≤ i) :
    Calls Try.prog 12 #[.pointer (some ⟨m, 0, Option.none⟩), .int .i64 (i : Int), .bool up] w fun e w' => e = .returned (.tuple #[]) ∧ w = w' := by
  have hd : decide (i < τ.P.length) = false := by simp; omega
  obtain ⟨⟨m0, m1, m2, m3, m4, m5, m6, m7⟩, _⟩ := h.cells
  clear h m0 m2 m3 m4 m5 m6 m7
  go_enter Try.func12, Try.ntmps12
  go_wp2_with fail
  ((try simp only [Exit.inBlock, Exit.then]); refine bodyPost_ret (results_none rfl _ _ _) rfl ?_)
  exact ⟨rfl, rfl⟩
set_option maxHeartbeats 16000000 in
theorem rpower_turn {w : World} {m g c f i : Nat} {τ : TM} {x : Pt} (up : Bool) (h : RMach w m g c f τ) (hx : τ.P[i]? = some x) (hu : x.up = !up) (hok : τ.Ok) (hv : τ.ver < 9223372036854775807) :
    Calls Try.prog 12 #[.pointer (some ⟨m, 0, Option.none⟩), .int .i64 (i : Int), .bool up] w fun e w' => e = .returned (.tuple #[]) ∧ RMach w' m g c f (τ.power i up) ∧ Keeps (Om m g f) w w' := by
  have hi := (List.getElem?_eq_some_iff.1 hx).1
  have hd : decide (i < τ.P.length) = true := by simp; omega
  have hn := hok.n
  have hxo := hok.P x (List.mem_of_getElem? hx)
  have hle := h.row.le
  obtain ⟨⟨m0, m1, m2, m3, m4, m5, m6, m7⟩, _⟩ := h.cells
  obtain ⟨c0, c1, _⟩ := h.row.read hx
  rw [hu] at c1
  obtain ⟨hp, kp⟩ := rset_fresh h.drew hx (x.fresh up)
  have HOK2 := hid (fun (f : Int) (hf : 0 ≤ f ∧ f < 256) => hok.setP i (hxo.fresh up) f hf)
  have hne : ¬ x.up = up := by rw [hu]; cases up <;> simp
  have HPW : Hid (τ.power i up = TM.choose { τ with P := τ.P.set i (x.fresh up), fl := if up then τ.fl else bor τ.fl i }) := by
    unfold TM.power
    rw [hx]
    simp only []
    rw [if_neg hne]
    exact hid rfl
  have hx2 : ({ τ with P := τ.P.set i (x.fresh up) } : TM).P[i]? = some (x.fresh up) := by
    show (τ.P.set i (x.fresh up))[i]? = _
    rw [List.getElem?_set]; simp [hi]
  have hfl := hok.fl
  have HM := hid h
  have HX := hid hx
  have HP := hid hp
  have KP := hid kp
  have HTH := hid (h.drew.row.there hi 0 16 (by omega))
  have HS : ∀ W, Keeps Nil w W → (W.cell? ⟨m, 1, Option.none⟩ = some (.slice (some ⟨g, 0, Option.none⟩) τ.P.length c) ∧ W.cell? ⟨g, i * 16, Option.none⟩ = some (.int .u32 x.cost)) := fun W k => ⟨(HM.out.keepN k).cells.1.2.1, ((HM.out.keepN k).row.read HX.out).1⟩
  have HSH := hid HS
  have hsq : (fun W : World => W.cell? ⟨m, 1, Option.none⟩ = some (.slice (some ⟨g, 0, Option.none⟩) τ.P.length c) ∧ W.cell? ⟨g, i * 16, Option.none⟩ = some (.int .u32 x.cost)) (w.drew.setCells g (i * 16) (pcl (x.fresh up))) := ⟨by have := hp.cells.1.2.1; simpa using this, (hp.row.read hx2).1⟩
  have HSQ := hid hsq
  have HX2 := hid hx2
  clear h hx hu hne hp kp hok hxo HS hsq hx2 m2 m3 m4 m5 m6
  cases up with
  | true =>
    have hth : w.drew.there g (i * 16) (#[.int .u32 x.cost, .bool true, .int .u64 0, .int .u32 0, .int .u64 0, .int .u8 0, .int .u8 0, .int .u64 0, .int .u8 0, .bool false, .bool false, .bool false, .int .u64 0, .int .i64 0, .bool false, .int .i64 0] : Array Value).size := HTH.out
    have HTH := hid hth
    have e1 : w.drew.setCells g (i * 16) (pcl (x.fresh true)) = w.drew.setCells g (i * 16) (#[.int .u32 x.cost, .bool true, .int .u64 0, .int .u32 0, .int .u64 0, .int .u8 0, .int .u8 0, .int .u64 0, .int .u8 0, .bool false, .bool false, .bool false, .int .u64 0, .int .i64 0, .bool false, .int .i64 0] : Array Value).toList := rfl
    rw [e1] at HP KP HSQ
    clear hth e1
    go_enter Try.func12, Try.ntmps12
    go_upto_region 1 with (fail)
    have k0 : Keeps Nil w w.drew := (Keeps.refl _ _).drew
    generalize hwq : w.drew.setCells g (i * 16) (#[.int .u32 x.cost, .bool true, .int .u64 0, .int .u32 0, .int .u64 0, .int .u8 0, .int .u8 0, .int .u64 0, .int .u8 0, .bool false, .bool false, .bool false, .int .u64 0, .int .i64 0, .bool false, .int .i64 0] : Array Value).toList = wq at *
    have HWQ := hid hwq
    clear hwq
    refine wp_region_held_drew (S := (fun W : World => W.cell? ⟨m, 1, Option.none⟩ = some (.slice (some ⟨g, 0, Option.none⟩) τ.P.length c) ∧ W.cell? ⟨g, i * 16, Option.none⟩ = some (.int .u32 x.cost))) (by kernel_rfl) ?_ (fun hHeld => ?_)
    · (try dsimp only); (first | with_reducible exact HSH.out _ k0 | with_reducible exact HSQ.out)
    refine wpAnyH_take (i := 0) (v := ?_) rfl (by kernel_rfl) (by kernel_rfl) (by kernel_rfl) (fun _ _ _ h => h) (Or.inl ⟨by rfl, ?_⟩) (by assumption) ?_
    rotate_left
    · (intro W hSw; (try dsimp only at hSw); go_simp <;> with_reducible rfl)
    try simp only [Act.put, List.setIfInBounds_toArray, List.set_cons_zero, List.set_cons_succ, List.getElem_toArray, List.getElem_cons_zero, List.getElem_cons_succ]
    refine wpAnyH_take (i := 1) (v := ?_) rfl (by kernel_rfl) (by kernel_rfl) (by kernel_rfl) (fun _ _ _ h => h) (Or.inl ⟨by rfl, ?_⟩) (by assumption) ?_
    rotate_left
    · (intro W hSw; (try dsimp only at hSw); go_simp <;> with_reducible rfl)
    try simp only [Act.put, List.setIfInBounds_toArray, List.set_cons_zero, List.set_cons_succ, List.getElem_toArray, List.getElem_cons_zero, List.getElem_cons_succ]
    refine wpAnyH_take (i := 2) (v := ?_) rfl (by kernel_rfl) (by kernel_rfl) (by kernel_rfl) (fun _ _ _ h => h) (Or.inl ⟨by rfl, ?_⟩) (by assumption) ?_
    rotate_left
    · (intro W hSw; (try dsimp only at hSw); go_simp <;> with_reducible rfl)
    try simp only [Act.put, List.setIfInBounds_toArray, List.set_cons_zero, List.set_cons_succ, List.getElem_toArray, List.getElem_cons_zero, List.getElem_cons_succ]
    refine wpAnyH_take (i := 3) (v := ?_) rfl (by kernel_rfl) (by kernel_rfl) (by kernel_rfl) (fun _ _ _ h => h) (Or.inl ⟨by rfl, ?_⟩) (by assumption) ?_
    rotate_left
    · (intro W hSw; (try dsimp only at hSw); go_simp <;> with_reducible rfl)
    try simp only [Act.put, List.setIfInBounds_toArray, List.set_cons_zero, List.set_cons_succ, List.getElem_toArray, List.getElem_cons_zero, List.getElem_cons_succ]
    refine wpAnyH_take (i := 4) (v := ?_) rfl (by kernel_rfl) (by kernel_rfl) (by kernel_rfl) (fun _ _ _ h => h) (Or.inl ⟨by rfl, ?_⟩) (by assumption) ?_
    rotate_left
    · (intro W hSw; (try dsimp only at hSw); go_simp <;> with_reducible rfl)
    try simp only [Act.put, List.setIfInBounds_toArray, List.set_cons_zero, List.set_cons_succ, List.getElem_toArray, List.getElem_cons_zero, List.getElem_cons_succ]
    refine wpAnyH_take (i := 5) (v := ?_) rfl (by kernel_rfl) (by kernel_rfl) (by kernel_rfl) (fun _ _ _ h => h) (Or.inl ⟨by rfl, ?_⟩) (by assumption) ?_
    rotate_left
    · (intro W hSw; (try dsimp only at hSw); go_simp <;> with_reducible rfl)
    try simp only [Act.put, List.setIfInBounds_toArray, List.set_cons_zero, List.set_cons_succ, List.getElem_toArray, List.getElem_cons_zero, List.getElem_cons_succ]
    refine wpAnyH_take (i := 6) (v := ?_) rfl (by kernel_rfl) (by kernel_rfl) (by kernel_rfl) (fun _ _ _ h => h) (Or.inl ⟨by rfl, ?_⟩) (by assumption) ?_
    rotate_left
    · (intro W hSw; (try dsimp only at hSw); go_simp <;> with_reducible rfl)
    try simp only [Act.put, List.setIfInBounds_toArray, List.set_cons_zero, List.set_cons_succ, List.getElem_toArray, List.getElem_cons_zero, List.getElem_cons_succ]
    refine wpAnyH_take (i := 7) (v := ?_) rfl (by kernel_rfl) (by kernel_rfl) (by kernel_rfl) (fun _ _ _ h => h) (Or.inl ⟨by rfl, ?_⟩) (by assumption) ?_
    rotate_left
    · (intro W hSw; (try dsimp only at hSw); go_simp <;> with_reducible rfl)
    try simp only [Act.put, List.setIfInBounds_toArray, List.set_cons_zero, List.set_cons_succ, List.getElem_toArray, List.getElem_cons_zero, List.getElem_cons_succ]
    refine wpAnyH_take (i := 8) (v := ?_) rfl (by kernel_rfl) (by kernel_rfl) (by kernel_rfl) (fun _ _ _ h => h) (Or.inl ⟨by rfl, ?_⟩) (by assumption) ?_
    rotate_left
    · (intro W hSw; (try dsimp only at hSw); go_simp <;> with_reducible rfl)
    try simp only [Act.put, List.setIfInBounds_toArray, List.set_cons_zero, List.set_cons_succ, List.getElem_toArray, List.getElem_cons_zero, List.getElem_cons_succ]
    refine wpAnyH_take (i := 9) (v := ?_) rfl (by kernel_rfl) (by kernel_rfl) (by kernel_rfl) (fun _ _ _ h => h) (Or.inl ⟨by rfl, ?_⟩) (by assumption) ?_
    rotate_left
    · (intro W hSw; (try dsimp only at hSw); go_simp <;> with_reducible rfl)
    try simp only [Act.put, List.setIfInBounds_toArray, List.set_cons_zero, List.set_cons_succ, List.getElem_toArray, List.getElem_cons_zero, List.getElem_cons_succ]
    refine wpAnyH_take (i := 10) (v := ?_) rfl (by kernel_rfl) (by kernel_rfl) (by kernel_rfl) (fun _ _ _ h => h) (Or.inl ⟨by rfl, ?_⟩) (by assumption) ?_
    rotate_left
    · (intro W hSw; (try dsimp only at hSw); go_simp <;> with_reducible rfl)
    try simp only [Act.put, List.setIfInBounds_toArray, List.set_cons_zero, List.set_cons_succ, List.getElem_toArray, List.getElem_cons_zero, List.getElem_cons_succ]
    refine wpAnyH_take (i := 11) (v := ?_) rfl (by kernel_rfl) (by kernel_rfl) (by kernel_rfl) (fun _ _ _ h => h) (Or.inl ⟨by rfl, ?_⟩) (by assumption) ?_
    rotate_left
    · (intro W hSw; (try dsimp only at hSw); go_simp <;> with_reducible rfl)
    try simp only [Act.put, List.setIfInBounds_toArray, List.set_cons_zero, List.set_cons_succ, List.getElem_toArray, List.getElem_cons_zero, List.getElem_cons_succ]
    refine wpAnyH_take (i := 12) (v := ?_) rfl (by kernel_rfl) (by kernel_rfl) (by kernel_rfl) (fun _ _ _ h => h) (Or.inl ⟨by rfl, ?_⟩) (by assumption) ?_
    rotate_left
    · (intro W hSw; (try dsimp only at hSw); go_simp <;> with_reducible rfl)
    try simp only [Act.put, List.setIfInBounds_toArray, List.set_cons_zero, List.set_cons_succ, List.getElem_toArray, List.getElem_cons_zero, List.getElem_cons_succ]
    refine wpAnyH_take (i := 13) (v := ?_) rfl (by kernel_rfl) (by kernel_rfl) (by kernel_rfl) (fun _ _ _ h => h) (Or.inl ⟨by rfl, ?_⟩) (by assumption) ?_
    rotate_left
    · (intro W hSw; (try dsimp only at hSw); go_simp <;> with_reducible rfl)
    try simp only [Act.put, List.setIfInBounds_toArray, List.set_cons_zero, List.set_cons_succ, List.getElem_toArray, List.getElem_cons_zero, List.getElem_cons_succ]
    refine wpAnyH_take (i := 14) (v := ?_) rfl (by kernel_rfl) (by kernel_rfl) (by kernel_rfl) (fun _ _ _ h => h) (Or.inl ⟨by rfl, ?_⟩) (by assumption) ?_
    rotate_left
    · (intro W hSw; (try dsimp only at hSw); go_simp <;> with_reducible rfl)
    try simp only [Act.put, List.setIfInBounds_toArray, List.set_cons_zero, List.set_cons_succ, List.getElem_toArray, List.getElem_cons_zero, List.getElem_cons_succ]
    refine wpAnyH_take (i := 15) (v := ?_) rfl (by kernel_rfl) (by kernel_rfl) (by kernel_rfl) (fun _ _ _ h => h) (Or.inl ⟨by rfl, ?_⟩) (by assumption) ?_
    rotate_left
    · (intro W hSw; (try dsimp only at hSw); go_simp <;> with_reducible rfl)
    try simp only [Act.put, List.setIfInBounds_toArray, List.set_cons_zero, List.set_cons_succ, List.getElem_toArray, List.getElem_cons_zero, List.getElem_cons_succ]
    refine wpAnyH_ready (rs := [16]) (by kernel_rfl) (by simp) ?_
    refine AllReadyH.cons rfl (fun K hK => ?_) AllReadyH.nil
    try simp only [Act.put, List.setIfInBounds_toArray, List.set_cons_zero, List.set_cons_succ, List.getElem_toArray, List.getElem_cons_zero, List.getElem_cons_succ]
    rw [if_pos (by rfl)]
    refine wp_store_mid 92 _ _ rfl g (i * 16) #[.int .u32 x.cost, .bool true, .int .u64 0, .int .u32 0, .int .u64 0, .int .u8 0, .int .u8 0, .int .u64 0, .int .u8 0, .bool false, .bool false, .bool false, .int .u64 0, .int .i64 0, .bool false, .int .i64 0] rfl rfl ?_ (by kernel_rfl) (by simp [Value.oneCell']) ?_
    · exact HTH.out
    rw [show w.drew.setCells g (i * 16) (#[.int .u32 x.cost, .bool true, .int .u64 0, .int .u32 0, .int .u64 0, .int .u8 0, .int .u8 0, .int .u64 0, .int .u8 0, .bool false, .bool false, .bool false, .int .u64 0, .int .i64 0, .bool false, .int .i64 0] : Array Value).toList = wq from HWQ.out]
    refine hK.out _ _ ?_ (fun hHeld => ?_)
    · (try dsimp only); (first | with_reducible exact HSH.out _ k0 | with_reducible exact HSQ.out)
    clear hK K
    try simp only [Act.put, List.setIfInBounds_toArray, List.set_cons_zero, List.set_cons_succ, List.getElem_toArray, List.getElem_cons_zero, List.getElem_cons_succ]
    refine wpAnyH_done (by kernel_rfl) ?_ _
    have hl2 : ({ τ with P := τ.P.set i (x.fresh true) } : TM).P.length = τ.P.length := by simp
    have HL2 := hid hl2
    have K7 : Keeps (Om m g f) w wq := k0.ofNil.trans KP.out.omG
    have K7H := hid K7
    obtain ⟨⟨bf, hbf⟩, ffr⟩ := HP.out.bit (i := i) (by rw [hl2]; exact hi)
    have n7 := HP.out.cells.1.2.2.2.2.2.2.2
    rw [hl2] at n7
    clear m0 m1 m7 c0 c1 k0 K7 hl2
    have HBF := hid hbf
    go_upto_region 2 with (fail)
    have CHB := hid (fun (b : Bool) (hb : wq.cell? ⟨f, i, Option.none⟩ = some (.bool b)) => rchoose_any (HP.out.flagSame hb).drew (by have := HOK2.out τ.fl hfl; exact this) hv)
    have KB := hid (fun b : Bool => (K7H.out.mF i (.bool b)).drew)
    cases bf
    all_goals
      go_region
      have CH := hid (CHB.out _ HBF.out)
      go_upto_region 3 with (fail)
      go_wp2_with fail
      refine CH.out.mono ?_; rintro e w2 ⟨rfl, h2, k2⟩
      go_wp2_with fail
      go_end0
      rw [HPW.out]
      exact ⟨rfl, h2, (KB.out _).trans k2⟩
  | false =>
    have hth : w.drew.there g (i * 16) (#[.int .u32 x.cost, .bool false, .int .u64 0, .int .u32 0, .int .u64 0, .int .u8 0, .int .u8 0, .int .u64 0, .int .u8 0, .bool false, .bool false, .bool false, .int .u64 0, .int .i64 0, .bool false, .int .i64 0] : Array Value).size := HTH.out
    have HTH := hid hth
    have e1 : w.drew.setCells g (i * 16) (pcl (x.fresh false)) = w.drew.setCells g (i * 16) (#[.int .u32 x.cost, .bool false, .int .u64 0, .int .u32 0, .int .u64 0, .int .u8 0, .int .u8 0, .int .u64 0, .int .u8 0, .bool false, .bool false, .bool false, .int .u64 0, .int .i64 0, .bool false, .int .i64 0] : Array Value).toList := rfl
    rw [e1] at HP KP HSQ
    clear hth e1
    go_enter Try.func12, Try.ntmps12
    go_upto_region 1 with (fail)
    have k0 : Keeps Nil w w.drew := (Keeps.refl _ _).drew
    generalize hwq : w.drew.setCells g (i * 16) (#[.int .u32 x.cost, .bool false, .int .u64 0, .int .u32 0, .int .u64 0, .int .u8 0, .int .u8 0, .int .u64 0, .int .u8 0, .bool false, .bool false, .bool false, .int .u64 0, .int .i64 0, .bool false, .int .i64 0] : Array Value).toList = wq at *
    have HWQ := hid hwq
    clear hwq
    refine wp_region_held_drew (S := (fun W : World => W.cell? ⟨m, 1, Option.none⟩ = some (.slice (some ⟨g, 0, Option.none⟩) τ.P.length c) ∧ W.cell? ⟨g, i * 16, Option.none⟩ = some (.int .u32 x.cost))) (by kernel_rfl) ?_ (fun hHeld => ?_)
    · (try dsimp only); (first | with_reducible exact HSH.out _ k0 | with_reducible exact HSQ.out)
    refine wpAnyH_take (i := 0) (v := ?_) rfl (by kernel_rfl) (by kernel_rfl) (by kernel_rfl) (fun _ _ _ h => h) (Or.inl ⟨by rfl, ?_⟩) (by assumption) ?_
    rotate_left
    · (intro W hSw; (try dsimp only at hSw); go_simp <;> with_reducible rfl)
    try simp only [Act.put, List.setIfInBounds_toArray, List.set_cons_zero, List.set_cons_succ, List.getElem_toArray, List.getElem_cons_zero, List.getElem_cons_succ]
    refine wpAnyH_take (i := 1) (v := ?_) rfl (by kernel_rfl) (by kernel_rfl) (by kernel_rfl) (fun _ _ _ h => h) (Or.inl ⟨by rfl, ?_⟩) (by assumption) ?_
    rotate_left
    · (intro W hSw; (try dsimp only at hSw); go_simp <;> with_reducible rfl)
    try simp only [Act.put, List.setIfInBounds_toArray, List.set_cons_zero, List.set_cons_succ, List.getElem_toArray, List.getElem_cons_zero, List.getElem_cons_succ]
    refine wpAnyH_take (i := 2) (v := ?_) rfl (by kernel_rfl) (by kernel_rfl) (by kernel_rfl) (fun _ _ _ h => h) (Or.inl ⟨by rfl, ?_⟩) (by assumption) ?_
    rotate_left
    · (intro W hSw; (try dsimp only at hSw); go_simp <;> with_reducible rfl)
    try simp only [Act.put, List.setIfInBounds_toArray, List.set_cons_zero, List.set_cons_succ, List.getElem_toArray, List.getElem_cons_zero, List.getElem_cons_succ]
    refine wpAnyH_take (i := 3) (v := ?_) rfl (by kernel_rfl) (by kernel_rfl) (by kernel_rfl) (fun _ _ _ h => h) (Or.inl ⟨by rfl, ?_⟩) (by assumption) ?_
    rotate_left
    · (intro W hSw; (try dsimp only at hSw); go_simp <;> with_reducible rfl)
    try simp only [Act.put, List.setIfInBounds_toArray, List.set_cons_zero, List.set_cons_succ, List.getElem_toArray, List.getElem_cons_zero, List.getElem_cons_succ]
    refine wpAnyH_take (i := 4) (v := ?_) rfl (by kernel_rfl) (by kernel_rfl) (by kernel_rfl) (fun _ _ _ h => h) (Or.inl ⟨by rfl, ?_⟩) (by assumption) ?_
    rotate_left
    · (intro W hSw; (try dsimp only at hSw); go_simp <;> with_reducible rfl)
    try simp only [Act.put, List.setIfInBounds_toArray, List.set_cons_zero, List.set_cons_succ, List.getElem_toArray, List.getElem_cons_zero, List.getElem_cons_succ]
    refine wpAnyH_take (i := 5) (v := ?_) rfl (by kernel_rfl) (by kernel_rfl) (by kernel_rfl) (fun _ _ _ h => h) (Or.inl ⟨by rfl, ?_⟩) (by assumption) ?_
    rotate_left
    · (intro W hSw; (try dsimp only at hSw); go_simp <;> with_reducible rfl)
    try simp only [Act.put, List.setIfInBounds_toArray, List.set_cons_zero, List.set_cons_succ, List.getElem_toArray, List.getElem_cons_zero, List.getElem_cons_succ]
    refine wpAnyH_take (i := 6) (v := ?_) rfl (by kernel_rfl) (by kernel_rfl) (by kernel_rfl) (fun _ _ _ h => h) (Or.inl ⟨by rfl, ?_⟩) (by assumption) ?_
    rotate_left
    · (intro W hSw; (try dsimp only at hSw); go_simp <;> with_reducible rfl)
    try simp only [Act.put, List.setIfInBounds_toArray, List.set_cons_zero, List.set_cons_succ, List.getElem_toArray, List.getElem_cons_zero, List.getElem_cons_succ]
    refine wpAnyH_take (i := 7) (v := ?_) rfl (by kernel_rfl) (by kernel_rfl) (by kernel_rfl) (fun _ _ _ h => h) (Or.inl ⟨by rfl, ?_⟩) (by assumption) ?_
    rotate_left
    · (intro W hSw; (try dsimp only at hSw); go_simp <;> with_reducible rfl)
    try simp only [Act.put, List.setIfInBounds_toArray, List.set_cons_zero, List.set_cons_succ, List.getElem_toArray, List.getElem_cons_zero, List.getElem_cons_succ]
    refine wpAnyH_take (i := 8) (v := ?_) rfl (by kernel_rfl) (by kernel_rfl) (by kernel_rfl) (fun _ _ _ h => h) (Or.inl ⟨by rfl, ?_⟩) (by assumption) ?_
    rotate_left
    · (intro W hSw; (try dsimp only at hSw); go_simp <;> with_reducible rfl)
    try simp only [Act.put, List.setIfInBounds_toArray, List.set_cons_zero, List.set_cons_succ, List.getElem_toArray, List.getElem_cons_zero, List.getElem_cons_succ]
    refine wpAnyH_take (i := 9) (v := ?_) rfl (by kernel_rfl) (by kernel_rfl) (by kernel_rfl) (fun _ _ _ h => h) (Or.inl ⟨by rfl, ?_⟩) (by assumption) ?_
    rotate_left
    · (intro W hSw; (try dsimp only at hSw); go_simp <;> with_reducible rfl)
    try simp only [Act.put, List.setIfInBounds_toArray, List.set_cons_zero, List.set_cons_succ, List.getElem_toArray, List.getElem_cons_zero, List.getElem_cons_succ]
    refine wpAnyH_take (i := 10) (v := ?_) rfl (by kernel_rfl) (by kernel_rfl) (by kernel_rfl) (fun _ _ _ h => h) (Or.inl ⟨by rfl, ?_⟩) (by assumption) ?_
    rotate_left
    · (intro W hSw; (try dsimp only at hSw); go_simp <;> with_reducible rfl)
    try simp only [Act.put, List.setIfInBounds_toArray, List.set_cons_zero, List.set_cons_succ, List.getElem_toArray, List.getElem_cons_zero, List.getElem_cons_succ]
    refine wpAnyH_take (i := 11) (v := ?_) rfl (by kernel_rfl) (by kernel_rfl) (by kernel_rfl) (fun _ _ _ h => h) (Or.inl ⟨by rfl, ?_⟩) (by assumption) ?_
    rotate_left
    · (intro W hSw; (try dsimp only at hSw); go_simp <;> with_reducible rfl)
    try simp only [Act.put, List.setIfInBounds_toArray, List.set_cons_zero, List.set_cons_succ, List.getElem_toArray, List.getElem_cons_zero, List.getElem_cons_succ]
    refine wpAnyH_take (i := 12) (v := ?_) rfl (by kernel_rfl) (by kernel_rfl) (by kernel_rfl) (fun _ _ _ h => h) (Or.inl ⟨by rfl, ?_⟩) (by assumption) ?_
    rotate_left
    · (intro W hSw; (try dsimp only at hSw); go_simp <;> with_reducible rfl)
    try simp only [Act.put, List.setIfInBounds_toArray, List.set_cons_zero, List.set_cons_succ, List.getElem_toArray, List.getElem_cons_zero, List.getElem_cons_succ]
    refine wpAnyH_take (i := 13) (v := ?_) rfl (by kernel_rfl) (by kernel_rfl) (by kernel_rfl) (fun _ _ _ h => h) (Or.inl ⟨by rfl, ?_⟩) (by assumption) ?_
    rotate_left
    · (intro W hSw; (try dsimp only at hSw); go_simp <;> with_reducible rfl)
    try simp only [Act.put, List.setIfInBounds_toArray, List.set_cons_zero, List.set_cons_succ, List.getElem_toArray, List.getElem_cons_zero, List.getElem_cons_succ]
    refine wpAnyH_take (i := 14) (v := ?_) rfl (by kernel_rfl) (by kernel_rfl) (by kernel_rfl) (fun _ _ _ h => h) (Or.inl ⟨by rfl, ?_⟩) (by assumption) ?_
    rotate_left
    · (intro W hSw; (try dsimp only at hSw); go_simp <;> with_reducible rfl)
    try simp only [Act.put, List.setIfInBounds_toArray, List.set_cons_zero, List.set_cons_succ, List.getElem_toArray, List.getElem_cons_zero, List.getElem_cons_succ]
    refine wpAnyH_take (i := 15) (v := ?_) rfl (by kernel_rfl) (by kernel_rfl) (by kernel_rfl) (fun _ _ _ h => h) (Or.inl ⟨by rfl, ?_⟩) (by assumption) ?_
    rotate_left
    · (intro W hSw; (try dsimp only at hSw); go_simp <;> with_reducible rfl)
    try simp only [Act.put, List.setIfInBounds_toArray, List.set_cons_zero, List.set_cons_succ, List.getElem_toArray, List.getElem_cons_zero, List.getElem_cons_succ]
    refine wpAnyH_ready (rs := [16]) (by kernel_rfl) (by simp) ?_
    refine AllReadyH.cons rfl (fun K hK => ?_) AllReadyH.nil
    try simp only [Act.put, List.setIfInBounds_toArray, List.set_cons_zero, List.set_cons_succ, List.getElem_toArray, List.getElem_cons_zero, List.getElem_cons_succ]
    rw [if_pos (by rfl)]
    refine wp_store_mid 92 _ _ rfl g (i * 16) #[.int .u32 x.cost, .bool false, .int .u64 0, .int .u32 0, .int .u64 0, .int .u8 0, .int .u8 0, .int .u64 0, .int .u8 0, .bool false, .bool false, .bool false, .int .u64 0, .int .i64 0, .bool false, .int .i64 0] rfl rfl ?_ (by kernel_rfl) (by simp [Value.oneCell']) ?_
    · exact HTH.out
    rw [show w.drew.setCells g (i * 16) (#[.int .u32 x.cost, .bool false, .int .u64 0, .int .u32 0, .int .u64 0, .int .u8 0, .int .u8 0, .int .u64 0, .int .u8 0, .bool false, .bool false, .bool false, .int .u64 0, .int .i64 0, .bool false, .int .i64 0] : Array Value).toList = wq from HWQ.out]
    refine hK.out _ _ ?_ (fun hHeld => ?_)
    · (try dsimp only); (first | with_reducible exact HSH.out _ k0 | with_reducible exact HSQ.out)
    clear hK K
    try simp only [Act.put, List.setIfInBounds_toArray, List.set_cons_zero, List.set_cons_succ, List.getElem_toArray, List.getElem_cons_zero, List.getElem_cons_succ]
    refine wpAnyH_done (by kernel_rfl) ?_ _
    have hl2 : ({ τ with P := τ.P.set i (x.fresh false) } : TM).P.length = τ.P.length := by simp
    have HL2 := hid hl2
    have K7 : Keeps (Om m g f) w wq := k0.ofNil.trans KP.out.omG
    have K7H := hid K7
    obtain ⟨⟨bf, hbf⟩, ffr⟩ := HP.out.bit (i := i) (by rw [hl2]; exact hi)
    have n7 := HP.out.cells.1.2.2.2.2.2.2.2
    rw [hl2] at n7
    clear m0 m1 m7 c0 c1 k0 K7 hl2
    have HBF := hid hbf
    go_upto_region 2 with (fail)
    have CH0 := hid (rchoose_any ((HP.out.flag (i := i) (by rw [HL2.out]; exact hi) (by rw [HL2.out]; omega)).drew) (by have := HOK2.out (bor τ.fl i) (bor_range _ _); exact this) hv)
    have KB := hid ((K7H.out.mF i (.bool true)).drew)
    cases bf
    all_goals
      go_region
      have CH := CH0
      go_upto_region 3 with (fail)
      go_wp2_with fail
      refine CH.out.mono ?_; rintro e w2 ⟨rfl, h2, k2⟩
      go_wp2_with fail
      go_end0
      rw [HPW.out]
      exact ⟨rfl, h2, KB.out.trans k2⟩
theorem rpower_any {w : World} {m g c f i : Nat} {τ : TM} (up : Bool) (h : RMach w m g c f τ) (hok : τ.Ok) (hv : τ.ver < 9223372036854775807) :
    Calls Try.prog 12 #[.pointer (some ⟨m, 0, Option.none⟩), .int .i64 (i : Int), .bool up] w fun e w' => e = .returned (.tuple #[]) ∧ RMach w' m g c f (τ.power i up) ∧ Keeps (Om m g f) w w' := by
  by_cases hi : i < τ.P.length
  · obtain ⟨x, hx⟩ : ∃ x, τ.P[i]? = some x := ⟨_, List.getElem?_eq_getElem hi⟩
    by_cases hu : x.up = up
    · refine (rpower_same up h hx hu).mono fun e w' ⟨he, hw⟩ => ⟨he, ?_, hw ▸ Keeps.refl _ _⟩
      subst hw
      have : τ.power i up = τ := by unfold TM.power; rw [hx]; simp only []; rw [if_pos hu]
      rw [this]; exact h
    · exact rpower_turn up h hx (by revert hu; cases x.up <;> cases up <;> simp) hok hv
  · refine (rpower_far up h (by omega)).mono fun e w' ⟨he, hw⟩ => ⟨he, ?_, hw ▸ Keeps.refl _ _⟩
    subst hw
    have : τ.power i up = τ := by unfold TM.power; rw [List.getElem?_eq_none (by omega)]
    rw [this]; exact h
end Go.Proofs.Ytbbodecdijankaa
