/-
  Layer 9: a port of the document's machine hears a word. Conditions: the machine lies so.
-/
import Derived.Test.YtbbodecdijankaaRChoose
import Derived.Test.YtbbodecdijankaaHear
import Derived.BigGuard
namespace Go.Proofs.Ytbbodecdijankaa
open Go.RowKit
set_option linter.unusedVariables false
set_option linter.unusedSimpArgs false
set_option maxRecDepth 8000

/-- The bits below k but i, one by one. -/
def butFl (fl : Int) (i : Nat) : Nat → Int
  | 0 => fl
  | k + 1 => if k = i then butFl fl i k else bor (butFl fl i k) k
theorem butFl_set {F : List Bool} (h : F.length ≤ 8) (i : Nat) : ∀ k, k ≤ F.length → butFl (setOf F) i k = setOf (F.mapIdx (fun j b => b || (decide (j < k) && !decide (j = i))))
  | 0, _ => by
    simp only [butFl]
    congr 1
    apply List.ext_getElem?
    intro j
    simp
  | k + 1, hk => by
    rw [butFl, butFl_set h i k (by omega)]
    split
    · rename_i hki
      congr 1
      apply List.ext_getElem?
      intro j
      simp only [List.getElem?_mapIdx]
      cases F[j]? with
      | none => rfl
      | some b =>
        simp only [Option.map_some, Option.some.injEq]
        by_cases hj : j = i
        · simp [hj]
        · have : (j < k + 1) = (j < k) := by simp only [eq_iff_iff]; omega
          simp [this, hj]
    · rename_i hki
      rw [bor_set (by simpa using h) (by simp; omega)]
      congr 1
      apply List.ext_getElem?
      intro j
      simp only [List.getElem?_set, List.getElem?_mapIdx, List.length_mapIdx]
      by_cases hj : k = j
      · subst hj
        rw [if_pos rfl, if_pos (by omega), List.getElem?_eq_getElem (by omega)]
        simp [hki]
      · rw [if_neg hj]
        cases F[j]? with
        | none => rfl
        | some b =>
          simp only [Option.map_some, Option.some.injEq]
          have : (j < k + 1) = (j < k) := by simp only [eq_iff_iff]; omega
          simp [this]
theorem butFl_all {F : List Bool} (h : F.length ≤ 8) {i : Nat} (hi : i < 8) : butFl (setOf F) i F.length = orBut (setOf F) i F.length := by
  rw [butFl_set h i _ (Nat.le_refl _), but_set h hi]
  congr 1
  apply List.ext_getElem?
  intro j
  simp only [List.getElem?_mapIdx]
  cases hj : F[j]? with
  | none => rfl
  | some b =>
    have := (List.getElem?_eq_some_iff.1 hj).1
    simp [this]
/-- Done with the first k ports. -/
def TM.rbut (τ : TM) (i k : Nat) : TM := { τ.butTo i k with fl := butFl τ.fl i k }
theorem rbut_zero (τ : TM) (i : Nat) : τ.rbut i 0 = τ := by unfold TM.rbut; rw [butTo_zero]; rfl
theorem rbut_all {w : World} {m g c f i : Nat} {τ : TM} (h : RMach w m g c f τ) (hn : τ.P.length ≤ 8) (hi : i < 8) : τ.rbut i τ.P.length = { τ with P := spreadBut i τ.P, fl := orBut τ.fl i τ.P.length } := by
  obtain ⟨F, h1, _, h2⟩ := h.fl
  have e : butFl τ.fl i τ.P.length = orBut τ.fl i τ.P.length := by rw [← h2, ← h1]; exact butFl_all (by omega) hi
  unfold TM.rbut
  rw [butTo_all, e]
theorem rbut_len (τ : TM) (i : Nat) {k : Nat} (hk : k ≤ τ.P.length) : (τ.rbut i k).P.length = τ.P.length := butTo_len τ i hk
theorem rbut_get (τ : TM) (i : Nat) {k : Nat} {x : Pt} (hx : τ.P[k]? = some x) : (τ.rbut i k).P[k]? = some x := butTo_get τ i hx
theorem rbut_self (τ : TM) {k : Nat} {x : Pt} (hx : τ.P[k]? = some x) : τ.rbut k (k + 1) = τ.rbut k k := by
  have hs := butTo_set τ k hx
  rw [if_neg (by simp), set_self _ (butTo_get τ k hx)] at hs
  unfold TM.rbut
  rw [← hs]
  simp [butFl]
theorem rbut_off (τ : TM) {i k : Nat} {x : Pt} (hx : τ.P[k]? = some x) (hk : ¬ k = i) (hc : ¬ (x.link = true ∧ x.sp = 0)) : τ.rbut i (k + 1) = { τ.rbut i k with fl := bor (τ.rbut i k).fl k } := by
  have hs := butTo_set τ i hx
  rw [if_neg (by intro h; exact hc h.2), set_self _ (butTo_get τ i hx)] at hs
  unfold TM.rbut
  rw [← hs]
  simp [butFl, hk]
theorem rbut_on (τ : TM) {i k : Nat} {x : Pt} (hx : τ.P[k]? = some x) (hk : ¬ k = i) (hc : x.link = true ∧ x.sp = 0) : τ.rbut i (k + 1) = { τ.rbut i k with P := (τ.rbut i k).P.set k { x with sp := 4 }, fl := bor (τ.rbut i k).fl k } := by
  have hs := butTo_set τ i hx
  rw [if_pos ⟨hk, hc.1, hc.2⟩] at hs
  unfold TM.rbut
  rw [← hs]
  simp [butFl, hk]
/-- What is answered, and what became of the machine. -/
def RHearIs (m g c f : Nat) (x : TM × List (Int × Bp)) (w : World) (e : Ending) (w' : World) : Prop :=
  ∃ p n cap, e = .returned (.slice p n cap) ∧ WV w' w.heap.size 12 p n cap (flatS x.2) ∧ RMach w' m g c f x.1 ∧ Keeps (Om m g f) w w'
set_option maxHeartbeats 1000000 in
theorem rhear_far {w : World} {m g c f i : Nat} {τ : TM} (b : Bp) (h : RMach w m g c f τ) (hi : τ.P.length ≤ i) :
    Calls Try.prog 20 #[.pointer (some ⟨m, 0, Option.none⟩), .int .i64 (i : Int), bval b] w (RHearIs m g c f (τ.hear i b) w) := by
  have hd : decide (i < τ.P.length) = false := by simp; omega
  have HH : Hid (τ.hear i b = (τ, [])) := by unfold TM.hear; rw [List.getElem?_eq_none hi]; exact hid rfl
  have ha := h.alloc (.cells #[.int .u64 b.r, .int .u32 b.c, .int .u64 b.b, .int .u8 b.p, .int .u8 b.hops, .int .u64 b.ver, .int .u8 b.role, .bool b.prop, .bool b.agree, .bool b.top, .int .u64 b.echo] 37 (0, 0))
  obtain ⟨⟨m0, m1, m2, m3, m4, m5, m6, m7⟩, _⟩ := ha.cells
  have HA := hid ha
  clear h ha m0 m2 m3 m4 m5 m6 m7
  go_enter Try.func20, Try.ntmps20
  go_wp2_with fail
  go_ret
  exact ⟨_, _, _, rfl, by rw [HH.out]; exact WV.nil _ _ _ _ _, by rw [HH.out]; exact HA.out, (Keeps.refl _ _).alloc _⟩
set_option maxHeartbeats 1000000 in
theorem rhear_off {w : World} {m g c f i : Nat} {τ : TM} {x : Pt} (b : Bp) (h : RMach w m g c f τ) (hx : τ.P[i]? = some x) (hl : x.link = false) :
    Calls Try.prog 20 #[.pointer (some ⟨m, 0, Option.none⟩), .int .i64 (i : Int), bval b] w (RHearIs m g c f (τ.hear i b) w) := by
  have hi := (List.getElem?_eq_some_iff.1 hx).1
  have hd : decide (i < τ.P.length) = true := by simp; omega
  have HH : Hid (τ.hear i b = (τ, [])) := by unfold TM.hear; rw [hx]; simp only []; rw [if_neg (by simp [hl])]; exact hid rfl
  have ha := h.alloc (.cells #[.int .u64 b.r, .int .u32 b.c, .int .u64 b.b, .int .u8 b.p, .int .u8 b.hops, .int .u64 b.ver, .int .u8 b.role, .bool b.prop, .bool b.agree, .bool b.top, .int .u64 b.echo] 37 (0, 0))
  obtain ⟨⟨m0, m1, m2, m3, m4, m5, m6, m7⟩, _⟩ := ha.cells
  have LK := rlink_any ha hx
  rw [hl] at LK
  have LKH := hid LK
  have HA := hid ha
  clear h ha hx hl LK m0 m2 m3 m4 m5 m6 m7
  go_enter Try.func20, Try.ntmps20
  go_wp2_with (go_at_call 38; refine LKH.out.mono ?_; rintro e w' ⟨rfl, rfl⟩)
  go_ret
  exact ⟨_, _, _, rfl, by rw [HH.out]; exact WV.nil _ _ _ _ _, by rw [HH.out]; exact HA.out, (Keeps.refl _ _).alloc _⟩
set_option maxHeartbeats 16000000 in
theorem rhear_on {w : World} {m g c f i : Nat} {τ : TM} {x : Pt} (b : Bp) (h : RMach w m g c f τ) (hx : τ.P[i]? = some x) (hl : x.link = true) (hok : τ.Ok) (hb : b.Ok) (hv : τ.ver < 9223372036854775807) :
    Calls Try.prog 20 #[.pointer (some ⟨m, 0, Option.none⟩), .int .i64 (i : Int), bval b] w (RHearIs m g c f (τ.hear i b) w) := by
  have hi := (List.getElem?_eq_some_iff.1 hx).1
  have hd : decide (i < τ.P.length) = true := by simp; omega
  have hn := hok.n
  have hle := h.row.le
  have ha := h.alloc (.cells #[.int .u64 b.r, .int .u32 b.c, .int .u64 b.b, .int .u8 b.p, .int .u8 b.hops, .int .u64 b.ver, .int .u8 b.role, .bool b.prop, .bool b.agree, .bool b.top, .int .u64 b.echo] 37 (0, 0))
  have hB := alloc_block w (.cells #[.int .u64 b.r, .int .u32 b.c, .int .u64 b.b, .int .u8 b.p, .int .u8 b.hops, .int .u64 b.ver, .int .u8 b.role, .bool b.prop, .bool b.agree, .bool b.top, .int .u64 b.echo] 37 (0, 0))
  have LK := rlink_any ha hx
  rw [hl] at LK
  have LKH := hid LK
  have HX := hid hx
  have HL := hid hl
  have HOK := hid hok
  have KW0 : Keeps Nil w (w.alloc (.cells #[.int .u64 b.r, .int .u32 b.c, .int .u64 b.b, .int .u8 b.p, .int .u8 b.hops, .int .u64 b.ver, .int .u8 b.role, .bool b.prop, .bool b.agree, .bool b.top, .int .u64 b.echo] 37 (0, 0))) := (Keeps.refl _ _).alloc _
  have KW := hid KW0
  obtain ⟨⟨m0, m1, m2, m3, m4, m5, m6, m7⟩, _⟩ := ha.cells
  have MZ := hid ha
  have HB := hid hB
  clear h hx hl LK hok ha hB KW0 m0 m2 m3 m4 m5 m6 m7
  go_enter Try.func20, Try.ntmps20
  go_upto_region 3 with (go_at_call 38; refine LKH.out.mono ?_; rintro e w' ⟨rfl, rfl⟩)
  clear LKH
  generalize w.alloc (.cells #[.int .u64 b.r, .int .u32 b.c, .int .u64 b.b, .int .u8 b.p, .int .u8 b.hops, .int .u64 b.ver, .int .u8 b.role, .bool b.prop, .bool b.agree, .bool b.top, .int .u64 b.echo] 37 (0, 0)) = wz at *
  obtain ⟨bB, e1⟩ : ∃ bB, w.heap.size = bB := ⟨_, rfl⟩
  rw [e1] at HB ⊢
  have HE := hid e1
  clear e1
  have hneB : bB ≠ m ∧ bB ≠ g ∧ bB ≠ f := by
    have hb := HB.out
    refine ⟨?_, ?_, ?_⟩
    · rintro rfl
      have := MZ.out.head
      rw [hb] at this
      injection this with this; injection this with _ this; exact absurd this (by decide)
    · rintro rfl
      obtain ⟨cur, h2, _⟩ := MZ.out.row
      rw [hb] at h2
      injection h2 with this; injection this with _ this; exact absurd this (by decide)
    · rintro rfl
      obtain ⟨F, _, h2, _⟩ := MZ.out.fl
      rw [hb] at h2
      injection h2 with this; injection this with _ this; exact absurd this (by decide)
  have HNB := hid hneB
  have HS : ∀ W, Keeps (At g) wz W → (W.cell? ⟨m, 1, Option.none⟩ = some (.slice (some ⟨g, 0, Option.none⟩) τ.P.length c) ∧ W.rangeAt bB 0 (bcl b)) := fun W k => by
    have h2 := (k.block bB (lt_of_block HB.out) (fun e => HNB.out.2.1 e)).trans HB.out
    exact ⟨(k.cell (p := ⟨m, 1, Option.none⟩) MZ.out.lt.1 (fun e => MZ.out.mg e)).trans MZ.out.cells.1.2.1, range_block0 h2 (bcl b) (by intro j v hv; simpa [bcl] using hv)⟩
  have HSH := hid HS
  have k0 : Keeps (At g) wz wz.drew := (Keeps.refl _ _).drew
  obtain ⟨hp, kp⟩ := MZ.out.drew.putRange (x' := { x with h := b }) 2 (bcl b) (by simp [bcl_len]) HX.out (fun q hq => by
    obtain rfl | rfl | rfl | rfl | rfl | rfl | rfl | rfl | rfl | rfl | rfl | rfl | rfl | rfl | rfl | rfl : q = 0 ∨ q = 1 ∨ q = 2 ∨ q = 3 ∨ q = 4 ∨ q = 5 ∨ q = 6 ∨ q = 7 ∨ q = 8 ∨ q = 9 ∨ q = 10 ∨ q = 11 ∨ q = 12 ∨ q = 13 ∨ q = 14 ∨ q = 15 := by omega
    all_goals rfl)
  have k1 : Keeps (At g) wz (wz.drew.setCells g (i * 16 + 2) (bcl b)) := k0.trans kp
  have TH := hid (MZ.out.drew.row.there hi 2 11 (by omega))
  have hx1 : ({ τ with P := τ.P.set i { x with h := b } } : TM).P[i]? = some { x with h := b } := by
    show (τ.P.set i { x with h := b })[i]? = _
    rw [List.getElem?_set]; simp [hi]
  have hpp := hp.put (x' := { x with h := b, lasts := 3 }) 13 (by omega) (v := .int .i64 3) hx1 rfl
  simp only [List.set_set] at hpp
  have c13 := (hp.row.read hx1).2.2.2.2.2.2.2.2.2.2.2.2.2.1
  have f13 := hp.row.frozen (i * 16 + 13)
  have n1 := hp.cells.1.2.1
  simp only [List.length_set] at n1
  have HPP := hid hpp
  have N1 := hid (And.intro n1 (And.intro c13 f13))
  clear hp hpp kp hx1 HS n1 c13 f13
  generalize hwq : wz.drew.setCells g (i * 16 + 2) (bcl b) = wq at *
  have HWQ := hid hwq
  clear hwq
  refine wp_region_held_drew (S := (fun W : World => W.cell? ⟨m, 1, Option.none⟩ = some (.slice (some ⟨g, 0, Option.none⟩) τ.P.length c) ∧ W.rangeAt bB 0 (bcl b))) (by kernel_rfl) ?_ (fun hHeld => ?_)
  · (try dsimp only); (first | with_reducible exact HSH.out _ k0 | with_reducible exact HSH.out _ k1)
  refine wpAnyH_take (i := 0) (v := ?_) rfl (by kernel_rfl) (by kernel_rfl) (by kernel_rfl) (fun _ _ _ h => h) (Or.inl ⟨by rfl, ?_⟩) (by assumption) ?_
  rotate_left
  · (intro W hSw; (try dsimp only at hSw); go_simp <;> with_reducible rfl)
  try simp only [Act.put, List.setIfInBounds_toArray, List.set_cons_zero, List.set_cons_succ, List.getElem_toArray, List.getElem_cons_zero, List.getElem_cons_succ]
  refine wpAnyH_take (i := 1) (v := ?_) rfl (by kernel_rfl) (by kernel_rfl) (by kernel_rfl) (fun _ _ _ h => h) (Or.inl ⟨by rfl, ?_⟩) (by assumption) ?_
  rotate_left
  · (intro W hSw; (try dsimp only at hSw); go_simp <;> with_reducible rfl)
  try simp only [Act.put, List.setIfInBounds_toArray, List.set_cons_zero, List.set_cons_succ, List.getElem_toArray, List.getElem_cons_zero, List.getElem_cons_succ]
  refine wpAnyH_take (i := 2) (v := ?_) rfl (by kernel_rfl) (by kernel_rfl) (by kernel_rfl) (fun _ _ _ h => h) (Or.inl ⟨by rfl, ?_⟩) (by assumption) ?_
  rotate_left
  · (intro W hSw; (try dsimp only at hSw); go_simp <;> with_reducible rfl)
  try simp only [Act.put, List.setIfInBounds_toArray, List.set_cons_zero, List.set_cons_succ, List.getElem_toArray, List.getElem_cons_zero, List.getElem_cons_succ]
  refine wpAnyH_take (i := 3) (v := ?_) rfl (by kernel_rfl) (by kernel_rfl) (by kernel_rfl) (fun _ _ _ h => h) (Or.inl ⟨by rfl, ?_⟩) (by assumption) ?_
  rotate_left
  · (intro W hSw; (try dsimp only at hSw); go_simp <;> with_reducible rfl)
  try simp only [Act.put, List.setIfInBounds_toArray, List.set_cons_zero, List.set_cons_succ, List.getElem_toArray, List.getElem_cons_zero, List.getElem_cons_succ]
  refine wpAnyH_take (i := 4) (v := ?_) rfl (by kernel_rfl) (by kernel_rfl) (by kernel_rfl) (fun _ _ _ h => h) (Or.inl ⟨by rfl, ?_⟩) (by assumption) ?_
  rotate_left
  · (intro W hSw; (try dsimp only at hSw); go_simp <;> with_reducible rfl)
  try simp only [Act.put, List.setIfInBounds_toArray, List.set_cons_zero, List.set_cons_succ, List.getElem_toArray, List.getElem_cons_zero, List.getElem_cons_succ]
  refine' wpAnyH_take (i := 5) (v := _) rfl (by kernel_rfl) (by kernel_rfl) (by kernel_rfl) (fun _ _ _ h => h) (yieldsIf_load_mid (by rfl) 37 _ rfl bB 0 rfl (bcl b) _ (fun W hS => hS.2) Try.underlying37 rfl (by kernel_rfl)) (by assumption) ?_
  try simp only [Act.put, List.setIfInBounds_toArray, List.set_cons_zero, List.set_cons_succ, List.getElem_toArray, List.getElem_cons_zero, List.getElem_cons_succ]
  refine wpAnyH_take (i := 6) (v := ?_) rfl (by kernel_rfl) (by kernel_rfl) (by kernel_rfl) (fun _ _ _ h => h) (Or.inl ⟨by rfl, ?_⟩) (by assumption) ?_
  rotate_left
  · (intro W hSw; (try dsimp only at hSw); go_simp <;> with_reducible rfl)
  try simp only [Act.put, List.setIfInBounds_toArray, List.set_cons_zero, List.set_cons_succ, List.getElem_toArray, List.getElem_cons_zero, List.getElem_cons_succ]
  refine wpAnyH_take (i := 7) (v := ?_) rfl (by kernel_rfl) (by kernel_rfl) (by kernel_rfl) (fun _ _ _ h => h) (Or.inl ⟨by rfl, ?_⟩) (by assumption) ?_
  rotate_left
  · (intro W hSw; (try dsimp only at hSw); go_simp <;> with_reducible rfl)
  try simp only [Act.put, List.setIfInBounds_toArray, List.set_cons_zero, List.set_cons_succ, List.getElem_toArray, List.getElem_cons_zero, List.getElem_cons_succ]
  refine wpAnyH_ready (rs := [8]) (by kernel_rfl) (by simp) ?_
  refine AllReadyH.cons rfl (fun K hK => ?_) AllReadyH.nil
  try simp only [Act.put, List.setIfInBounds_toArray, List.set_cons_zero, List.set_cons_succ, List.getElem_toArray, List.getElem_cons_zero, List.getElem_cons_succ]
  rw [if_pos (by rfl)]
  refine wp_store_mid 37 _ _ rfl g (i * 16 + 2) (bcl b).toArray rfl rfl ?_ (by kernel_rfl) (by simp [bcl, Value.oneCell']) ?_
  · exact TH.out
  rw [show wz.drew.setCells g (i * 16 + 2) (bcl b).toArray.toList = wq from HWQ.out]
  refine hK.out _ _ ?_ (fun hHeld => ?_)
  · (try dsimp only); (first | with_reducible exact HSH.out _ k0 | with_reducible exact HSH.out _ k1)
  clear hK K
  try simp only [Act.put, List.setIfInBounds_toArray, List.set_cons_zero, List.set_cons_succ, List.getElem_toArray, List.getElem_cons_zero, List.getElem_cons_succ]
  refine wpAnyH_done (by kernel_rfl) ?_ _
  clear m1
  obtain ⟨n1, c13, f13⟩ := N1.out
  have hk2 : Keeps (At g) wz (wq.setCell ⟨g, i * 16 + 13, Option.none⟩ (.int .i64 3)) := k1.set g _ (at_self g) _
  have hok1 : ({ τ with P := τ.P.set i { x with h := b, lasts := 3 } } : TM).Ok := HOK.out.setP i ((HOK.out.P x (List.mem_of_getElem? HX.out)).heard hb) τ.fl HOK.out.fl
  have CH := hid (rchoose_any HPP.out hok1 hv)
  have OK1 := hid hok1.choose
  have K1 := hid hk2
  clear hk2 k0 k1 hok1
  go_upto_region 5 with (fail)
  clear n1 c13 f13 N1
  generalize wq.setCell ⟨g, i * 16 + 13, Option.none⟩ (.int .i64 3) = wr at *
  go_wp2_with fail
  refine CH.out.mono ?_; rintro e w2 ⟨rfl, h2, k2⟩
  have hlen : (TM.choose { τ with P := τ.P.set i { x with h := b, lasts := 3 } }).P.length = τ.P.length := by rw [choose_len]; simp
  obtain ⟨τ1, h1⟩ : ∃ τ1, TM.choose { τ with P := τ.P.set i { x with h := b, lasts := 3 } } = τ1 := ⟨_, rfl⟩
  rw [h1] at h2 hlen
  have OK1' := OK1.out
  rw [h1] at OK1'
  have HOK1 := hid OK1'
  have H1 := hid h1
  obtain ⟨q, hq⟩ : ∃ q, τ1.P[i]? = some q := ⟨_, List.getElem?_eq_getElem (by omega)⟩
  have hi1 : i < τ1.P.length := by omega
  have hn1 : τ1.P.length ≤ 8 := by omega
  have RO := hid (rrole_any h2 hq (by omega))
  have hb2 : w2.heap[bB]? = some (.cells #[.int .u64 b.r, .int .u32 b.c, .int .u64 b.b, .int .u8 b.p, .int .u8 b.hops, .int .u64 b.ver, .int .u8 b.role, .bool b.prop, .bool b.agree, .bool b.top, .int .u64 b.echo] 37 (0, 0)) := (k2.block bB (Nat.lt_of_lt_of_le (lt_of_block HB.out) K1.out.size) (fun e => by rcases e with e | e | e; exact HNB.out.1 e; exact HNB.out.2.1 e; exact HNB.out.2.2 e)).trans ((K1.out.block bB (lt_of_block HB.out) (fun e => HNB.out.2.1 e)).trans HB.out)
  have H2 := hid h2
  have K2 := hid ((KW.out.ofNil (S := Om m g f)).trans (K1.out.omG.trans k2))
  have HB2 := hid hb2
  have HQQ := hid hq
  have HLEN := hid hlen
  clear OK1' OK1 CH h1 h2 k2 hb2 hq hlen
  go_wp2_with fail
  refine RO.out.mono ?_; rintro e w3 ⟨rfl, k3⟩
  obtain ⟨ro, hro⟩ : ∃ ro, τ1.roleOf i q = ro := ⟨_, rfl⟩
  rw [hro]
  have HRO := hid hro
  have M3 := hid (H2.out.keepN k3)
  have K3 := hid (K2.out.thenNil k3)
  have hb3 := (k3.block bB (lt_of_block HB2.out) (fun e => e)).trans HB2.out
  have HB3 := hid hb3
  obtain ⟨d0, d1, d2, d3, d4, d5, d6, d7, d8, d9, d10⟩ := blk11 hb3
  obtain ⟨⟨_, _, _, _, _, _, n6, _⟩, _⟩ := M3.out.cells
  clear hro hb3 k3
  go_upto_region 7 with (fail)
  go_cut [56] (fun s56 wx => s56 = .bool (decide (ro = 2) && (b.agree && decide (b.echo = τ1.ver))) ∧ ∃ n, wx = w3.drewN n)
  case first =>
      by_cases c1 : ro = 2
      · have e1 : (ro == 2) = true := by simp [c1]
        cases ha : b.agree with
        | false =>
          rw [ha] at d8
          have HA := hid ha
          have HC := hid c1
          clear ha c1
          go_quiet (fail)
          go_wp2_with fail
          go_meet
          exact ⟨by simp [HC.out, HA.out], _, rfl⟩
        | true =>
          rw [ha] at d8
          have HA := hid ha
          have HC := hid c1
          clear ha c1
          by_cases c2 : b.echo = τ1.ver
          · have e2 : (b.echo == τ1.ver) = true := by simp [c2]
            have HC2 := hid c2
            clear c2
            go_quiet (fail)
            go_wp2_with fail
            go_meet
            exact ⟨by simp [HC.out, HA.out, HC2.out], _, rfl⟩
          · have e2 : (b.echo == τ1.ver) = false := by simp [c2]
            have HC2 := hid c2
            clear c2
            go_quiet (fail)
            go_wp2_with fail
            go_meet
            exact ⟨by simp [HC.out, HA.out, HC2.out], _, rfl⟩
      · have e1 : (ro == 2) = false := by simp [c1]
        have HC := hid c1
        clear c1
        go_quiet (fail)
        go_wp2_with fail
        go_meet
        exact ⟨by simp [HC.out], _, rfl⟩
  case rest =>
    obtain ⟨rfl, nd, rfl⟩ := hcut
    go_upto_if 56 with (fail)
    have M4 := hid (M3.out.drewN nd)
    have HB4 : Hid ((w3.drewN nd).heap[bB]? = some (.cells #[.int .u64 b.r, .int .u32 b.c, .int .u64 b.b, .int .u8 b.p, .int .u8 b.hops, .int .u64 b.ver, .int .u8 b.role, .bool b.prop, .bool b.agree, .bool b.top, .int .u64 b.echo] 37 (0, 0))) := hid HB3.out
    have K4 := hid (K3.out.thenNil (Keeps.drewN _ nd))
    clear d0 d1 d2 d3 d4 d5 d6 d7 d8 d9 d10 n6
    generalize w3.drewN nd = w4 at *
    go_cut [] (fun wx => ∃ W : World, W = wx ∧ Hid (RMach W m g c f (τ1.agreeAt i q b) ∧ W.heap[bB]? = some (.cells #[.int .u64 b.r, .int .u32 b.c, .int .u64 b.b, .int .u8 b.p, .int .u8 b.hops, .int .u64 b.ver, .int .u8 b.role, .bool b.prop, .bool b.agree, .bool b.top, .int .u64 b.echo] 37 (0, 0)) ∧ Keeps (Om m g f) w W))
    case first =>
      cases hc : (decide (ro = 2) && (b.agree && decide (b.echo = τ1.ver))) with
      | true =>
        have hc' : ro = 2 ∧ b.agree = true ∧ b.echo = τ1.ver := by simpa using hc
        have HAG : Hid (τ1.agreeAt i q b = { τ1 with P := τ1.P.set i { q with ag := true } }) := by
          unfold TM.agreeAt
          rw [HRO.out, if_pos hc']
          exact hid rfl
        have hp := hid (M4.out.put (x' := { q with ag := true }) 14 (by omega) (v := .bool true) HQQ.out rfl)
        have c14 := (M4.out.row.read HQQ.out).2.2.2.2.2.2.2.2.2.2.2.2.2.2.1
        have f14 := M4.out.row.frozen (i * 16 + 14)
        have n1 := M4.out.cells.1.2.1
        have hle4 := M4.out.row.le
        clear hc hc'
        go_wp2_with fail
        go_meet
        have kg : Keeps (At g) w4 (w4.setCell ⟨g, i * 16 + 14, Option.none⟩ (.bool true)) := (Keeps.refl _ _).set g _ (at_self g) _
        exact ⟨_, rfl, hid ⟨by rw [HAG.out]; exact hp.out, (kg.block bB (lt_of_block HB4.out) (fun e => HNB.out.2.1 e)).trans HB4.out, K4.out.mG _ _⟩⟩
      | false =>
        have hc' : ¬ (ro = 2 ∧ b.agree = true ∧ b.echo = τ1.ver) := by intro h; simp [h.1, h.2.1, h.2.2] at hc
        have HAG : Hid (τ1.agreeAt i q b = τ1) := by
          unfold TM.agreeAt
          rw [HRO.out, if_neg hc']
          exact hid rfl
        clear hc hc'
        go_wp2_with fail
        go_meet
        exact ⟨_, rfl, hid ⟨by rw [HAG.out]; exact M4.out, HB4.out, K4.out⟩⟩
    case rest =>
      obtain ⟨w5, rfl, HC5⟩ := hcut
      obtain ⟨d0, d1, d2, d3, d4, d5, d6, d7, d8, d9, d10⟩ := blk11 HC5.out.2.1
      go_upto_region 9 with (fail)
      go_cut [83] (fun s83 wx => s83 = .bool (b.top && ((decide (ro = 1) && decide (b.role = 2)) || (decide (ro = 2) && decide (b.role = 1)))) ∧ wx = w5)
      case first =>
        cases ht : b.top with
        | false =>
          rw [ht] at d9
          have HT := hid ht
          clear ht
          go_wp2_with fail
          go_meet
          exact ⟨by simp [HT.out], rfl⟩
        | true =>
          rw [ht] at d9
          have HT := hid ht
          clear ht
          by_cases c1 : ro = 1
          · have e1 : (ro == 1) = true := by simp [c1]
            have e2 : (ro == 2) = false := by simp [c1]
            by_cases c2 : b.role = 2
            · have e3 : (b.role == 2) = true := by simp [c2]
              have e4 : (b.role == 1) = false := by simp [c2]
              have HA := hid (And.intro c1 c2)
              clear c1 c2
              go_wp2_with fail
              go_meet
              exact ⟨by simp [HT.out, HA.out.1, HA.out.2], rfl⟩
            · have e3 : (b.role == 2) = false := by simp [c2]
              have HA := hid (And.intro c1 c2)
              clear c1 c2
              go_wp2_with fail
              go_meet
              exact ⟨by simp [HT.out, HA.out.1, HA.out.2], rfl⟩
          · have e1 : (ro == 1) = false := by simp [c1]
            by_cases c3 : ro = 2
            · have e2 : (ro == 2) = true := by simp [c3]
              by_cases c2 : b.role = 1
              · have e4 : (b.role == 1) = true := by simp [c2]
                have HA := hid (And.intro c3 c2)
                clear c1 c2 c3
                go_wp2_with fail
                go_meet
                exact ⟨by simp [HT.out, HA.out.1, HA.out.2], rfl⟩
              · have e4 : (b.role == 1) = false := by simp [c2]
                have HA := hid (And.intro c3 c2)
                clear c1 c2 c3
                go_wp2_with fail
                go_meet
                exact ⟨by simp [HT.out, HA.out.1, HA.out.2], rfl⟩
            · have e2 : (ro == 2) = false := by simp [c3]
              have HA := hid (And.intro c1 c3)
              clear c1 c3
              go_wp2_with fail
              go_meet
              exact ⟨by simp [HT.out, HA.out.1, HA.out.2], rfl⟩

      case rest =>
        obtain ⟨rfl, hw5⟩ := hcut
        have hw5 := hw5.symm
        subst hw5
        clear d0 d1 d2 d3 d4 d5 d6 d7 d8 d9 d10
        go_upto_if 83 with (fail)
        obtain ⟨τ2, hτ2⟩ : ∃ τ2, τ1.agreeAt i q b = τ2 := ⟨_, rfl⟩
        have hl2 : τ2.P.length = τ.P.length := by rw [← hτ2, agreeAt_len, HLEN.out]
        have hC6 := HC5.out
        rw [hτ2] at hC6
        have HT2 := hid hτ2
        have HC6 := hid hC6
        have HL2 := hid hl2
        have hn2 : τ2.P.length ≤ 8 := by omega
        have hi2 : i < τ2.P.length := by omega
        clear hτ2 hl2 hC6 HC5
        go_cut [] (fun wx => ∃ W : World, W = wx ∧ Hid (RMach W m g c f (τ2.changeAt i ro b) ∧ W.heap[bB]? = some (.cells #[.int .u64 b.r, .int .u32 b.c, .int .u64 b.b, .int .u8 b.p, .int .u8 b.hops, .int .u64 b.ver, .int .u8 b.role, .bool b.prop, .bool b.agree, .bool b.top, .int .u64 b.echo] 37 (0, 0)) ∧ Keeps (Om m g f) w W))
        case first =>
          cases hc : (b.top && ((decide (ro = 1) && decide (b.role = 2)) || (decide (ro = 2) && decide (b.role = 1)))) with
          | false =>
            have HCH : Hid (τ2.changeAt i ro b = τ2) := by
              unfold TM.changeAt
              rw [if_neg (by intro h; rcases h with ⟨h1, ⟨h2, h3⟩ | ⟨h2, h3⟩⟩ <;> simp [h1, h2, h3] at hc)]
              exact hid rfl
            clear hc
            go_wp2_with fail
            go_meet
            exact ⟨_, rfl, hid ⟨by rw [HCH.out]; exact HC6.out.1, HC6.out.2.1, HC6.out.2.2⟩⟩
          | true =>
            have HCH : Hid (τ2.changeAt i ro b = { τ2 with P := spreadBut i τ2.P, fl := orBut τ2.fl i τ2.P.length }) := by
              unfold TM.changeAt
              rw [if_pos (by simpa using hc)]
              exact hid rfl
            have HALL := hid (rbut_all HC6.out.1 hn2 (show i < 8 by omega))
            clear hc
            go_wp2_with fail
            go_loopw [8] (fun s8 wr => ∃ k : Nat, k ≤ τ2.P.length ∧ s8 = .int .i64 k ∧ Hid (RMach wr m g c f (τ2.rbut i k) ∧ wr.heap[bB]? = some (.cells #[.int .u64 b.r, .int .u32 b.c, .int .u64 b.b, .int .u8 b.p, .int .u8 b.hops, .int .u64 b.ver, .int .u8 b.role, .bool b.prop, .bool b.agree, .bool b.top, .int .u64 b.echo] 37 (0, 0)) ∧ Keeps (Om m g f) w wr)) (fun s8 _ => τ2.P.length - (intOf s8).toNat)
            case atStart => exact ⟨0, Nat.zero_le _, rfl, hid ⟨by rw [rbut_zero]; exact HC6.out.1, HC6.out.2.1, HC6.out.2.2⟩⟩
            case round =>
              obtain ⟨k, hk, rfl, HR⟩ := hrel
              have HRL := hid (rbut_len τ2 i hk)
              obtain ⟨⟨_, n1, _, _, _, _, _, n7⟩, _⟩ := HR.out.1.cells
              rw [HRL.out] at n1 n7
              by_cases hlt : k < τ2.P.length
              · obtain ⟨y, hy⟩ : ∃ y, τ2.P[k]? = some y := ⟨_, List.getElem?_eq_getElem hlt⟩
                have hkn : k < (τ2.rbut i k).P.length := by rw [HRL.out]; exact hlt
                have HY := hid hy
                have hle7 := HR.out.1.row.le
                rw [HRL.out] at hle7
                by_cases hki : k = i
                · subst hki
                  have e1 : ((k : Int) == (k : Int)) = true := by simp
                  clear hy
                  go_wp2_with fail
                  go_roundw
                  case rel => exact ⟨k + 1, by omega, by go_num, hid ⟨by rw [rbut_self τ2 HY.out]; exact HR.out.1, HR.out.2.1, HR.out.2.2⟩⟩
                  case measure => simp only [intOf]; omega
                · have e1 : ((k : Int) == (i : Int)) = false := by simp; omega
                  obtain ⟨⟨bf, hbf⟩, ffr⟩ := HR.out.1.bit hkn
                  have P2 := HR.out.1.flag hkn (by rw [HRL.out]; exact hn2)
                  have hu := rbut_get τ2 i hy
                  have kf : Keeps (At f) wr (wr.setCell ⟨f, k, Option.none⟩ (.bool true)) := (Keeps.refl _ _).set f _ (at_self f) _
                  have hb7 := (kf.block bB (lt_of_block HR.out.2.1) (fun e => HNB.out.2.2 e)).trans HR.out.2.1
                  have LK2 := hid (rlink_any P2 hu)
                  have c2 := P2.cells.1.2.1
                  have c2' : (wr.setCell ⟨f, k, Option.none⟩ (.bool true)).cell? ⟨m, 1, Option.none⟩ = some (.slice (some ⟨g, 0, Option.none⟩) τ2.P.length c) := by rw [c2]; simp [HRL.out]
                  have c15 := (P2.row.read hu).2.2.2.2.2.2.2.2.2.2.2.2.2.2.2
                  have f15 := P2.row.frozen (k * 16 + 15)
                  have C2 := hid (And.intro c2' (And.intro c15 f15))
                  have P2H := hid P2
                  have KF := hid (HR.out.2.2.mF k (.bool true))
                  have HB7 := hid hb7
                  have HU := hid hu
                  have HKI := hid hki
                  have hmf := HR.out.1.mf
                  clear hy P2 hu kf hb7 c2 c2' c15 f15 hki
                  go_upto_region 15 with (fail)
                  clear n1 n7 hbf ffr
                  generalize wr.setCell ⟨f, k, Option.none⟩ (.bool true) = wg at *
                  obtain ⟨n1, c15, f15⟩ := C2.out
                  cases hl : y.link with
                  | true =>
                    rw [hl] at LK2
                    by_cases hs0 : y.sp = 0
                    · have e2 : (y.sp == 0) = true := by simp [hs0]
                      have HON := hid (rbut_on τ2 HY.out HKI.out ⟨hl, hs0⟩)
                      clear hl hs0
                      go_wp2_with (go_at_call 38; refine LK2.out.mono ?_; rintro e w' ⟨rfl, rfl⟩)
                      go_roundw
                      case rel =>
                        refine ⟨k + 1, by omega, by go_num, hid ⟨?_, ?_, KF.out.mG (k * 16 + 15) (.int .i64 4)⟩⟩
                        · rw [HON.out]
                          exact P2H.out.put (x' := { y with sp := 4 }) 15 (by omega) (v := .int .i64 4) HU.out rfl
                        · exact ((((Keeps.refl (At g) _).set g (k * 16 + 15) (at_self g) (.int .i64 4))).block bB (lt_of_block HB7.out) (fun e => HNB.out.2.1 e)).trans HB7.out
                      case measure => simp only [intOf]; omega
                    · have e2 : (y.sp == 0) = false := by simp [hs0]
                      have HOFF := hid (rbut_off τ2 HY.out HKI.out (fun h => hs0 h.2))
                      clear hl hs0
                      go_wp2_with (go_at_call 38; refine LK2.out.mono ?_; rintro e w' ⟨rfl, rfl⟩)
                      go_roundw
                      case rel => exact ⟨k + 1, by omega, by go_num, hid ⟨by rw [HOFF.out]; exact P2H.out, HB7.out, KF.out⟩⟩
                      case measure => simp only [intOf]; omega
                  | false =>
                    rw [hl] at LK2
                    have HOFF := hid (rbut_off τ2 HY.out HKI.out (fun h => by rw [hl] at h; exact absurd h.1 (by simp)))
                    clear hl
                    go_wp2_with (go_at_call 38; refine LK2.out.mono ?_; rintro e w' ⟨rfl, rfl⟩)
                    go_roundw
                    case rel => exact ⟨k + 1, by omega, by go_num, hid ⟨by rw [HOFF.out]; exact P2H.out, HB7.out, KF.out⟩⟩
                    case measure => simp only [intOf]; omega
              · obtain rfl : k = τ2.P.length := by omega
                have hr := HR.out.1
                rw [HALL.out] at hr
                have HRR := hid hr
                clear hr
                go_wp2_with fail
                go_meet
                exact ⟨_, rfl, hid ⟨by rw [HCH.out]; exact HRR.out, HR.out.2.1, HR.out.2.2⟩⟩
        case rest =>
          obtain ⟨w9, rfl, HC9⟩ := hcut
          obtain ⟨τ3, hτ3⟩ : ∃ τ3, τ2.changeAt i ro b = τ3 := ⟨_, rfl⟩
          have hl3 : τ3.P.length = τ.P.length := by rw [← hτ3, changeAt_len, HL2.out]
          have hC := HC9.out
          rw [hτ3] at hC
          obtain ⟨q3, hq3⟩ : ∃ q3, τ3.P[i]? = some q3 := ⟨_, List.getElem?_eq_getElem (by omega)⟩
          have HHR : Hid (τ.hear i b = (τ3, if b.prop = true ∧ ro = 1 then [((i : Int), τ3.word i q3)] else [])) := by
            refine hid ?_
            unfold TM.hear
            rw [HX.out]
            simp only
            rw [if_pos HL.out]
            have e1 : τ.heard i x b = τ1 := H1.out
            simp only [e1, HQQ.out, HRO.out, HT2.out, hτ3, hq3, Option.getD_some]
          have WD := hid (rword_any hC.1 hq3 (by omega))
          have HC := hid hC
          obtain ⟨d0, d1, d2, d3, d4, d5, d6, d7, d8, d9, d10⟩ := blk11 hC.2.1
          have hw8 := u8i i (by omega)
          clear hC hτ3 hl3 hq3 HC9
          cases hp : b.prop with
          | false =>
            rw [hp] at d7
            have HP := hid hp
            clear hp
            go_wp2_with fail
            go_ret
            exact ⟨_, _, _, rfl, by rw [HHR.out, if_neg (by rw [HP.out]; simp)]; exact WV.nil _ _ _ _ _, by rw [HHR.out]; exact HC.out.1, HC.out.2.2⟩
          | true =>
            rw [hp] at d7
            have HP := hid hp
            clear hp
            by_cases c1 : ro = 1
            · have e1 : (ro == 1) = true := by simp [c1]
              have HR1 := hid c1
              clear c1
              go_wp2_with fail
              refine WD.out.mono ?_; rintro e w10 ⟨rfl, k10⟩
              go_wp2_with fail
              go_ret
              refine ⟨_, _, _, rfl, ?_, ?_, ?_⟩
              · rw [HHR.out, if_pos ⟨HP.out, HR1.out⟩]
                have e2 : flatS [((i : Int), τ3.word i q3)] = (scells (i : Int) (τ3.word i q3)).toList := by simp [flatS]
                rw [e2]
                exact WV.new_ge (cs := scells (i : Int) (τ3.word i q3)) rfl (Nat.le_trans HC.out.2.2.size k10.size)
              · rw [HHR.out]
                exact (HC.out.1.keepN k10).alloc _
              · exact (HC.out.2.2.thenNil k10).alloc _
            · have e1 : (ro == 1) = false := by simp [c1]
              have HR1 := hid c1
              clear c1
              go_wp2_with fail
              go_ret
              exact ⟨_, _, _, rfl, by rw [HHR.out, if_neg (by rw [HP.out]; simp [HR1.out])]; exact WV.nil _ _ _ _ _, by rw [HHR.out]; exact HC.out.1, HC.out.2.2⟩
end Go.Proofs.Ytbbodecdijankaa
