/-
  Layer 9: a port hears: where there is none, or none that is a link's; what is laid down. Conditions: the machine lies so.
-/
import Derived.Test.YtbbodecdijankaaChoose
import Derived.Test.YtbbodecdijankaaNils
import Derived.Test.YtbbodecdijankaaOk
import Derived.Test.YtbbodecdijankaaBut
import Derived.BigGuard
namespace Go.Proofs.Ytbbodecdijankaa
open Go.RowKit
set_option linter.unusedVariables false
set_option linter.unusedSimpArgs false
set_option maxRecDepth 4000

set_option maxHeartbeats 1000000 in
theorem hear_far {w : World} {m g c i : Nat} {τ : TM} (b : Bp) (h : Mach w m g c τ) (hi : τ.P.length ≤ i) (h8 : i < 256) :
    Calls Try.prog 18 #[.pointer (some ⟨m, 0, Option.none⟩), .int .u8 (i : Int), bval b] w fun e w' => e = .returned (.slice Option.none 0 0) ∧ Keeps Nil w w' := by
  have AT := hid (at_none (h.alloc (.cells #[.int .u64 b.r, .int .u32 b.c, .int .u64 b.b, .int .u8 b.p, .int .u8 b.hops, .int .u64 b.ver, .int .u8 b.role, .bool b.prop, .bool b.agree, .bool b.top, .int .u64 b.echo] 54 (0, 0))) hi h8)
  clear h
  go_enter Try.func18, Try.ntmps18
  go_wp2_with ((first | (go_at_call 40; refine AT.out.mono ?_; rintro e w' ⟨rfl, rfl⟩) | (go_at_call 36; refine (link_nil _).mono ?_; rintro e w' ⟨rfl, rfl⟩)))
  go_ret
  exact ⟨rfl, by repeat' (first | exact Keeps.refl _ _ | refine Keeps.alloc ?_ _)⟩
set_option maxHeartbeats 1000000 in
theorem hear_off {w : World} {m g c i : Nat} {τ : TM} {x : Pt} (b : Bp) (h : Mach w m g c τ) (hx : τ.P[i]? = some x) (hl : x.link = false) :
    Calls Try.prog 18 #[.pointer (some ⟨m, 0, Option.none⟩), .int .u8 (i : Int), bval b] w fun e w' => e = .returned (.slice Option.none 0 0) ∧ Keeps Nil w w' := by
  have hi := (List.getElem?_eq_some_iff.1 hx).1
  have AT := hid (at_some (h.alloc (.cells #[.int .u64 b.r, .int .u32 b.c, .int .u64 b.b, .int .u8 b.p, .int .u8 b.hops, .int .u64 b.ver, .int .u8 b.role, .bool b.prop, .bool b.agree, .bool b.top, .int .u64 b.echo] 54 (0, 0))) hi)
  have LK := fun (W : World) (k : Keeps Nil w W) => link_any (h.keepN k).row hx
  rw [hl] at LK
  have LKH := hid LK
  clear h hx hl LK
  go_enter Try.func18, Try.ntmps18
  go_wp2_with ((first | (go_at_call 40; refine AT.out.mono ?_; rintro e w' ⟨rfl, rfl⟩) | (go_at_call 36; refine (LKH.out _ (((Keeps.refl _ _).alloc _).alloc _)).mono ?_; rintro e w' ⟨rfl, rfl⟩)))
  go_ret
  exact ⟨rfl, by repeat' (first | exact Keeps.refl _ _ | refine Keeps.alloc ?_ _)⟩
/-- The words that are sent, as cells. -/
def flatS (L : List (Int × Bp)) : List Value := L.flatMap (fun x => (scells x.1 x.2).toList)
theorem flatS_len (L : List (Int × Bp)) : (flatS L).length = L.length * 12 := by
  induction L with
  | nil => rfl
  | cons x L ih => simp only [flatS, List.flatMap_cons, List.length_append] at ih ⊢; rw [ih, List.length_cons]; simp; omega
/-- What is answered, and what became of the machine. -/
def HearIs (m g c : Nat) (x : TM × List (Int × Bp)) (w : World) (e : Ending) (w' : World) : Prop :=
  ∃ p n cap, e = .returned (.slice p n cap) ∧ WV w' w.heap.size 12 p n cap (flatS x.2) ∧ Mach w' m g c x.1 ∧ Keeps (Of m g) w w'
theorem WV.new_ge {w : World} {cs : Array Value} {T : TypeId} {sz B : Nat} (hs : cs.size = sz) (hB : B ≤ w.heap.size) : WV (w.alloc (.cells cs T (0, 0))) B sz (some ⟨w.heap.size, 0, Option.none⟩) 1 1 cs.toList := by
  obtain ⟨h1, h2, h3⟩ := WV.new w cs T sz hs
  refine ⟨h1, h2, fun hn => ?_⟩
  obtain ⟨g, off, e, _, hl, hc⟩ := h3 hn
  have e' := e
  injection e' with e'
  injection e' with e'
  subst e'
  exact ⟨_, _, e, hB, hl, hc⟩
theorem agreeAt_len (τ : TM) (i : Nat) (p : Pt) (b : Bp) : (τ.agreeAt i p b).P.length = τ.P.length := by unfold TM.agreeAt; split <;> simp
theorem spreadBut_len (i : Nat) (P : List Pt) : (spreadBut i P).length = P.length := by simp [spreadBut]
theorem changeAt_len (τ : TM) (i : Nat) (r : Int) (b : Bp) : (τ.changeAt i r b).P.length = τ.P.length := by unfold TM.changeAt; split <;> simp [spreadBut_len]
theorem TM.Ok.agreeAt {τ : TM} (h : τ.Ok) (i : Nat) {p : Pt} (hp : p.Ok) (b : Bp) : (τ.agreeAt i p b).Ok := by
  unfold TM.agreeAt
  split
  · exact h.setP i (hp.ag true) τ.fl h.fl
  · exact h
theorem TM.Ok.changeAt {τ : TM} (h : τ.Ok) (i : Nat) (r : Int) (b : Bp) : (τ.changeAt i r b).Ok := by
  unfold TM.changeAt
  split
  · refine ⟨h.id, by simpa [spreadBut_len] using h.n, fun p hp => ?_, h.root, h.cost, h.port, h.hops, h.ver, orBut_range _ _ _⟩
    simp only [spreadBut, List.mem_mapIdx] at hp
    obtain ⟨k, hk, rfl⟩ := hp
    split
    · exact (h.P _ (List.getElem_mem _)).spread
    · exact h.P _ (List.getElem_mem _)
  · exact h
theorem hear_ok {τ : TM} (h : τ.Ok) {b : Bp} (hb : b.Ok) {i : Nat} : (τ.hear i b).1.Ok := by
  unfold TM.hear
  split
  · rename_i p hp
    split
    · have h1 : (τ.heard i p b).Ok := (h.setP i ((h.P p (List.mem_of_getElem? hp)).heard hb) τ.fl h.fl).choose
      dsimp only
      split
      · rename_i q hq
        exact (h1.agreeAt i (h1.P q (List.mem_of_getElem? hq)) b).changeAt i _ b
      · exact h1
    · exact h
  · exact h
theorem wrap_pow {n : Nat} (h0 : 0 < n) (h8 : n ≤ 8) : IntKind.u8.wrap ((2 : Int) ^ n % 256 - 1) = 2 ^ n - 1 := by
  have key : ∀ a : Fin 9, 0 < a.val → IntKind.u8.wrap ((2 : Int) ^ a.val % 256 - 1) = 2 ^ a.val - 1 := by decide
  exact key ⟨n, by omega⟩ h0
set_option maxHeartbeats 8000000 in
theorem hear_on {w : World} {m g c i : Nat} {τ : TM} {x : Pt} (b : Bp) (h : Mach w m g c τ) (hx : τ.P[i]? = some x) (hl : x.link = true) (hok : τ.Ok) (hb : b.Ok) (hv : τ.ver < 9223372036854775807) :
    Calls Try.prog 18 #[.pointer (some ⟨m, 0, Option.none⟩), .int .u8 (i : Int), bval b] w (HearIs m g c (τ.hear i b) w) := by
  have hi := (List.getElem?_eq_some_iff.1 hx).1
  have AT := hid (at_some (h.alloc (.cells #[.int .u64 b.r, .int .u32 b.c, .int .u64 b.b, .int .u8 b.p, .int .u8 b.hops, .int .u64 b.ver, .int .u8 b.role, .bool b.prop, .bool b.agree, .bool b.top, .int .u64 b.echo] 54 (0, 0))) hi)
  have LK := fun (W : World) (k : Keeps Nil w W) => link_any (h.keepN k).row hx
  rw [hl] at LK
  have LKH := hid LK
  have HM := hid h
  have HX := hid hx
  have HL := hid hl
  have HOK := hid hok
  clear h hx hl LK hok
  go_enter Try.func18, Try.ntmps18
  go_upto_region 4 with ((first | (go_at_call 40; refine AT.out.mono ?_; rintro e w' ⟨rfl, rfl⟩) | (go_at_call 36; refine (LKH.out _ (((Keeps.refl _ _).alloc _).alloc _)).mono ?_; rintro e w' ⟨rfl, rfl⟩)))
  obtain ⟨hB, hQ⟩ := two_allocs w (.cells #[.int .u64 b.r, .int .u32 b.c, .int .u64 b.b, .int .u8 b.p, .int .u8 b.hops, .int .u64 b.ver, .int .u8 b.role, .bool b.prop, .bool b.agree, .bool b.top, .int .u64 b.echo] 54 (0, 0)) (.cells #[.pointer (some ⟨g, i * 16, Option.none⟩)] 94 (0, 0))
  have kW : Keeps Nil w ((w.alloc (.cells #[.int .u64 b.r, .int .u32 b.c, .int .u64 b.b, .int .u8 b.p, .int .u8 b.hops, .int .u64 b.ver, .int .u8 b.role, .bool b.prop, .bool b.agree, .bool b.top, .int .u64 b.echo] 54 (0, 0))).alloc (.cells #[.pointer (some ⟨g, i * 16, Option.none⟩)] 94 (0, 0))) := ((Keeps.refl _ _).alloc _).alloc _
  generalize (w.alloc (.cells #[.int .u64 b.r, .int .u32 b.c, .int .u64 b.b, .int .u8 b.p, .int .u8 b.hops, .int .u64 b.ver, .int .u8 b.role, .bool b.prop, .bool b.agree, .bool b.top, .int .u64 b.echo] 54 (0, 0))).alloc (.cells #[.pointer (some ⟨g, i * 16, Option.none⟩)] 94 (0, 0)) = wz at *
  obtain ⟨bB, e1⟩ : ∃ bB, w.heap.size = bB := ⟨_, rfl⟩
  rw [e1] at hB hQ ⊢
  obtain ⟨bQ, e2⟩ : ∃ bQ, bB + 1 = bQ := ⟨_, rfl⟩
  rw [e2] at hQ ⊢
  have HE := hid (And.intro e1 e2)
  have HB := hid hB
  have HQ := hid hQ
  have KW := hid kW
  have MZ := hid (HM.out.keepN kW)
  clear e1 e2 hB hQ kW
  have HS : ∀ W, Keeps (At g) wz W → (W.cell? ⟨bQ, 0, Option.none⟩ = some (.pointer (some ⟨g, i * 16, Option.none⟩)) ∧ W.rangeAt bB 0 (bcl b)) := fun W k => by
    have hgl := HM.out.lt.2
    have h1 := (k.block bQ (lt_of_block HQ.out) (fun e => by rw [At] at e; have := HE.out; omega)).trans HQ.out
    have h2 := (k.block bB (lt_of_block HB.out) (fun e => by rw [At] at e; have := HE.out; omega)).trans HB.out
    exact ⟨by simp [World.cell?, h1], range_block0 h2 (bcl b) (by intro j v hv; simpa [bcl] using hv)⟩
  have HSH := hid HS
  clear HS
  go_cut [] (fun wx => Hid (Mach wx m g c { τ with P := τ.P.set i { x with h := b, lasts := 3 } } ∧ Keeps (At g) wz wx))
  case first =>
    have k0 : Keeps (At g) wz wz.drew := (Keeps.refl _ _).drew
    obtain ⟨hp, kp⟩ := MZ.out.drew.putRange (x' := { x with h := b }) 2 (bcl b) (by simp [bcl_len]) HX.out (fun q hq => by
      obtain rfl | rfl | rfl | rfl | rfl | rfl | rfl | rfl | rfl | rfl | rfl | rfl | rfl | rfl | rfl | rfl : q = 0 ∨ q = 1 ∨ q = 2 ∨ q = 3 ∨ q = 4 ∨ q = 5 ∨ q = 6 ∨ q = 7 ∨ q = 8 ∨ q = 9 ∨ q = 10 ∨ q = 11 ∨ q = 12 ∨ q = 13 ∨ q = 14 ∨ q = 15 := by omega
      all_goals rfl)
    have k1 : Keeps (At g) wz (wz.drew.setCells g (i * 16 + 2) (bcl b)) := k0.trans kp
    have TH := hid (MZ.out.drew.row.there hi 2 11 (by omega))
    have hx1 : (τ.P.set i { x with h := b })[i]? = some { x with h := b } := by rw [List.getElem?_set]; simp [hi]
    have hpp := hp.put (x' := { x with h := b, lasts := 3 }) 13 (by omega) (v := .int .i64 3) hx1 rfl
    simp only [List.set_set] at hpp
    have c13 := (hp.row.read hx1).2.2.2.2.2.2.2.2.2.2.2.2.2.1
    have f13 := hp.row.frozen (i * 16 + 13)
    have HPP := hid hpp
    clear hp hpp kp hx1
    generalize hwq : wz.drew.setCells g (i * 16 + 2) (bcl b) = wq at *
    have HWQ := hid hwq
    clear hwq
    refine wp_region_held_drew (S := (fun W : World => W.cell? ⟨bQ, 0, Option.none⟩ = some (.pointer (some ⟨g, i * 16, Option.none⟩)) ∧ W.rangeAt bB 0 (bcl b))) (by kernel_rfl) ?_ (fun hHeld => ?_)
    · (try dsimp only); (first | with_reducible exact HSH.out _ k0 | with_reducible exact HSH.out _ k1 | with_reducible exact HSH.out _ (k1.set g _ (at_self g) _))
    refine wpAnyH_take (i := 0) (v := ?_) rfl (by kernel_rfl) (by kernel_rfl) (by kernel_rfl) (fun _ _ _ h => h) (Or.inl ⟨by rfl, ?_⟩) (by assumption) ?_
    rotate_left
    · (intro W hSw; (try dsimp only at hSw); go_simp <;> with_reducible rfl)
    try simp only [Act.put, List.setIfInBounds_toArray, List.set_cons_zero, List.set_cons_succ, List.getElem_toArray, List.getElem_cons_zero, List.getElem_cons_succ]
    refine wpAnyH_take (i := 1) (v := ?_) rfl (by kernel_rfl) (by kernel_rfl) (by kernel_rfl) (fun _ _ _ h => h) (Or.inl ⟨by rfl, ?_⟩) (by assumption) ?_
    rotate_left
    · (intro W hSw; (try dsimp only at hSw); go_simp <;> with_reducible rfl)
    try simp only [Act.put, List.setIfInBounds_toArray, List.set_cons_zero, List.set_cons_succ, List.getElem_toArray, List.getElem_cons_zero, List.getElem_cons_succ]
    refine' wpAnyH_take (i := 2) (v := _) rfl (by kernel_rfl) (by kernel_rfl) (by kernel_rfl) (fun _ _ _ h => h) (yieldsIf_load_mid (by rfl) 54 _ rfl bB 0 rfl (bcl b) _ (fun W hS => hS.2) Try.underlying54 rfl (by kernel_rfl)) (by assumption) ?_
    try simp only [Act.put, List.setIfInBounds_toArray, List.set_cons_zero, List.set_cons_succ, List.getElem_toArray, List.getElem_cons_zero, List.getElem_cons_succ]
    refine wpAnyH_take (i := 3) (v := ?_) rfl (by kernel_rfl) (by kernel_rfl) (by kernel_rfl) (fun _ _ _ h => h) (Or.inl ⟨by rfl, ?_⟩) (by assumption) ?_
    rotate_left
    · (intro W hSw; (try dsimp only at hSw); go_simp <;> with_reducible rfl)
    try simp only [Act.put, List.setIfInBounds_toArray, List.set_cons_zero, List.set_cons_succ, List.getElem_toArray, List.getElem_cons_zero, List.getElem_cons_succ]
    refine wpAnyH_take (i := 4) (v := ?_) rfl (by kernel_rfl) (by kernel_rfl) (by kernel_rfl) (fun _ _ _ h => h) (Or.inl ⟨by rfl, ?_⟩) (by assumption) ?_
    rotate_left
    · (intro W hSw; (try dsimp only at hSw); go_simp <;> with_reducible rfl)
    try simp only [Act.put, List.setIfInBounds_toArray, List.set_cons_zero, List.set_cons_succ, List.getElem_toArray, List.getElem_cons_zero, List.getElem_cons_succ]
    refine wpAnyH_ready (rs := [5]) (by kernel_rfl) (by simp) ?_
    refine AllReadyH.cons rfl (fun K hK => ?_) AllReadyH.nil
    try simp only [Act.put, List.setIfInBounds_toArray, List.set_cons_zero, List.set_cons_succ, List.getElem_toArray, List.getElem_cons_zero, List.getElem_cons_succ]
    rw [if_pos (by rfl)]
    refine wp_store_mid 54 _ _ rfl g (i * 16 + 2) (bcl b).toArray rfl rfl ?_ (by kernel_rfl) (by simp [bcl, Value.oneCell']) ?_
    · exact TH.out
    rw [show wz.drew.setCells g (i * 16 + 2) (bcl b).toArray.toList = wq from HWQ.out]
    refine hK.out _ _ ?_ (fun hHeld => ?_)
    · (try dsimp only); (first | with_reducible exact HSH.out _ k0 | with_reducible exact HSH.out _ k1 | with_reducible exact HSH.out _ (k1.set g _ (at_self g) _))
    clear hK K
    try simp only [Act.put, List.setIfInBounds_toArray, List.set_cons_zero, List.set_cons_succ, List.getElem_toArray, List.getElem_cons_zero, List.getElem_cons_succ]
    refine wpAnyH_take (i := 6) (v := ?_) rfl (by kernel_rfl) (by kernel_rfl) (by kernel_rfl) (fun _ _ _ h => h) (Or.inl ⟨by rfl, ?_⟩) (by assumption) ?_
    rotate_left
    · (intro W hSw; (try dsimp only at hSw); go_simp <;> with_reducible rfl)
    try simp only [Act.put, List.setIfInBounds_toArray, List.set_cons_zero, List.set_cons_succ, List.getElem_toArray, List.getElem_cons_zero, List.getElem_cons_succ]
    refine wpAnyH_take (i := 7) (v := ?_) rfl (by kernel_rfl) (by kernel_rfl) (by kernel_rfl) (fun _ _ _ h => h) (Or.inl ⟨by rfl, ?_⟩) (by assumption) ?_
    rotate_left
    · (intro W hSw; (try dsimp only at hSw); go_simp <;> with_reducible rfl)
    try simp only [Act.put, List.setIfInBounds_toArray, List.set_cons_zero, List.set_cons_succ, List.getElem_toArray, List.getElem_cons_zero, List.getElem_cons_succ]
    refine wpAnyH_ready (rs := [8]) (by kernel_rfl) (by simp) ?_
    refine AllReadyH.cons rfl (fun K hK => ?_) AllReadyH.nil
    try simp only [Act.put, List.setIfInBounds_toArray, List.set_cons_zero, List.set_cons_succ, List.getElem_toArray, List.getElem_cons_zero, List.getElem_cons_succ]
    go_simp
    refine hK.out _ _ ?_ (fun hHeld => ?_)
    · (try dsimp only); (first | with_reducible exact HSH.out _ k0 | with_reducible exact HSH.out _ k1 | with_reducible exact HSH.out _ (k1.set g _ (at_self g) _))
    clear hK K
    try simp only [Act.put, List.setIfInBounds_toArray, List.set_cons_zero, List.set_cons_succ, List.getElem_toArray, List.getElem_cons_zero, List.getElem_cons_succ]
    refine wpAnyH_done (by kernel_rfl) ?_ _
    go_wp2_with fail
    go_meet
    exact hid ⟨HPP.out, k1.set g _ (at_self g) _⟩
  case rest =>
    obtain ⟨hm1, hk1⟩ := hcut.out
    have hok1 : ({ τ with P := τ.P.set i { x with h := b, lasts := 3 } } : TM).Ok := HOK.out.setP i ((HOK.out.P x (List.mem_of_getElem? HX.out)).heard hb) τ.fl HOK.out.fl
    have CH := hid (choose_any hm1 hok1 hv)
    have OK1 := hid hok1.choose
    have K1 := hid hk1
    clear hm1 hk1 hok1 hcut
    go_upto_region 5 with (fail)
    go_wp2_with fail
    refine CH.out.mono ?_; rintro e w2 ⟨rfl, h2, k2⟩
    have hlen : (TM.choose { τ with P := τ.P.set i { x with h := b, lasts := 3 } }).P.length = τ.P.length := by rw [choose_len]; simp
    obtain ⟨τ1, h1⟩ : ∃ τ1, TM.choose { τ with P := τ.P.set i { x with h := b, lasts := 3 } } = τ1 := ⟨_, rfl⟩
    rw [h1] at h2 hlen
    have OK1' := OK1.out
    rw [h1] at OK1'
    have HOK1 := hid OK1'
    have H1 := hid h1
    obtain ⟨q, hq⟩ : ∃ q, τ1.P[i]? = some q := ⟨_, List.getElem?_eq_getElem (by omega)⟩
    have RO := hid (role_any h2 hq (by have := HOK.out.n; omega))
    have hb2 : w2.heap[bB]? = some (.cells #[.int .u64 b.r, .int .u32 b.c, .int .u64 b.b, .int .u8 b.p, .int .u8 b.hops, .int .u64 b.ver, .int .u8 b.role, .bool b.prop, .bool b.agree, .bool b.top, .int .u64 b.echo] 54 (0, 0)) := (k2.block bB (Nat.lt_of_lt_of_le (lt_of_block HB.out) K1.out.size) (fun e => by have := HM.out.lt; have := HE.out; unfold Of at e; omega)).trans ((K1.out.block bB (lt_of_block HB.out) (fun e => by rw [At] at e; have := HM.out.lt; have := HE.out; omega)).trans HB.out)
    have hQ2 : w2.heap[bQ]? = some (.cells #[.pointer (some ⟨g, i * 16, Option.none⟩)] 94 (0, 0)) := (k2.block bQ (Nat.lt_of_lt_of_le (lt_of_block HQ.out) K1.out.size) (fun e => by have := HM.out.lt; have := HE.out; unfold Of at e; omega)).trans ((K1.out.block bQ (lt_of_block HQ.out) (fun e => by rw [At] at e; have := HM.out.lt; have := HE.out; omega)).trans HQ.out)
    have H2 := hid h2
    have K2 := hid ((KW.out.ofNil (S := Of m g)).trans (K1.out.ofG.trans k2))
    have HB2 := hid hb2
    have HQ2 := hid hQ2
    have HQQ := hid hq
    clear OK1' OK1 CH h1 h2 k2 hb2 hQ2 hq
    go_wp2_with fail
    refine RO.out.mono ?_; rintro e w3 ⟨rfl, k3⟩
    obtain ⟨ro, hro⟩ : ∃ ro, τ1.roleOf i q = ro := ⟨_, rfl⟩
    rw [hro]
    have HRO := hid hro
    have M3 := hid (H2.out.keepN k3)
    have K3 := hid (K2.out.thenNil k3)
    have hb3 := (k3.block bB (lt_of_block HB2.out) (fun e => e)).trans HB2.out
    have hQ3 := (k3.block bQ (lt_of_block HQ2.out) (fun e => e)).trans HQ2.out
    have HB3 := hid hb3
    have HQ3 := hid hQ3
    obtain ⟨d0, d1, d2, d3, d4, d5, d6, d7, d8, d9, d10⟩ := blk11 hb3
    obtain ⟨⟨_, _, _, _, _, _, n6, _⟩, _⟩ := M3.out.cells
    have q0 : w3.cell? ⟨bQ, 0, Option.none⟩ = some (.pointer (some ⟨g, i * 16, Option.none⟩)) := by simp [World.cell?, hQ3]
    clear hro hb3 hQ3 k3
    go_upto_region 7 with (fail)
    go_cut [41] (fun s41 wx => s41 = .bool (decide (ro = 2) && (b.agree && decide (b.echo = τ1.ver))) ∧ ∃ n, wx = w3.drewN n)
    case first =>
      by_cases c1 : ro = 2
      · have e1 : (ro == 2) = true := by simp [c1]
        cases ha : b.agree with
        | false =>
          rw [ha] at d8
          have HA := hid ha
          have HC := hid c1
          clear ha c1
          go_quiet (fail)
          go_wp2_with fail
          go_meet
          exact ⟨by simp [HC.out, HA.out], _, rfl⟩
        | true =>
          rw [ha] at d8
          have HA := hid ha
          have HC := hid c1
          clear ha c1
          by_cases c2 : b.echo = τ1.ver
          · have e2 : (b.echo == τ1.ver) = true := by simp [c2]
            have HC2 := hid c2
            clear c2
            go_quiet (fail)
            go_wp2_with fail
            go_meet
            exact ⟨by simp [HC.out, HA.out, HC2.out], _, rfl⟩
          · have e2 : (b.echo == τ1.ver) = false := by simp [c2]
            have HC2 := hid c2
            clear c2
            go_quiet (fail)
            go_wp2_with fail
            go_meet
            exact ⟨by simp [HC.out, HA.out, HC2.out], _, rfl⟩
      · have e1 : (ro == 2) = false := by simp [c1]
        have HC := hid c1
        clear c1
        go_quiet (fail)
        go_wp2_with fail
        go_meet
        exact ⟨by simp [HC.out], _, rfl⟩
    case rest =>
      obtain ⟨rfl, nd, rfl⟩ := hcut
      go_upto_if 41 with (fail)
      have M4 := hid (M3.out.drewN nd)
      have HB4 : Hid ((w3.drewN nd).heap[bB]? = some (.cells #[.int .u64 b.r, .int .u32 b.c, .int .u64 b.b, .int .u8 b.p, .int .u8 b.hops, .int .u64 b.ver, .int .u8 b.role, .bool b.prop, .bool b.agree, .bool b.top, .int .u64 b.echo] 54 (0, 0))) := hid HB3.out
      have HQ4 : Hid ((w3.drewN nd).heap[bQ]? = some (.cells #[.pointer (some ⟨g, i * 16, Option.none⟩)] 94 (0, 0))) := hid HQ3.out
      have K4 := hid (K3.out.thenNil (Keeps.drewN _ nd))
      have q4 : (w3.drewN nd).cell? ⟨bQ, 0, Option.none⟩ = some (.pointer (some ⟨g, i * 16, Option.none⟩)) := q0
      clear q0 d0 d1 d2 d3 d4 d5 d6 d7 d8 d9 d10 n6
      generalize w3.drewN nd = w4 at *
      go_cut [] (fun wx => ∃ W : World, W = wx ∧ Hid (Mach W m g c (τ1.agreeAt i q b) ∧ W.heap[bB]? = some (.cells #[.int .u64 b.r, .int .u32 b.c, .int .u64 b.b, .int .u8 b.p, .int .u8 b.hops, .int .u64 b.ver, .int .u8 b.role, .bool b.prop, .bool b.agree, .bool b.top, .int .u64 b.echo] 54 (0, 0)) ∧ W.heap[bQ]? = some (.cells #[.pointer (some ⟨g, i * 16, Option.none⟩)] 94 (0, 0)) ∧ Keeps (Of m g) w W))
      case first =>
        cases hc : (decide (ro = 2) && (b.agree && decide (b.echo = τ1.ver))) with
        | true =>
          have hc' : ro = 2 ∧ b.agree = true ∧ b.echo = τ1.ver := by simpa using hc
          have HAG : Hid (τ1.agreeAt i q b = { τ1 with P := τ1.P.set i { q with ag := true } }) := by
            unfold TM.agreeAt
            rw [HRO.out, if_pos hc']
            exact hid rfl
          have hp := hid (M4.out.put (x' := { q with ag := true }) 14 (by omega) (v := .bool true) HQQ.out rfl)
          obtain ⟨_, _, _, _, _, _, _, _, _, _, _, _, _, _, c14, _⟩ := M4.out.row.read HQQ.out
          have f14 := M4.out.row.frozen (i * 16 + 14)
          clear hc hc'
          go_wp2_with fail
          go_meet
          have kg : Keeps (At g) w4 (w4.setCell ⟨g, i * 16 + 14, Option.none⟩ (.bool true)) := (Keeps.refl _ _).set g _ (at_self g) _
          exact ⟨_, rfl, hid ⟨by rw [HAG.out]; exact hp.out, (kg.block bB (lt_of_block HB4.out) (fun e => by rw [At] at e; have := HM.out.lt; have := HE.out; omega)).trans HB4.out, (kg.block bQ (lt_of_block HQ4.out) (fun e => by rw [At] at e; have := HM.out.lt; have := HE.out; omega)).trans HQ4.out, K4.out.setG _ _⟩⟩
        | false =>
          have hc' : ¬ (ro = 2 ∧ b.agree = true ∧ b.echo = τ1.ver) := by intro h; simp [h.1, h.2.1, h.2.2] at hc
          have HAG : Hid (τ1.agreeAt i q b = τ1) := by
            unfold TM.agreeAt
            rw [HRO.out, if_neg hc']
            exact hid rfl
          clear hc hc'
          go_wp2_with fail
          go_meet
          exact ⟨_, rfl, hid ⟨by rw [HAG.out]; exact M4.out, HB4.out, HQ4.out, K4.out⟩⟩
      case rest =>
        obtain ⟨w5, rfl, HC5⟩ := hcut
        clear q4
        obtain ⟨d0, d1, d2, d3, d4, d5, d6, d7, d8, d9, d10⟩ := blk11 HC5.out.2.1
        go_upto_region 9 with (fail)
        go_cut [64] (fun s64 wx => s64 = .bool (b.top && ((decide (ro = 1) && decide (b.role = 2)) || (decide (ro = 2) && decide (b.role = 1)))) ∧ wx = w5)
        case first =>
          cases ht : b.top with
          | false =>
            rw [ht] at d9
            have HT := hid ht
            clear ht
            go_wp2_with fail
            go_meet
            exact ⟨by simp [HT.out], rfl⟩
          | true =>
            rw [ht] at d9
            have HT := hid ht
            clear ht
            by_cases c1 : ro = 1
            · have e1 : (ro == 1) = true := by simp [c1]
              have e2 : (ro == 2) = false := by simp [c1]
              by_cases c2 : b.role = 2
              · have e3 : (b.role == 2) = true := by simp [c2]
                have e4 : (b.role == 1) = false := by simp [c2]
                have HA := hid (And.intro c1 c2)
                clear c1 c2
                go_wp2_with fail
                go_meet
                exact ⟨by simp [HT.out, HA.out.1, HA.out.2], rfl⟩
              · have e3 : (b.role == 2) = false := by simp [c2]
                have HA := hid (And.intro c1 c2)
                clear c1 c2
                go_wp2_with fail
                go_meet
                exact ⟨by simp [HT.out, HA.out.1, HA.out.2], rfl⟩
            · have e1 : (ro == 1) = false := by simp [c1]
              by_cases c3 : ro = 2
              · have e2 : (ro == 2) = true := by simp [c3]
                by_cases c2 : b.role = 1
                · have e4 : (b.role == 1) = true := by simp [c2]
                  have HA := hid (And.intro c3 c2)
                  clear c1 c2 c3
                  go_wp2_with fail
                  go_meet
                  exact ⟨by simp [HT.out, HA.out.1, HA.out.2], rfl⟩
                · have e4 : (b.role == 1) = false := by simp [c2]
                  have HA := hid (And.intro c3 c2)
                  clear c1 c2 c3
                  go_wp2_with fail
                  go_meet
                  exact ⟨by simp [HT.out, HA.out.1, HA.out.2], rfl⟩
              · have e2 : (ro == 2) = false := by simp [c3]
                have HA := hid (And.intro c1 c3)
                clear c1 c3
                go_wp2_with fail
                go_meet
                exact ⟨by simp [HT.out, HA.out.1, HA.out.2], rfl⟩
        case rest =>
          obtain ⟨rfl, hw5⟩ := hcut
          have hw5 := hw5.symm
          subst hw5
          clear d0 d1 d2 d3 d4 d5 d6 d7 d8 d9 d10
          go_upto_if 64 with (fail)
          obtain ⟨τ2, hτ2⟩ : ∃ τ2, τ1.agreeAt i q b = τ2 := ⟨_, rfl⟩
          have hl2 : τ2.P.length = τ.P.length := by rw [← hτ2, agreeAt_len, hlen]
          have hC6 := HC5.out
          rw [hτ2] at hC6
          have HT2 := hid hτ2
          have HC6 := hid hC6
          clear hC6
          have HL2 := hid hl2
          clear hτ2 hl2 HC5
          go_cut [] (fun wx => ∃ W : World, W = wx ∧ Hid (Mach W m g c (τ2.changeAt i ro b) ∧ W.heap[bB]? = some (.cells #[.int .u64 b.r, .int .u32 b.c, .int .u64 b.b, .int .u8 b.p, .int .u8 b.hops, .int .u64 b.ver, .int .u8 b.role, .bool b.prop, .bool b.agree, .bool b.top, .int .u64 b.echo] 54 (0, 0)) ∧ Keeps (Of m g) w W))
          case first =>
            cases hc : (b.top && ((decide (ro = 1) && decide (b.role = 2)) || (decide (ro = 2) && decide (b.role = 1)))) with
            | false =>
              have HCH : Hid (τ2.changeAt i ro b = τ2) := by
                unfold TM.changeAt
                rw [if_neg (by intro h; rcases h with ⟨h1, ⟨h2, h3⟩ | ⟨h2, h3⟩⟩ <;> simp [h1, h2, h3] at hc)]
                exact hid rfl
              clear hc
              go_wp2_with fail
              go_meet
              exact ⟨_, rfl, hid ⟨by rw [HCH.out]; exact HC6.out.1, HC6.out.2.1, HC6.out.2.2.2⟩⟩
            | true =>
              have HCH : Hid (τ2.changeAt i ro b = { τ2 with P := spreadBut i τ2.P, fl := orBut τ2.fl i τ2.P.length }) := by
                unfold TM.changeAt
                rw [if_pos (by simpa using hc)]
                exact hid rfl
              clear hc
              obtain ⟨⟨_, n1, _, _, _, _, _, n7⟩, nf⟩ := HC6.out.1.cells
              have nf7 := nf 7
              have hn8 : τ2.P.length ≤ 8 := by have := HOK.out.n; have := HL2.out; omega
              have hn0 : 0 < τ2.P.length := by have := HOK.out.n; have := HL2.out; omega
              have hi8 : i < 8 := by have := HOK.out.n; omega
              have h8 := pow8 hi8
              have hwr := wrap_pow hn0 hn8
              have hi8' : (i : Int) < 8 := by omega
              have hi0 : (0 : Int) ≤ (i : Int) := by omega
              have hnn0 : (0 : Int) ≤ (τ2.P.length : Int) := by omega
              have HB6 := hid HC6.out.2.1
              clear nf
              go_wp2_with fail
              go_region
              have hs := HC6.out.1.set (τ' := { τ2 with fl := orBut τ2.fl i τ2.P.length }) 7 (v := .int .u8 (orBut τ2.fl i τ2.P.length)) rfl (by simp [hcl])
              have ks := HC6.out.2.2.2.setM 7 (.int .u8 (orBut τ2.fl i τ2.P.length))
              have hq7 : ((w5.setCell ⟨m, 7, Option.none⟩ (.int .u8 (orBut τ2.fl i τ2.P.length))).drew).heap[bQ]? = some (.cells #[.pointer (some ⟨g, i * 16, Option.none⟩)] 94 (0, 0)) := ((((Keeps.refl (At m) w5).set m 7 (at_self m) _).drew).block bQ (lt_of_block HC6.out.2.2.1) (fun e => by rw [At] at e; have := HM.out.lt; have := HE.out; omega)).trans HC6.out.2.2.1
              have hb7 : ((w5.setCell ⟨m, 7, Option.none⟩ (.int .u8 (orBut τ2.fl i τ2.P.length))).drew).heap[bB]? = some (.cells #[.int .u64 b.r, .int .u32 b.c, .int .u64 b.b, .int .u8 b.p, .int .u8 b.hops, .int .u64 b.ver, .int .u8 b.role, .bool b.prop, .bool b.agree, .bool b.top, .int .u64 b.echo] 54 (0, 0)) := ((((Keeps.refl (At m) w5).set m 7 (at_self m) _).drew).block bB (lt_of_block HC6.out.2.1) (fun e => by rw [At] at e; have := HM.out.lt; have := HE.out; omega)).trans HC6.out.2.1
              have SB := hid (spreads_but hs.drew hq7)
              have KS := hid ks.drew
              have HB7 := hid hb7
              clear hs ks hq7 hb7 n1 n7 nf7 h8 hwr
              rw [show bits BinOp.or IntKind.u8 τ2.fl (bits BinOp.andNot IntKind.u8 (2 ^ τ2.P.length - 1) (2 ^ i)) = orBut τ2.fl i τ2.P.length from rfl]
              generalize ((w5.setCell ⟨m, 7, Option.none⟩ (.int .u8 (orBut τ2.fl i τ2.P.length))).drew) = w7 at *
              go_wp2_with fail
              refine SB.out.mono ?_; rintro e w8 ⟨rfl, h8, k8⟩
              have H8 := hid h8
              have HB8 := hid ((k8.block bB (lt_of_block HB7.out) (fun e => by rw [At] at e; have := HM.out.lt; have := HE.out; omega)).trans HB7.out)
              have K8 := hid (KS.out.trans k8.ofG)
              clear h8 k8
              go_wp2_with fail
              go_meet
              exact ⟨_, rfl, hid ⟨by rw [HCH.out]; exact H8.out, HB8.out, K8.out⟩⟩
          case rest =>
            obtain ⟨w9, rfl, HC9⟩ := hcut
            obtain ⟨τ3, hτ3⟩ : ∃ τ3, τ2.changeAt i ro b = τ3 := ⟨_, rfl⟩
            have hl3 : τ3.P.length = τ.P.length := by rw [← hτ3, changeAt_len, HL2.out]
            have hC := HC9.out
            rw [hτ3] at hC
            obtain ⟨q3, hq3⟩ : ∃ q3, τ3.P[i]? = some q3 := ⟨_, List.getElem?_eq_getElem (by omega)⟩
            have HHR : Hid (τ.hear i b = (τ3, if b.prop = true ∧ ro = 1 then [((i : Int), τ3.word i q3)] else [])) := by
              refine hid ?_
              unfold TM.hear
              rw [HX.out]
              simp only
              rw [if_pos HL.out]
              have e1 : τ.heard i x b = τ1 := H1.out
              simp only [e1, HQQ.out, HRO.out, HT2.out, hτ3, hq3, Option.getD_some]
            have WD := hid (word_any hC.1 hq3 (by have := HOK.out.n; omega))
            have HC := hid hC
            obtain ⟨d0, d1, d2, d3, d4, d5, d6, d7, d8, d9, d10⟩ := blk11 hC.2.1
            clear hC hτ3 hl3 hq3 HC9
            cases hp : b.prop with
            | false =>
              rw [hp] at d7
              have HP := hid hp
              clear hp
              go_wp2_with fail
              go_ret
              exact ⟨_, _, _, rfl, by rw [HHR.out, if_neg (by rw [HP.out]; simp)]; exact WV.nil _ _ _ _ _, by rw [HHR.out]; exact HC.out.1, HC.out.2.2⟩
            | true =>
              rw [hp] at d7
              have HP := hid hp
              clear hp
              by_cases c1 : ro = 1
              · have e1 : (ro == 1) = true := by simp [c1]
                have HR1 := hid c1
                clear c1
                go_wp2_with fail
                refine WD.out.mono ?_; rintro e w10 ⟨rfl, k10⟩
                go_wp2_with fail
                go_ret
                refine ⟨_, _, _, rfl, ?_, ?_, ?_⟩
                · rw [HHR.out, if_pos ⟨HP.out, HR1.out⟩]
                  have e2 : flatS [((i : Int), τ3.word i q3)] = (scells (i : Int) (τ3.word i q3)).toList := by simp [flatS]
                  rw [e2]
                  exact WV.new_ge (cs := scells (i : Int) (τ3.word i q3)) rfl (Nat.le_trans HC.out.2.2.size k10.size)
                · rw [HHR.out]
                  exact (HC.out.1.keepN k10).alloc _
                · exact (HC.out.2.2.thenNil k10).alloc _
              · have e1 : (ro == 1) = false := by simp [c1]
                have HR1 := hid c1
                clear c1
                go_wp2_with fail
                go_ret
                exact ⟨_, _, _, rfl, by rw [HHR.out, if_neg (by rw [HP.out]; simp [HR1.out])]; exact WV.nil _ _ _ _ _, by rw [HHR.out]; exact HC.out.1, HC.out.2.2⟩
end Go.Proofs.Ytbbodecdijankaa
