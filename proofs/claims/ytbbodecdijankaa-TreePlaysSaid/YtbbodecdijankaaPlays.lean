/-
  Layer 9: the law of TreePlays. Condition: the acts and costs lie so.
-/
import Derived.Test.YtbbodecdijankaaRPower
import Derived.Test.YtbbodecdijankaaRHear
import Derived.Test.YtbbodecdijankaaRTick
import Derived.Test.YtbbodecdijankaaRMay
import Derived.Test.YtbbodecdijankaaRNew
import Derived.Test.YtbbodecdijankaaWakes
import Derived.Test.YtbbodecdijankaaActs
import Derived.Test.YtbbodecdijankaaSames
import Derived.Test.YtbbodecdijankaaNewNo
import Derived.Deep.DeepCutAuto
import Derived.BigGuard
namespace Go.Proofs.Ytbbodecdijankaa
open Go.RowKit
set_option linter.unusedVariables false
set_option linter.unusedSimpArgs false
set_option maxRecDepth 8000

/-- Both machines, as one plain machine says; all made since w0. -/
structure Two (w0 w : World) (m g c m' g' c' f : Nat) (τ : TM) : Prop where
  a : Mach w m g c τ
  b : RMach w m' g' c' f τ
  ok : τ.Ok
  am : w0.heap.size ≤ m ∧ w0.heap.size ≤ g ∧ w0.heap.size ≤ m' ∧ w0.heap.size ≤ g' ∧ w0.heap.size ≤ f
  k : Keeps Nil w0 w
theorem other_type {w : World} {a b : Nat} {ca cb : Array Value} {ta tb : TypeId} {fa fb : Nat × Nat} (ha : w.heap[a]? = some (.cells ca ta fa)) (hb : w.heap[b]? = some (.cells cb tb fb)) (hne : ta ≠ tb) : a ≠ b := by
  rintro rfl
  rw [ha] at hb
  injection hb with hb
  injection hb with _ hb
  exact hne hb
theorem Two.sep {w0 w : World} {m g c m' g' c' f : Nat} {τ : TM} (h : Two w0 w m g c m' g' c' f τ) : (m' ≠ m ∧ m' ≠ g) ∧ (g' ≠ m ∧ g' ≠ g) ∧ (f ≠ m ∧ f ≠ g) := by
  obtain ⟨cur, hg, _⟩ := h.a.row
  obtain ⟨cur', hg', _⟩ := h.b.row
  obtain ⟨F, _, hf, _⟩ := h.b.fl
  exact ⟨⟨other_type h.b.head h.a.head (by decide), other_type h.b.head hg (by decide)⟩, ⟨other_type hg' h.a.head (by decide), other_type hg' hg (by decide)⟩, ⟨other_type hf h.a.head (by decide), other_type hf hg (by decide)⟩⟩
theorem Two.keepN {w0 w w' : World} {m g c m' g' c' f : Nat} {τ : TM} (h : Two w0 w m g c m' g' c' f τ) (k : Keeps Nil w w') : Two w0 w' m g c m' g' c' f τ := ⟨h.a.keepN k, h.b.keepN k, h.ok, h.am, h.k.trans k⟩
/-- First the program's turns, then the document's. -/
theorem Two.both {w0 w w1 w2 : World} {m g c m' g' c' f f' : Nat} {τ τ' : TM} {S : Nat → Prop} (h : Two w0 w m g c m' g' c' f τ) (ha : Mach w1 m g c τ') (ka : Keeps (Of m g) w w1) (hb : RMach w2 m' g' c' f' τ') (kb : Keeps S w1 w2) (hS : ∀ q, S q → q = m' ∨ q = g' ∨ q = f) (hf : w0.heap.size ≤ f') (ok : τ'.Ok) : Two w0 w2 m g c m' g' c' f' τ' := by
  have s := h.sep
  refine ⟨ha.keep kb (fun e => ?_) (fun e => ?_), hb, ok, ⟨h.am.1, h.am.2.1, h.am.2.2.1, h.am.2.2.2.1, hf⟩, ?_⟩
  · rcases hS _ e with e | e | e
    · exact s.1.1 e.symm
    · exact s.2.1.1 e.symm
    · exact s.2.2.1 e.symm
  · rcases hS _ e with e | e | e
    · exact s.1.2 e.symm
    · exact s.2.1.2 e.symm
    · exact s.2.2.2 e.symm
  · refine (h.k.thenOwn ka (fun q e => ?_)).thenOwn kb (fun q e => ?_)
    · rcases e with rfl | rfl
      · exact h.am.1
      · exact h.am.2.1
    · rcases hS _ e with rfl | rfl | rfl
      · exact h.am.2.2.1
      · exact h.am.2.2.2.1
      · exact h.am.2.2.2.2
/-- The document's machine as it lies behind the program's turns. -/
theorem Two.rest {w0 w w1 : World} {m g c m' g' c' f : Nat} {τ : TM} (h : Two w0 w m g c m' g' c' f τ) (ka : Keeps (Of m g) w w1) : RMach w1 m' g' c' f τ := by
  have s := h.sep
  exact h.b.keep ka (fun e => by rcases e with e | e; exact s.1.1 e; exact s.1.2 e) (fun e => by rcases e with e | e; exact s.2.1.1 e; exact s.2.1.2 e) (fun e => by rcases e with e | e; exact s.2.2.1 e; exact s.2.2.2 e)
theorem tick_ok {τ : TM} (h : τ.Ok) : τ.tick.1.Ok := ((h.mapP Pt.less (fun _ h => h.less)).choose).mapP Pt.told (fun _ h => h.told)
theorem power_ver (τ : TM) (i : Nat) (up : Bool) : (τ.power i up).ver ≤ τ.ver + 1 := by
  unfold TM.power
  split
  · split
    · omega
    · rename_i x hx hu
      rcases choose_ver { τ with P := τ.P.set i (x.fresh up), fl := if up then τ.fl else bor τ.fl i } with e | e <;> (simp only at e; omega)
  · omega
theorem tick_ver (τ : TM) : τ.tick.1.ver ≤ τ.ver + 1 := by
  show τ.age.ver ≤ _
  unfold TM.age
  rcases choose_ver { τ with P := τ.P.map Pt.less } with e | e <;> (simp only at e; omega)
theorem agreeAt_ver (τ : TM) (i : Nat) (p : Pt) (b : Bp) : (τ.agreeAt i p b).ver = τ.ver := by unfold TM.agreeAt; split <;> rfl
theorem changeAt_ver (τ : TM) (i : Nat) (r : Int) (b : Bp) : (τ.changeAt i r b).ver = τ.ver := by unfold TM.changeAt; split <;> rfl
theorem hear_ver (τ : TM) (i : Nat) (b : Bp) : (τ.hear i b).1.ver ≤ τ.ver + 1 := by
  unfold TM.hear
  split
  · rename_i p hp
    split
    · have h1 : (τ.heard i p b).ver ≤ τ.ver + 1 := by
        unfold TM.heard
        rcases choose_ver { τ with P := τ.P.set i { p with h := b, lasts := 3 } } with e | e <;> (simp only at e; omega)
      dsimp only
      split
      · rw [changeAt_ver, agreeAt_ver]; exact h1
      · exact h1
    · simp only; omega
  · simp only; omega
theorem hear_len (τ : TM) (i : Nat) (b : Bp) : (τ.hear i b).2.length ≤ 1 := by
  unfold TM.hear
  split
  · split
    · dsimp only
      split
      · dsimp only
        split <;> simp
      · simp
    · simp
  · simp
theorem tick_len {τ : TM} (h : τ.Ok) : τ.tick.2.length ≤ 8 := by
  show (τ.age.wordsTo τ.age.P.length).length ≤ 8
  have h1 := wordsTo_len τ.age τ.age.P.length
  have h2 : τ.age.P.length = τ.P.length := by unfold TM.age; rw [choose_len]; simp
  have := h.n
  omega
theorem hears_any {w : World} {m g c i : Nat} {τ : TM} {b : Bp} (h : Mach w m g c τ) (h8 : i < 256) (hok : τ.Ok) (hb : b.Ok) (hv : τ.ver < 9223372036854775807) :
    Calls Try.prog 18 #[.pointer (some ⟨m, 0, Option.none⟩), .int .u8 (i : Int), bval b] w (HearIs m g c (τ.hear i b) w) := by
  by_cases hi : i < τ.P.length
  · obtain ⟨x, hx⟩ : ∃ x, τ.P[i]? = some x := ⟨_, List.getElem?_eq_getElem hi⟩
    cases hl : x.link with
    | true => exact hear_on b h hx hl hok hb hv
    | false =>
      have e : τ.hear i b = (τ, []) := by unfold TM.hear; rw [hx]; simp only []; rw [if_neg (by simp [hl])]
      rw [e]
      exact (hear_off b h hx hl).mono fun _ _ ⟨he, k⟩ => ⟨_, _, _, he, WV.nil _ _ _ _ _, h.keepN k, k.ofNil⟩
  · have e : τ.hear i b = (τ, []) := by unfold TM.hear; rw [List.getElem?_eq_none (by omega)]
    rw [e]
    exact (hear_far b h (by omega) h8).mono fun _ _ ⟨he, k⟩ => ⟨_, _, _, he, WV.nil _ _ _ _ _, h.keepN k, k.ofNil⟩
theorem rhears_any {w : World} {m g c f i : Nat} {τ : TM} {b : Bp} (h : RMach w m g c f τ) (hok : τ.Ok) (hb : b.Ok) (hv : τ.ver < 9223372036854775807) :
    Calls Try.prog 20 #[.pointer (some ⟨m, 0, Option.none⟩), .int .i64 (i : Int), bval b] w (RHearIs m g c f (τ.hear i b) w) := by
  by_cases hi : i < τ.P.length
  · obtain ⟨x, hx⟩ : ∃ x, τ.P[i]? = some x := ⟨_, List.getElem?_eq_getElem hi⟩
    cases hl : x.link with
    | true => exact rhear_on b h hx hl hok hb hv
    | false => exact rhear_off b h hx hl
  · exact rhear_far b h (by omega)
theorem start_ok {id : Int} {L : List Int} (h : mayC L) (hid' : 0 ≤ id ∧ id < 18446744073709551616) (h0 : ∀ x ∈ L, 0 ≤ x) : (TM.start id L).Ok := by
  refine ⟨hid', by simpa [TM.start] using ⟨h.1, h.2.1⟩, fun p hp => ?_, hid', by simp [TM.start], by simp [TM.start], by simp [TM.start], by simp [TM.start], by simp [TM.start]⟩
  simp only [TM.start, List.mem_map] at hp
  obtain ⟨x, hx, rfl⟩ := hp
  exact ⟨⟨h0 x hx, h.2.2 x hx⟩, bp_zero_ok, by simp, by simp⟩
theorem WV.actAt {w : World} {p : Option Addr} {n c k : Nat} {L : List Act9} {x : Act9} (h : WV w 0 14 p n c (L.flatMap acl)) (hx : L[k]? = some x) : ∃ g off, p = some ⟨g, off, Option.none⟩ ∧ g < w.heap.size ∧ w.rangeAt g (off + k * 14) (acl x) := by
  have hl := (List.getElem?_eq_some_iff.1 hx).1
  have hn : L.length = n := by have := h.1; rw [flatA_len] at this; omega
  obtain ⟨g, off, e, _, hg, hc⟩ := h.2.2 (by omega)
  refine ⟨g, off, e, hg, fun j v hv => ?_⟩
  have hj : j < 14 := by have := (List.getElem?_eq_some_iff.1 hv).1; rwa [acl_len] at this
  rw [Nat.add_assoc]
  refine hc (k * 14 + j) v ?_
  have key : ∀ (L : List Act9) (i : Nat), L[i]? = some x → (L.flatMap acl)[i * 14 + j]? = (acl x)[j]? := by
    intro L
    induction L with
    | nil => intro i h; simp at h
    | cons y L ih =>
      intro i h
      simp only [List.flatMap_cons]
      match i with
      | 0 =>
        simp at h; subst h
        rw [List.getElem?_append_left (by rw [acl_len]; omega)]
        simp
      | i + 1 =>
        rw [List.getElem?_append_right (by rw [acl_len]; omega), acl_len, show (i + 1) * 14 + j - 14 = i * 14 + j from by omega]
        exact ih i (by simpa using h)
  rw [key L k hx, hv]
set_option maxHeartbeats 16000000 in
theorem plays_any (id : Int) (pc : Option Addr) (nc cc : Nat) (C : List Int) (pl : Option Addr) (nl cl : Nat) (L : List Act9) (w : World)
    (hid' : 0 ≤ id ∧ id < 18446744073709551616) (hC : WV w 0 1 pc nc cc (C.map (Value.int .u32))) (hC0 : ∀ x ∈ C, 0 ≤ x) (hL : WV w 0 14 pl nl cl (L.flatMap acl)) (hLo : ∀ x ∈ L, x.Ok) (hnc : nc ≤ 9223372036854775807) (hnl : nl ≤ 9223372036854775807) :
    Calls Try.prog 3 #[.int .u64 id, .slice pc nc cc, .slice pl nl cl] w fun e w' => e = .returned (.bool true) ∧ Keeps Nil w w' := by
  have WA := fun W => wakes_any W
  have hlen : L.length = nl := by have := hL.1; rw [flatA_len] at this; omega
  have HC := hid hC
  have HL := hid hL
  have HLO := hid hLo
  have HLEN := hid hlen
  have hcl := hL.2.1
  by_cases hg : 200 < nl ∨ 20 < nc
  · have hd : (decide ((200 : Int) < (nl : Int)) = true) ∨ (decide ((200 : Int) < (nl : Int)) = false ∧ decide ((20 : Int) < (nc : Int)) = true) := by
      by_cases h1 : 200 < nl
      · exact .inl (by simp; omega)
      · exact .inr ⟨by simp; omega, by simp; omega⟩
    clear hC hL hLo hlen hg
    rcases hd with d1 | ⟨d1, d2⟩
    all_goals
      go_enter Try.func3, Try.ntmps3
      go_wp2_with fail
      refine (WA _).mono ?_; rintro e w3 ⟨rfl, k3⟩
      go_wp2_with fail
      go_ret
      exact ⟨rfl, k3⟩
  · have h200 : nl ≤ 200 := by omega
    have d1 : decide ((200 : Int) < (nl : Int)) = false := by simp; omega
    have d2 : decide ((20 : Int) < (nc : Int)) = false := by simp; omega
    have RM := fun (W : World) (k : Keeps Nil w W) => rmay_any pc nc cc C (hC.keepN k) hnc
    by_cases hm : mayC C
    · have hmb := (mayB_iff C).2 hm
      have NW := hid (new_any id pc nc cc C w hC hm)
      have NR := hid (fun (W : World) (k : Keeps Nil w W) => rnew_any id pc nc cc C W (hC.keepN k) hm)
      rw [hmb] at RM
      have RMH := hid RM
      have OK0 := hid (start_ok hm hid' hC0)
      clear hC hC0 hL hLo hlen hm hmb RM hid'
      go_enter Try.func3, Try.ntmps3
      go_upto_region 3 with (fail)
      clear d1 d2
      go_wp2_with fail
      refine NW.out.mono ?_; rintro e w1 ⟨⟨m, g, c, rfl, hm1, hg1, h1⟩, k1⟩
      have K1 := hid k1
      have H1 := hid h1
      have HB1 := hid (And.intro hm1 hg1)
      clear h1 k1 hm1 hg1
      go_wp2_with fail
      refine (RMH.out _ K1.out).mono ?_; rintro e w1' ⟨rfl, hw1⟩
      have hw1 := hw1.symm
      subst hw1
      go_wp2_with fail
      refine (NR.out _ K1.out).mono ?_; rintro e w2 ⟨⟨m', g', c', f, rfl, hm2, hg2, hf2, h2⟩, k2⟩
      have hTwo : Two w w2 m g c m' g' c' f (TM.start id C) := ⟨H1.out.keepN k2, h2, OK0.out, ⟨HB1.out.1, HB1.out.2, Nat.le_trans K1.out.size hm2, Nat.le_trans K1.out.size hg2, Nat.le_trans K1.out.size hf2⟩, K1.out.trans k2⟩
      have HT := hid hTwo
      clear h2 k2 hm2 hg2 hf2 hTwo
      go_wp2_with fail
      go_loopw [10] (fun s10 wr => ∃ k : Nat, k ≤ nl ∧ s10 = .int .i64 k ∧ Hid (∃ τ f, Two w wr m g c m' g' c' f τ ∧ τ.ver ≤ k + 1)) (fun s10 _ => nl - (intOf s10).toNat)
      case atStart => exact ⟨0, Nat.zero_le _, rfl, hid ⟨_, _, HT.out, by simp [TM.start]⟩⟩
      case round =>
        obtain ⟨k, hk, rfl, HR⟩ := hrel
        obtain ⟨τ, f1, hT, hver⟩ := HR.out
        have hv : τ.ver < 9223372036854775807 := by omega
        have HVR := hid hver
        have T1 := hid hT
        clear HR hver hT
        by_cases hlt : k < nl
        · obtain ⟨x, hx⟩ : ∃ x, L[k]? = some x := ⟨_, List.getElem?_eq_getElem (by have := HLEN.out; omega)⟩
          obtain ⟨ga, oa, rfl, hga, hra⟩ := (HL.out.keepN T1.out.k).actAt hx
          have HRA := hid hra
          have hxo := HLO.out x (List.mem_of_getElem? hx)
          have HXO := hid hxo
          clear hra hx hxo
          go_upto_region 13 with ((first
            | (refine wpList_load_mid rfl 39 _ rfl ga (oa + k * 14) rfl (acl x) _ ?_ Try.underlying39 rfl (by kernel_rfl) ?_; exact HRA.out)
            | (refine wpList_store_mid rfl 39 _ _ rfl wr.heap.size 0 (acl x).toArray rfl rfl ?_ (by kernel_rfl) (by simp [acl, bcl, Value.oneCell']) ?_; exact there_block (alloc_block wr _) 14 rfl)))
          try simp only [Act.put, List.setIfInBounds_toArray, List.set_cons_zero, List.set_cons_succ]
          obtain ⟨hPB, kP0⟩ := setCells_all (alloc_block wr (.cells #[.int .u8 0, .int .u8 0, .int .u64 0, .int .u32 0, .int .u64 0, .int .u8 0, .int .u8 0, .int .u64 0, .int .u8 0, .bool false, .bool false, .bool false, .int .u64 0, .bool false] 39 (0, 0))) (acl x).toArray rfl
          have kP : Keeps Nil wr ((wr.alloc (.cells #[.int .u8 0, .int .u8 0, .int .u64 0, .int .u32 0, .int .u64 0, .int .u8 0, .int .u8 0, .int .u64 0, .int .u8 0, .bool false, .bool false, .bool false, .int .u64 0, .bool false] 39 (0, 0))).setCells wr.heap.size 0 (acl x)) := ((Keeps.refl Nil wr).alloc _).thenAt kP0 (Nat.le_refl _)
          have hPB : ((wr.alloc (.cells #[.int .u8 0, .int .u8 0, .int .u64 0, .int .u32 0, .int .u64 0, .int .u8 0, .int .u8 0, .int .u64 0, .int .u8 0, .bool false, .bool false, .bool false, .int .u64 0, .bool false] 39 (0, 0))).setCells wr.heap.size 0 (acl x)).heap[wr.heap.size]? = some (.cells (acl x).toArray 39 (0, 0)) := hPB
          generalize (wr.alloc (.cells #[.int .u8 0, .int .u8 0, .int .u64 0, .int .u32 0, .int .u64 0, .int .u8 0, .int .u8 0, .int .u64 0, .int .u8 0, .bool false, .bool false, .bool false, .int .u64 0, .bool false] 39 (0, 0))).setCells wr.heap.size 0 (acl x) = wb at *
          obtain ⟨bx, hbx⟩ : ∃ bx, wr.heap.size = bx := ⟨_, rfl⟩
          rw [hbx] at hPB ⊢
          have T2 := hid (T1.out.keepN kP)
          have HPB : Hid (wb.heap[bx]? = some (.cells #[.int .u8 x.d, .int .u8 x.p, .int .u64 x.b.r, .int .u32 x.b.c, .int .u64 x.b.b, .int .u8 x.b.p, .int .u8 x.b.hops, .int .u64 x.b.ver, .int .u8 x.b.role, .bool x.b.prop, .bool x.b.agree, .bool x.b.top, .int .u64 x.b.echo, .bool x.e] 39 (0, 0))) := hid hPB
          have b0 : wb.cell? ⟨bx, 0, Option.none⟩ = some (.int .u8 x.d) := by simp [World.cell?, hPB, acl]
          have b1 : wb.cell? ⟨bx, 1, Option.none⟩ = some (.int .u8 x.p) := by simp [World.cell?, hPB, acl]
          obtain ⟨i, hip⟩ : ∃ i : Nat, x.p = i := ⟨x.p.toNat, by have := HXO.out.p; omega⟩
          have hi8 : i < 256 := by have := HXO.out.p; omega
          rw [hip] at b1
          have HIP := hid hip
          have hxd := HXO.out.d
          have hneb : bx ≠ m ∧ bx ≠ g := ⟨other_type HPB.out T2.out.a.head (by decide), by obtain ⟨cur, hgb, _⟩ := T2.out.a.row; exact other_type HPB.out hgb (by decide)⟩
          have HNB := hid hneb
          clear hPB kP kP0 hbx hip hneb
          go_upto_region 15 with (fail)
          rcases (show x.d = 0 ∨ x.d = 1 ∨ x.d = 2 ∨ x.d = 3 ∨ 3 < x.d by omega) with c | c | c | c | c
          · have f0 : (x.d == 0) = true := by simp [c]
            clear c
            have PU := hid (up_any (i := i) T2.out.a hi8 T2.out.ok hv)
            go_wp2_with fail
            refine PU.out.mono ?_; rintro e w3 ⟨rfl, h3, k3⟩
            have hb3 := (k3.block bx (lt_of_block HPB.out) (fun e => by rcases e with e | e; exact HNB.out.1 e; exact HNB.out.2 e)).trans HPB.out
            have b1' : w3.cell? ⟨bx, 1, Option.none⟩ = some (.int .u8 (i : Int)) := by simp [World.cell?, hb3, HIP.out]
            have PR := hid (rpower_any (i := i) true (T2.out.rest k3) T2.out.ok hv)
            have H3 := hid h3
            have K3 := hid k3
            clear hb3 h3 k3
            go_wp2_with fail
            refine PR.out.mono ?_; rintro e w4 ⟨rfl, h4, k4⟩
            have T9 := hid (T2.out.both H3.out K3.out h4 k4 (fun q e => e) T2.out.am.2.2.2.2 (T2.out.ok.power i true))
            have HVV := hid (power_ver τ i true)
            have WVA : Hid (WV w4 0 12 Option.none 0 0 (flatS [])) := hid (WV.nil _ _ _ _ _)
            have WVB : Hid (WV w4 0 12 Option.none 0 0 (flatS [])) := hid (WV.nil _ _ _ _ _)
            have HLL := hid (show ([] : List (Int × Bp)).length ≤ 100 by simp)
            clear h4 k4 b1'
            have SN := hid (sent_any WVA.out WVB.out HLL.out)
            go_wp2_with fail
            refine SN.out.mono ?_; rintro e w7 ⟨rfl, k7⟩
            have SM := hid (same_any (T9.out.keepN k7).a (T9.out.keepN k7).b)
            have T10 := hid (T9.out.keepN k7)
            clear k7
            go_wp2_with fail
            refine SM.out.mono ?_; rintro e w8 ⟨rfl, k8⟩
            go_wp2_with fail
            go_roundw
            case rel => exact ⟨k + 1, by omega, by go_num, hid ⟨_, _, T10.out.keepN k8, by have hv1 := HVV.out; have hv2 := HVR.out; (try simp only at hv1); (try simp only); omega⟩⟩
            case measure => simp only [intOf]; omega
          · have f0 : (x.d == 0) = false := by simp [c]
            have f1 : (x.d == 1) = true := by simp [c]
            clear c
            have PU := hid (down_any (i := i) T2.out.a hi8 T2.out.ok hv)
            go_wp2_with fail
            refine PU.out.mono ?_; rintro e w3 ⟨rfl, h3, k3⟩
            have hb3 := (k3.block bx (lt_of_block HPB.out) (fun e => by rcases e with e | e; exact HNB.out.1 e; exact HNB.out.2 e)).trans HPB.out
            have b1' : w3.cell? ⟨bx, 1, Option.none⟩ = some (.int .u8 (i : Int)) := by simp [World.cell?, hb3, HIP.out]
            have PR := hid (rpower_any (i := i) false (T2.out.rest k3) T2.out.ok hv)
            have H3 := hid h3
            have K3 := hid k3
            clear hb3 h3 k3
            go_wp2_with fail
            refine PR.out.mono ?_; rintro e w4 ⟨rfl, h4, k4⟩
            have T9 := hid (T2.out.both H3.out K3.out h4 k4 (fun q e => e) T2.out.am.2.2.2.2 (T2.out.ok.power i false))
            have HVV := hid (power_ver τ i false)
            have WVA : Hid (WV w4 0 12 Option.none 0 0 (flatS [])) := hid (WV.nil _ _ _ _ _)
            have WVB : Hid (WV w4 0 12 Option.none 0 0 (flatS [])) := hid (WV.nil _ _ _ _ _)
            have HLL := hid (show ([] : List (Int × Bp)).length ≤ 100 by simp)
            clear h4 k4 b1'
            have SN := hid (sent_any WVA.out WVB.out HLL.out)
            go_wp2_with fail
            refine SN.out.mono ?_; rintro e w7 ⟨rfl, k7⟩
            have SM := hid (same_any (T9.out.keepN k7).a (T9.out.keepN k7).b)
            have T10 := hid (T9.out.keepN k7)
            clear k7
            go_wp2_with fail
            refine SM.out.mono ?_; rintro e w8 ⟨rfl, k8⟩
            go_wp2_with fail
            go_roundw
            case rel => exact ⟨k + 1, by omega, by go_num, hid ⟨_, _, T10.out.keepN k8, by have hv1 := HVV.out; have hv2 := HVR.out; (try simp only at hv1); (try simp only); omega⟩⟩
            case measure => simp only [intOf]; omega
          · have f0 : (x.d == 0) = false := by simp [c]
            have f1 : (x.d == 1) = false := by simp [c]
            have f2 : (x.d == 2) = true := by simp [c]
            clear c
            have PU := hid (tick_any T2.out.a T2.out.ok hv)
            go_wp2_with fail
            refine PU.out.mono ?_; rintro e w3 ⟨pA, nA, cA, rfl, hwa, h3, k3⟩
            have PR := hid (rtick_any (T2.out.rest k3) T2.out.ok hv)
            have H3 := hid h3
            have K3 := hid k3
            have HWA := hid hwa
            clear hwa h3 k3
            go_wp2_with fail
            refine PR.out.mono ?_; rintro e w4 ⟨pB, nB, cB, rfl, hwb, h4, k4⟩
            have T9 := hid (T2.out.both H3.out K3.out h4 k4 (fun q e => e) T2.out.am.2.2.2.2 (tick_ok T2.out.ok))
            have HVV := hid (tick_ver τ)
            have HLL := hid (show τ.tick.2.length ≤ 100 from Nat.le_trans (tick_len T2.out.ok) (by decide))
            have hlt2 := T2.out.b.lt
            have WVA := hid ((HWA.out.keep k4 (fun q hq _ e => by have h1 := hlt2.1; have h2 := hlt2.2.1; have h3 := hlt2.2.2; rcases e with e | e | e <;> (have e' := e; rw [e'] at hq; omega))).mono (Nat.zero_le _))
            have WVB := hid (hwb.mono (Nat.zero_le _))
            clear hwb h4 k4 hlt2
            have SN := hid (sent_any WVA.out WVB.out HLL.out)
            go_wp2_with fail
            refine SN.out.mono ?_; rintro e w7 ⟨rfl, k7⟩
            have SM := hid (same_any (T9.out.keepN k7).a (T9.out.keepN k7).b)
            have T10 := hid (T9.out.keepN k7)
            clear k7
            go_wp2_with fail
            refine SM.out.mono ?_; rintro e w8 ⟨rfl, k8⟩
            go_wp2_with fail
            go_roundw
            case rel => exact ⟨k + 1, by omega, by go_num, hid ⟨_, _, T10.out.keepN k8, by have hv1 := HVV.out; have hv2 := HVR.out; (try simp only at hv1); (try simp only); omega⟩⟩
            case measure => simp only [intOf]; omega
          · have f0 : (x.d == 0) = false := by simp [c]
            have f1 : (x.d == 1) = false := by simp [c]
            have f2 : (x.d == 2) = false := by simp [c]
            have f3 : (x.d == 3) = true := by simp [c]
            clear c
            have FA := hid (flush_any T2.out.a)
            go_wp2_with fail
            refine FA.out.mono ?_; rintro e w3 ⟨rfl, h3, k3⟩
            have FB := hid (rflush_any (T2.out.rest k3) T2.out.ok.n)
            have H3 := hid h3
            have K3 := hid k3
            clear h3 k3
            go_wp2_with fail
            refine FB.out.mono ?_; rintro e w4 ⟨rfl, ⟨f2, hf2, h4⟩, k4⟩
            have ok2 : ({ τ with fl := 0 } : TM).Ok := ⟨T2.out.ok.id, T2.out.ok.n, T2.out.ok.P, T2.out.ok.root, T2.out.ok.cost, T2.out.ok.port, T2.out.ok.hops, T2.out.ok.ver, by simp⟩
            have T9 := hid (T2.out.both H3.out K3.out h4 k4 (fun q e => Or.inl e) (Nat.le_trans (Nat.le_trans T2.out.k.size K3.out.size) hf2) ok2)
            have HVV := hid (show ({ τ with fl := 0 } : TM).ver ≤ τ.ver + 1 by simp only; omega)
            have e1 : (τ.fl != τ.fl) = false := by simp
            have WVA : Hid (WV w4 0 12 Option.none 0 0 (flatS [])) := hid (WV.nil _ _ _ _ _)
            have WVB : Hid (WV w4 0 12 Option.none 0 0 (flatS [])) := hid (WV.nil _ _ _ _ _)
            have HLL := hid (show ([] : List (Int × Bp)).length ≤ 100 by simp)
            clear h4 k4 ok2
            have SN := hid (sent_any WVA.out WVB.out HLL.out)
            go_wp2_with fail
            refine SN.out.mono ?_; rintro e w7 ⟨rfl, k7⟩
            have SM := hid (same_any (T9.out.keepN k7).a (T9.out.keepN k7).b)
            have T10 := hid (T9.out.keepN k7)
            clear k7
            go_wp2_with fail
            refine SM.out.mono ?_; rintro e w8 ⟨rfl, k8⟩
            go_wp2_with fail
            go_roundw
            case rel => exact ⟨k + 1, by omega, by go_num, hid ⟨_, _, T10.out.keepN k8, by have hv1 := HVV.out; have hv2 := HVR.out; (try simp only at hv1); (try simp only); omega⟩⟩
            case measure => simp only [intOf]; omega
          · have f0 : (x.d == 0) = false := by simp; omega
            have f1 : (x.d == 1) = false := by simp; omega
            have f2 : (x.d == 2) = false := by simp; omega
            have f3 : (x.d == 3) = false := by simp; omega
            clear c
            have hrb := range_block0 HPB.out
            have HRB : Hid (wb.rangeAt bx 2 (bcl x.b)) := hid (fun j u hj => by
              have hj11 : j < 11 := by have := (List.getElem?_eq_some_iff.1 hj).1; simpa [bcl] using this
              have e : (wb.cell? ⟨bx, 2 + j, Option.none⟩) = (acl x)[2 + j]? := by simp [World.cell?, HPB.out, acl, bcl]
              rw [e, show (acl x) = [.int .u8 x.d, .int .u8 x.p] ++ (bcl x.b ++ [.bool x.e]) from rfl, List.getElem?_append_right (by simp), List.getElem?_append_left (by simp [bcl]; omega)]
              simpa using hj)
            clear hrb
            have b13 : wb.cell? ⟨bx, 13, Option.none⟩ = some (.bool x.e) := by simp [World.cell?, HPB.out]
            have hlx := lt_of_block HPB.out
            go_upto_region 17 with ((first
              | (refine wpList_load_mid rfl 37 _ rfl bx 2 rfl (bcl x.b) _ ?_ Try.underlying37 rfl (by kernel_rfl) ?_; exact HRB.out)
              | (refine wpList_store_mid rfl 37 _ _ rfl wb.heap.size 0 (bcl x.b).toArray rfl rfl ?_ (by kernel_rfl) (by simp [bcl, Value.oneCell']) ?_; exact there_block (alloc_block wb _) 11 rfl)))
            try simp only [Act.put, List.setIfInBounds_toArray, List.set_cons_zero, List.set_cons_succ]
            obtain ⟨hQB, kQ0⟩ := setCells_all (alloc_block wb (.cells #[.int .u64 0, .int .u32 0, .int .u64 0, .int .u8 0, .int .u8 0, .int .u64 0, .int .u8 0, .bool false, .bool false, .bool false, .int .u64 0] 37 (0, 0))) (bcl x.b).toArray rfl
            have kQ : Keeps Nil wb ((wb.alloc (.cells #[.int .u64 0, .int .u32 0, .int .u64 0, .int .u8 0, .int .u8 0, .int .u64 0, .int .u8 0, .bool false, .bool false, .bool false, .int .u64 0] 37 (0, 0))).setCells wb.heap.size 0 (bcl x.b)) := ((Keeps.refl Nil wb).alloc _).thenAt kQ0 (Nat.le_refl _)
            have hQB : ((wb.alloc (.cells #[.int .u64 0, .int .u32 0, .int .u64 0, .int .u8 0, .int .u8 0, .int .u64 0, .int .u8 0, .bool false, .bool false, .bool false, .int .u64 0] 37 (0, 0))).setCells wb.heap.size 0 (bcl x.b)).heap[wb.heap.size]? = some (.cells #[.int .u64 x.b.r, .int .u32 x.b.c, .int .u64 x.b.b, .int .u8 x.b.p, .int .u8 x.b.hops, .int .u64 x.b.ver, .int .u8 x.b.role, .bool x.b.prop, .bool x.b.agree, .bool x.b.top, .int .u64 x.b.echo] 37 (0, 0)) := hQB
            generalize (wb.alloc (.cells #[.int .u64 0, .int .u32 0, .int .u64 0, .int .u8 0, .int .u8 0, .int .u64 0, .int .u8 0, .bool false, .bool false, .bool false, .int .u64 0] 37 (0, 0))).setCells wb.heap.size 0 (bcl x.b) = wq at *
            obtain ⟨b14, hb14⟩ : ∃ b14, wb.heap.size = b14 := ⟨_, rfl⟩
            rw [hb14] at hQB ⊢
            have KQ := hid kQ
            have HQB := hid hQB
            have HB14 := hid hb14
            have T3 := hid (T2.out.keepN kQ)
            have q13 := (kQ.cell (p := ⟨bx, 13, Option.none⟩) hlx (fun e => e)).trans b13
            clear kQ kQ0 hQB hb14 b13
            cases he : x.e with
            | true =>
              rw [he] at q13
              have HEE := hid he
              clear he
              have n6 := T3.out.b.cells.1.2.2.2.2.2.2.1
              have hm3 := T3.out.b.lt.1
              have fz := (free11 HQB.out).2.2.2.2.2.2.2.2.2.2
              have q10 := (blk11 HQB.out).2.2.2.2.2.2.2.2.2.2
              go_upto_region 19 with (fail)
              have hD := setCell_block HQB.out 10 (.int .u64 τ.ver)
              have kD : Keeps (At b14) wq (wq.setCell ⟨b14, 10, Option.none⟩ (.int .u64 τ.ver)) := (Keeps.refl _ _).set b14 10 (at_self b14) _
              have hD : (wq.setCell ⟨b14, 10, Option.none⟩ (.int .u64 τ.ver)).heap[b14]? = some (.cells #[.int .u64 x.b.r, .int .u32 x.b.c, .int .u64 x.b.b, .int .u8 x.b.p, .int .u8 x.b.hops, .int .u64 x.b.ver, .int .u8 x.b.role, .bool x.b.prop, .bool x.b.agree, .bool x.b.top, .int .u64 τ.ver] 37 (0, 0)) := hD
              clear n6 hm3 fz q13 q10
              generalize wq.setCell ⟨b14, 10, Option.none⟩ (.int .u64 τ.ver) = wd at *
              have kbd : Keeps Nil wb wd := KQ.out.thenAt kD (Nat.le_of_eq HB14.out)
              have HYB : Hid (wd.heap[b14]? = some (.cells #[.int .u64 x.b.r, .int .u32 x.b.c, .int .u64 x.b.b, .int .u8 x.b.p, .int .u8 x.b.hops, .int .u64 x.b.ver, .int .u8 x.b.role, .bool x.b.prop, .bool x.b.agree, .bool x.b.top, .int .u64 τ.ver] 37 (0, 0)) ∧ Keeps Nil wb wd) := hid ⟨hD, kbd⟩
              obtain ⟨y, hy⟩ : ∃ y : Bp, y = { x.b with echo := τ.ver } := ⟨_, rfl⟩
              have hyo : y.Ok := by rw [hy]; exact ⟨HXO.out.b.r, HXO.out.b.c, HXO.out.b.b, HXO.out.b.p, HXO.out.b.hops, HXO.out.b.ver, HXO.out.b.role, by have := T2.out.ok.ver; simp only; omega⟩
              have HYO := hid hyo
              have HY : Hid (wd.heap[b14]? = some (.cells #[.int .u64 y.r, .int .u32 y.c, .int .u64 y.b, .int .u8 y.p, .int .u8 y.hops, .int .u64 y.ver, .int .u8 y.role, .bool y.prop, .bool y.agree, .bool y.top, .int .u64 y.echo] 37 (0, 0)) ∧ Keeps Nil wb wd) := by rw [hy]; exact HYB
              clear hD kD kbd HYB hy hyo
              have T4 := hid (T2.out.keepN HY.out.2)
              have hb14n : b14 ≠ m ∧ b14 ≠ g := ⟨other_type HY.out.1 T4.out.a.head (by decide), by obtain ⟨cur, hgb, _⟩ := T4.out.a.row; exact other_type HY.out.1 hgb (by decide)⟩
              have HNB14 := hid hb14n
              have HS : ∀ W, Keeps (Of m g) wd W → (W.cell? ⟨bx, 1, Option.none⟩ = some (.int .u8 (i : Int)) ∧ W.cell? ⟨b14, 0, Option.none⟩ = some (.int .u64 y.r) ∧ W.cell? ⟨b14, 1, Option.none⟩ = some (.int .u32 y.c) ∧ W.cell? ⟨b14, 2, Option.none⟩ = some (.int .u64 y.b) ∧ W.cell? ⟨b14, 3, Option.none⟩ = some (.int .u8 y.p) ∧ W.cell? ⟨b14, 4, Option.none⟩ = some (.int .u8 y.hops) ∧ W.cell? ⟨b14, 5, Option.none⟩ = some (.int .u64 y.ver) ∧ W.cell? ⟨b14, 6, Option.none⟩ = some (.int .u8 y.role) ∧ W.cell? ⟨b14, 7, Option.none⟩ = some (.bool y.prop) ∧ W.cell? ⟨b14, 8, Option.none⟩ = some (.bool y.agree) ∧ W.cell? ⟨b14, 9, Option.none⟩ = some (.bool y.top) ∧ W.cell? ⟨b14, 10, Option.none⟩ = some (.int .u64 y.echo)) := fun W kW => by
                have hx1 := ((HY.out.2.ofNil.trans kW).block bx (lt_of_block HPB.out) (fun e => by rcases e with e | e; exact HNB.out.1 e; exact HNB.out.2 e)).trans HPB.out
                have hy1 := (kW.block b14 (lt_of_block HY.out.1) (fun e => by rcases e with e | e; exact HNB14.out.1 e; exact HNB14.out.2 e)).trans HY.out.1
                refine ⟨by simp [World.cell?, hx1, HIP.out], ?_⟩
                exact blk11 hy1
              have HSH := hid HS
              have k0 : Keeps (Of m g) wd wd := Keeps.refl _ _
              have HV0 := hid hv
              clear HS hb14n b0 b1
              go_region_held3 (fun W => W.cell? ⟨bx, 1, Option.none⟩ = some (.int .u8 (i : Int)) ∧ W.cell? ⟨b14, 0, Option.none⟩ = some (.int .u64 y.r) ∧ W.cell? ⟨b14, 1, Option.none⟩ = some (.int .u32 y.c) ∧ W.cell? ⟨b14, 2, Option.none⟩ = some (.int .u64 y.b) ∧ W.cell? ⟨b14, 3, Option.none⟩ = some (.int .u8 y.p) ∧ W.cell? ⟨b14, 4, Option.none⟩ = some (.int .u8 y.hops) ∧ W.cell? ⟨b14, 5, Option.none⟩ = some (.int .u64 y.ver) ∧ W.cell? ⟨b14, 6, Option.none⟩ = some (.int .u8 y.role) ∧ W.cell? ⟨b14, 7, Option.none⟩ = some (.bool y.prop) ∧ W.cell? ⟨b14, 8, Option.none⟩ = some (.bool y.agree) ∧ W.cell? ⟨b14, 9, Option.none⟩ = some (.bool y.top) ∧ W.cell? ⟨b14, 10, Option.none⟩ = some (.int .u64 y.echo)) (first | with_reducible exact HSH.out _ k0 | with_reducible exact HSH.out _ k0.drew | with_reducible exact HSH.out _ k1 | with_reducible exact HSH.out _ k1.drew | with_reducible exact HSH.out _ k2 | with_reducible exact HSH.out _ k2.drew) ((first | (go_at_call 19; refine (of_word y _).mono ?_; rintro e w1 ⟨rfl, k1'⟩; have k1 : Keeps (Of m g) wd w1 := (by first | exact k0.thenNil k1' | exact k0.drew.thenNil k1'); have n1' : Keeps Nil wd w1 := (by first | exact k1' | exact (Keeps.refl Nil wd).drew.trans k1'); have N1 := hid n1'; clear k1' n1') | (go_at_call 18; refine (hears_any (i := i) (T4.out.a.keepN (by first | exact N1.out | exact N1.out.drew)) hi8 T4.out.ok HYO.out HV0.out).mono ?_; rintro e w3 ⟨pA, nA, cA, rfl, hwa, h3, k3⟩; have k2 : Keeps (Of m g) wd w3 := (by first | exact k1.trans k3 | exact k1.drew.trans k3); have H3 := hid h3; have HWA := hid (And.intro hwa (show wd.heap.size ≤ w1.heap.size from N1.out.size)); clear hwa h3 k3)))
              have K3 := hid k2
              obtain ⟨s1, s2, s3, s4, s5, s6, s7, s8, s9, s10, s11, s12⟩ := HSH.out _ K3.out
              have PR := hid (rhears_any (i := i) (T4.out.rest K3.out) T4.out.ok HYO.out HV0.out)
              clear k0 k1 k2
              go_wp2_with fail
              refine PR.out.mono ?_; rintro e w4 ⟨pB, nB, cB, rfl, hwb, h4, k4⟩
              have T9 := hid (T4.out.both H3.out K3.out h4 k4 (fun q e => e) T4.out.am.2.2.2.2 (hear_ok T4.out.ok HYO.out))
              have HVV := hid (hear_ver τ i y)
              have HLL := hid (show (τ.hear i y).2.length ≤ 100 from Nat.le_trans (hear_len τ i y) (by decide))
              have hlt2 := T4.out.b.lt
              have WVA := hid ((HWA.out.1.keep k4 (fun q hq _ e => by have h0 := HWA.out.2; have h1 := hlt2.1; have h2 := hlt2.2.1; have h3 := hlt2.2.2; rcases e with e | e | e <;> (have e' := e; rw [e'] at hq; (try simp at hq); omega))).mono (Nat.zero_le _))
              have WVB := hid (hwb.mono (Nat.zero_le _))
              clear hwb h4 k4 hlt2 s1 s2 s3 s4 s5 s6 s7 s8 s9 s10 s11 s12
              have SN := hid (sent_any WVA.out WVB.out HLL.out)
              go_wp2_with fail
              refine SN.out.mono ?_; rintro e w7 ⟨rfl, k7⟩
              have SM := hid (same_any (T9.out.keepN k7).a (T9.out.keepN k7).b)
              have T10 := hid (T9.out.keepN k7)
              clear k7
              go_wp2_with fail
              refine SM.out.mono ?_; rintro e w8 ⟨rfl, k8⟩
              go_wp2_with fail
              go_roundw
              case rel => exact ⟨k + 1, by omega, by go_num, hid ⟨_, _, T10.out.keepN k8, by have hv1 := HVV.out; have hv2 := HVR.out; (try simp only at hv1); (try simp only); omega⟩⟩
              case measure => simp only [intOf]; omega
            | false =>
              rw [he] at q13
              have HEE := hid he
              clear he
              go_upto_region 19 with (fail)
              clear q13
              obtain ⟨y, hy⟩ : ∃ y : Bp, y = x.b := ⟨_, rfl⟩
              have HYO : Hid y.Ok := by rw [hy]; exact hid HXO.out.b
              have HY : Hid (wq.heap[b14]? = some (.cells #[.int .u64 y.r, .int .u32 y.c, .int .u64 y.b, .int .u8 y.p, .int .u8 y.hops, .int .u64 y.ver, .int .u8 y.role, .bool y.prop, .bool y.agree, .bool y.top, .int .u64 y.echo] 37 (0, 0)) ∧ Keeps Nil wb wq) := by rw [hy]; exact hid ⟨HQB.out, KQ.out⟩
              clear hy
              obtain ⟨wd, hwd⟩ : ∃ wd, wd = wq := ⟨_, rfl⟩
              rw [← hwd] at HY ⊢
              clear hwd
              have T4 := hid (T2.out.keepN HY.out.2)
              have hb14n : b14 ≠ m ∧ b14 ≠ g := ⟨other_type HY.out.1 T4.out.a.head (by decide), by obtain ⟨cur, hgb, _⟩ := T4.out.a.row; exact other_type HY.out.1 hgb (by decide)⟩
              have HNB14 := hid hb14n
              have HS : ∀ W, Keeps (Of m g) wd W → (W.cell? ⟨bx, 1, Option.none⟩ = some (.int .u8 (i : Int)) ∧ W.cell? ⟨b14, 0, Option.none⟩ = some (.int .u64 y.r) ∧ W.cell? ⟨b14, 1, Option.none⟩ = some (.int .u32 y.c) ∧ W.cell? ⟨b14, 2, Option.none⟩ = some (.int .u64 y.b) ∧ W.cell? ⟨b14, 3, Option.none⟩ = some (.int .u8 y.p) ∧ W.cell? ⟨b14, 4, Option.none⟩ = some (.int .u8 y.hops) ∧ W.cell? ⟨b14, 5, Option.none⟩ = some (.int .u64 y.ver) ∧ W.cell? ⟨b14, 6, Option.none⟩ = some (.int .u8 y.role) ∧ W.cell? ⟨b14, 7, Option.none⟩ = some (.bool y.prop) ∧ W.cell? ⟨b14, 8, Option.none⟩ = some (.bool y.agree) ∧ W.cell? ⟨b14, 9, Option.none⟩ = some (.bool y.top) ∧ W.cell? ⟨b14, 10, Option.none⟩ = some (.int .u64 y.echo)) := fun W kW => by
                have hx1 := ((HY.out.2.ofNil.trans kW).block bx (lt_of_block HPB.out) (fun e => by rcases e with e | e; exact HNB.out.1 e; exact HNB.out.2 e)).trans HPB.out
                have hy1 := (kW.block b14 (lt_of_block HY.out.1) (fun e => by rcases e with e | e; exact HNB14.out.1 e; exact HNB14.out.2 e)).trans HY.out.1
                refine ⟨by simp [World.cell?, hx1, HIP.out], ?_⟩
                exact blk11 hy1
              have HSH := hid HS
              have k0 : Keeps (Of m g) wd wd := Keeps.refl _ _
              have HV0 := hid hv
              clear HS hb14n b0 b1
              go_region_held3 (fun W => W.cell? ⟨bx, 1, Option.none⟩ = some (.int .u8 (i : Int)) ∧ W.cell? ⟨b14, 0, Option.none⟩ = some (.int .u64 y.r) ∧ W.cell? ⟨b14, 1, Option.none⟩ = some (.int .u32 y.c) ∧ W.cell? ⟨b14, 2, Option.none⟩ = some (.int .u64 y.b) ∧ W.cell? ⟨b14, 3, Option.none⟩ = some (.int .u8 y.p) ∧ W.cell? ⟨b14, 4, Option.none⟩ = some (.int .u8 y.hops) ∧ W.cell? ⟨b14, 5, Option.none⟩ = some (.int .u64 y.ver) ∧ W.cell? ⟨b14, 6, Option.none⟩ = some (.int .u8 y.role) ∧ W.cell? ⟨b14, 7, Option.none⟩ = some (.bool y.prop) ∧ W.cell? ⟨b14, 8, Option.none⟩ = some (.bool y.agree) ∧ W.cell? ⟨b14, 9, Option.none⟩ = some (.bool y.top) ∧ W.cell? ⟨b14, 10, Option.none⟩ = some (.int .u64 y.echo)) (first | with_reducible exact HSH.out _ k0 | with_reducible exact HSH.out _ k0.drew | with_reducible exact HSH.out _ k1 | with_reducible exact HSH.out _ k1.drew | with_reducible exact HSH.out _ k2 | with_reducible exact HSH.out _ k2.drew) ((first | (go_at_call 19; refine (of_word y _).mono ?_; rintro e w1 ⟨rfl, k1'⟩; have k1 : Keeps (Of m g) wd w1 := (by first | exact k0.thenNil k1' | exact k0.drew.thenNil k1'); have n1' : Keeps Nil wd w1 := (by first | exact k1' | exact (Keeps.refl Nil wd).drew.trans k1'); have N1 := hid n1'; clear k1' n1') | (go_at_call 18; refine (hears_any (i := i) (T4.out.a.keepN (by first | exact N1.out | exact N1.out.drew)) hi8 T4.out.ok HYO.out HV0.out).mono ?_; rintro e w3 ⟨pA, nA, cA, rfl, hwa, h3, k3⟩; have k2 : Keeps (Of m g) wd w3 := (by first | exact k1.trans k3 | exact k1.drew.trans k3); have H3 := hid h3; have HWA := hid (And.intro hwa (show wd.heap.size ≤ w1.heap.size from N1.out.size)); clear hwa h3 k3)))
              have K3 := hid k2
              obtain ⟨s1, s2, s3, s4, s5, s6, s7, s8, s9, s10, s11, s12⟩ := HSH.out _ K3.out
              have PR := hid (rhears_any (i := i) (T4.out.rest K3.out) T4.out.ok HYO.out HV0.out)
              clear k0 k1 k2
              go_wp2_with fail
              refine PR.out.mono ?_; rintro e w4 ⟨pB, nB, cB, rfl, hwb, h4, k4⟩
              have T9 := hid (T4.out.both H3.out K3.out h4 k4 (fun q e => e) T4.out.am.2.2.2.2 (hear_ok T4.out.ok HYO.out))
              have HVV := hid (hear_ver τ i y)
              have HLL := hid (show (τ.hear i y).2.length ≤ 100 from Nat.le_trans (hear_len τ i y) (by decide))
              have hlt2 := T4.out.b.lt
              have WVA := hid ((HWA.out.1.keep k4 (fun q hq _ e => by have h0 := HWA.out.2; have h1 := hlt2.1; have h2 := hlt2.2.1; have h3 := hlt2.2.2; rcases e with e | e | e <;> (have e' := e; rw [e'] at hq; (try simp at hq); omega))).mono (Nat.zero_le _))
              have WVB := hid (hwb.mono (Nat.zero_le _))
              clear hwb h4 k4 hlt2 s1 s2 s3 s4 s5 s6 s7 s8 s9 s10 s11 s12
              have SN := hid (sent_any WVA.out WVB.out HLL.out)
              go_wp2_with fail
              refine SN.out.mono ?_; rintro e w7 ⟨rfl, k7⟩
              have SM := hid (same_any (T9.out.keepN k7).a (T9.out.keepN k7).b)
              have T10 := hid (T9.out.keepN k7)
              clear k7
              go_wp2_with fail
              refine SM.out.mono ?_; rintro e w8 ⟨rfl, k8⟩
              go_wp2_with fail
              go_roundw
              case rel => exact ⟨k + 1, by omega, by go_num, hid ⟨_, _, T10.out.keepN k8, by have hv1 := HVV.out; have hv2 := HVR.out; (try simp only at hv1); (try simp only); omega⟩⟩
              case measure => simp only [intOf]; omega
        · obtain rfl : k = nl := by omega
          have FA := hid (flush_any T1.out.a)
          go_wp2_with fail
          refine FA.out.mono ?_; rintro e w5 ⟨rfl, h5, k5⟩
          have hr5 := T1.out.rest k5
          have FB := hid (rflush_any hr5 T1.out.ok.n)
          have KF := hid (T1.out.k.thenOwn k5 (fun q e => by rcases e with rfl | rfl; exact T1.out.am.1; exact T1.out.am.2.1))
          clear h5 hr5 k5
          go_wp2_with fail
          refine FB.out.mono ?_; rintro e w6 ⟨rfl, _, k6⟩
          have K6 := hid (KF.out.thenAt k6 T1.out.am.2.2.1)
          have e1 : (τ.fl == τ.fl) = true := by simp
          clear k6
          go_wp2_with fail
          refine (WA _).mono ?_; rintro e w9 ⟨rfl, k9⟩
          go_wp2_with fail
          go_ret
          exact ⟨rfl, K6.out.trans k9⟩
    · have hmb : mayB C = false := by
        cases h : mayB C with
        | false => rfl
        | true => exact absurd ((mayB_iff C).1 h) hm
      rw [hmb] at RM
      have RMH := hid RM
      have NN := hid (new_no id pc nc cc C w hC hm hnc)
      clear hC hC0 hL hLo hlen hm hmb RM
      go_enter Try.func3, Try.ntmps3
      go_upto_region 3 with (fail)
      go_wp2_with fail
      refine NN.out.mono ?_; rintro e w1 ⟨rfl, k1⟩
      go_wp2_with fail
      refine (RMH.out _ k1).mono ?_; rintro e w1' ⟨rfl, rfl⟩
      go_wp2_with fail
      refine (WA _).mono ?_; rintro e w9 ⟨rfl, k9⟩
      go_wp2_with fail
      go_ret
      exact ⟨rfl, k1.trans k9⟩
end Go.Proofs.Ytbbodecdijankaa
