/-
  Layer 9: another version, and a change that spreads. Conditions: the machine lies so.
-/
import Derived.Test.YtbbodecdijankaaRole0
import Derived.BigRegion
import Derived.RegionTactic
namespace Go.Proofs.Ytbbodecdijankaa
open Go.RowKit
set_option linter.unusedVariables false
set_option linter.unusedSimpArgs false
set_option maxRecDepth 4000

theorem take_set {α : Type} (L : List α) (f : α → α) {k : Nat} {x : α} (hx : L[k]? = some x) :
    ((L.take k).map f ++ L.drop k).set k (f x) = (L.take (k + 1)).map f ++ L.drop (k + 1) := by
  have hl := (List.getElem?_eq_some_iff.1 hx).1
  have e : L[k] = x := by rw [List.getElem?_eq_getElem hl] at hx; exact Option.some.inj hx
  rw [List.take_succ_eq_append_getElem hl, List.map_append, e, List.drop_eq_getElem_cons hl, e]
  rw [List.set_append_right _ _ (by simp; omega)]
  simp [Nat.min_eq_left (Nat.le_of_lt hl)]
theorem take_get {α : Type} (L : List α) (f : α → α) {k : Nat} {x : α} (hx : L[k]? = some x) : ((L.take k).map f ++ L.drop k)[k]? = some x := by
  have hl := (List.getElem?_eq_some_iff.1 hx).1
  rw [List.getElem?_append_right (by simp; omega)]
  simp [Nat.min_eq_left (Nat.le_of_lt hl), hx]
theorem take_len {α : Type} (L : List α) (f : α → α) (k : Nat) (hk : k ≤ L.length) : ((L.take k).map f ++ L.drop k).length = L.length := by
  simp; omega
/-- Done with the first k ports. -/
def TM.upTo (τ : TM) (f : Pt → Pt) (k : Nat) : TM := { τ with P := (τ.P.take k).map f ++ τ.P.drop k }
theorem upTo_zero (τ : TM) (f : Pt → Pt) : τ.upTo f 0 = τ := by simp [TM.upTo]
theorem upTo_all (τ : TM) (f : Pt → Pt) : τ.upTo f τ.P.length = { τ with P := τ.P.map f } := by simp [TM.upTo]
theorem upTo_len (τ : TM) (f : Pt → Pt) {k : Nat} (hk : k ≤ τ.P.length) : (τ.upTo f k).P.length = τ.P.length := take_len _ _ _ hk
theorem upTo_get (τ : TM) (f : Pt → Pt) {k : Nat} {x : Pt} (hx : τ.P[k]? = some x) : (τ.upTo f k).P[k]? = some x := take_get _ _ hx
theorem upTo_set (τ : TM) (f : Pt → Pt) {k : Nat} {x : Pt} (hx : τ.P[k]? = some x) : { τ.upTo f k with P := (τ.upTo f k).P.set k (f x) } = τ.upTo f (k + 1) := by
  simp only [TM.upTo, take_set _ _ hx]
theorem upTo_same (τ : TM) (f : Pt → Pt) {k : Nat} {x : Pt} (hx : τ.P[k]? = some x) (hf : f x = x) : τ.upTo f k = τ.upTo f (k + 1) := by
  have h := upTo_set τ f hx
  rw [hf] at h
  rw [← h]
  have : (τ.upTo f k).P.set k x = (τ.upTo f k).P := by
    apply List.ext_getElem?
    intro j
    rw [List.getElem?_set]
    by_cases hj : k = j
    · subst hj
      rw [if_pos rfl]
      have := upTo_get τ f hx
      rw [this]
      have hl := (List.getElem?_eq_some_iff.1 this).1
      rw [if_pos hl]
    · rw [if_neg hj]
  rw [this]
def Pt.spread4 (p : Pt) : Pt := if p.link then { p with sp := 4 } else p
theorem all_true (w : World) (a : Option Addr) : Calls Try.prog 65 #[.pointer a] w fun e w' => e = .returned (.bool true) ∧ w = w' := by
  go_enter Try.func65, Try.ntmps65
  go_wp2_with fail
  go_ret
  exact ⟨rfl, rfl⟩
set_option maxHeartbeats 4000000 in
theorem spreads_all {w : World} {m g c : Nat} {τ : TM} (h : Mach w m g c τ) :
    Calls Try.prog 41 #[.pointer (some ⟨m, 0, Option.none⟩), .func (.func 65) #[] #[]] w fun e w' => e = .returned (.tuple #[]) ∧ Mach w' m g c { τ with P := τ.P.map Pt.spread4 } ∧ Keeps (At g) w w' := by
  obtain ⟨⟨_, m1, _⟩, _⟩ := h.cells
  have hle := h.row.le
  have H := hid h
  clear h
  go_enter Try.func41, Try.ntmps41
  go_wp2_with fail
  go_loopw [11] (fun s11 wr => ∃ k : Nat, k ≤ τ.P.length ∧ s11 = .int .i64 k ∧ Hid (Mach wr m g c (τ.upTo Pt.spread4 k) ∧ Keeps (At g) w wr)) (fun s11 _ => τ.P.length - (intOf s11).toNat)
  case atStart => exact ⟨0, Nat.zero_le _, rfl, hid ⟨by rw [upTo_zero]; exact H.out, Keeps.refl _ _⟩⟩
  case round =>
    obtain ⟨k, hk, rfl, HR⟩ := hrel
    by_cases hlt : k < τ.P.length
    · obtain ⟨x, hx⟩ : ∃ x, τ.P[k]? = some x := ⟨_, List.getElem?_eq_getElem hlt⟩
      have hu := upTo_get τ Pt.spread4 hx
      obtain ⟨⟨_, n1, _⟩, _⟩ := HR.out.1.cells
      rw [upTo_len _ _ hk] at n1
      obtain ⟨_, _, _, _, _, _, _, _, _, _, _, _, _, _, _, c15⟩ := HR.out.1.row.read hu
      have fr := HR.out.1.row.frozen (k * 16 + 15)
      have LK := hid (link_any HR.out.1.row hu)
      have HX := hid hx
      have HU := hid hu
      cases hl : x.link with
      | true =>
        rw [hl] at LK
        have HL := hid hl
        clear hl hx hu m1
        go_wp2_with ((first | (go_at_call 36; refine LK.out.mono ?_; rintro e w' ⟨rfl, rfl⟩) | (go_at_call 65; refine (all_true _ _).mono ?_; rintro e w' ⟨rfl, rfl⟩)))
        go_roundw
        case rel =>
          have hp := HR.out.1.put (x' := { x with sp := 4 }) 15 (by omega) (v := .int .i64 4) HU.out rfl
          have hs := upTo_set τ Pt.spread4 HX.out
          have hf : Pt.spread4 x = { x with sp := 4 } := by simp [Pt.spread4, HL.out]
          rw [hf] at hs
          rw [hs] at hp
          exact ⟨k + 1, by omega, by go_num, hid ⟨hp, HR.out.2.set g _ (at_self g) _⟩⟩
        case measure => simp only [intOf]; omega
      | false =>
        rw [hl] at LK
        have HL := hid hl
        clear hl hx hu m1
        go_wp2_with ((first | (go_at_call 36; refine LK.out.mono ?_; rintro e w' ⟨rfl, rfl⟩) | (go_at_call 65; refine (all_true _ _).mono ?_; rintro e w' ⟨rfl, rfl⟩)))
        go_roundw
        case rel =>
          have hs := upTo_same τ Pt.spread4 HX.out (by simp [Pt.spread4, HL.out])
          have := HR.out.1
          rw [hs] at this
          exact ⟨k + 1, by omega, by go_num, hid ⟨this, HR.out.2⟩⟩
        case measure => simp only [intOf]; omega
    · obtain rfl : k = τ.P.length := by omega
      go_wp2_with fail
      go_end0
      have := HR.out.1
      rw [upTo_all] at this
      exact ⟨rfl, this, HR.out.2⟩
/-- Behind a turn. -/
def TM.turnTo (τ : TM) (k : Nat) : TM := { τ with P := (τ.P.take k).map (fun p => { p with ag := false }) ++ τ.P.drop k, fl := orTo τ.fl k, ver := τ.ver + 1 }
theorem turnTo_get (τ : TM) {k : Nat} {x : Pt} (hx : τ.P[k]? = some x) : (τ.turnTo k).P[k]? = some x := take_get _ _ hx
theorem turnTo_len (τ : TM) {k : Nat} (hk : k ≤ τ.P.length) : (τ.turnTo k).P.length = τ.P.length := take_len _ _ _ hk
theorem turn_done (τ : TM) : { τ.turnTo τ.P.length with P := (τ.turnTo τ.P.length).P.map Pt.spread4 } = τ.turn := by
  simp only [TM.turnTo, TM.turn, List.take_length, List.drop_length, List.append_nil, List.map_map]
  congr 1
  apply List.map_congr_left
  intro p _
  cases hl : p.link with
  | true =>
    have : ({ p with ag := false } : Pt).link = true := hl
    simp [Function.comp, Pt.spread4, Pt.turn, this, hl]
  | false =>
    have : ({ p with ag := false } : Pt).link = false := hl
    simp [Function.comp, Pt.spread4, Pt.turn, this, hl]
theorem turnTo_next (τ : TM) {k : Nat} {x : Pt} (hx : τ.P[k]? = some x) : (τ.turnTo k).P.set k { x with ag := false } = (τ.turnTo (k + 1)).P := take_set τ.P (fun p => { p with ag := false }) hx
set_option maxHeartbeats 4000000 in
theorem turn_any {w : World} {m g c : Nat} {τ : TM} (h : Mach w m g c τ) (hn : τ.P.length ≤ 8) (hv : 0 ≤ τ.ver ∧ τ.ver < 9223372036854775807) :
    Calls Try.prog 55 #[.pointer (some ⟨m, 0, Option.none⟩)] w fun e w' => e = .returned (.tuple #[]) ∧ Mach w' m g c τ.turn ∧ Keeps (Of m g) w w' := by
  obtain ⟨⟨m0, m1, m2, m3, m4, m5, m6, m7⟩, mf⟩ := h.cells
  have hle := h.row.le
  have mf6 := mf 6
  have hml := h.lt
  have HH := hid h
  have hhead := h.head
  clear mf h
  go_enter Try.func55, Try.ntmps55
  have hset : Mach (w.setCell ⟨m, 6, Option.none⟩ (.int .u64 (τ.ver + 1))) m g c (τ.turnTo 0) := HH.out.set 6 (by simp [TM.turnTo]) (by simp [hcl, TM.turnTo, orTo])
  have kset : Keeps (Of m g) w (w.setCell ⟨m, 6, Option.none⟩ (.int .u64 (τ.ver + 1))) := (Keeps.refl _ _).setM 6 _
  have HS := hid hset
  have KS := hid kset
  clear hset kset hhead
  go_wp2_with fail
  go_loopw [15] (fun s15 wr => ∃ k : Nat, k ≤ τ.P.length ∧ s15 = .int .i64 k ∧ Hid (Mach wr m g c (τ.turnTo k) ∧ Keeps (Of m g) w wr)) (fun s15 _ => τ.P.length - (intOf s15).toNat)
  case atStart => exact ⟨0, Nat.zero_le _, rfl, hid ⟨HS.out, KS.out⟩⟩
  case round =>
    obtain ⟨k, hk, rfl, HR⟩ := hrel
    have hln := turnTo_len τ hk
    by_cases hlt : k < τ.P.length
    · obtain ⟨x, hx⟩ : ∃ x, τ.P[k]? = some x := ⟨_, List.getElem?_eq_getElem hlt⟩
      have hu := turnTo_get τ hx
      obtain ⟨⟨_, n1, _, _, _, _, _, n7⟩, nf⟩ := HR.out.1.cells
      rw [hln] at n1
      have nf7 := nf 7
      obtain ⟨_, _, _, _, _, _, _, _, _, _, _, _, _, _, c14, _⟩ := HR.out.1.row.read hu
      have fr := HR.out.1.row.frozen (k * 16 + 14)
      have hne := HR.out.1.ne
      have hne' := Ne.symm hne
      have h8 := pow8 (i := k) (by omega)
      have hk8 : (k : Int) < 8 := by omega
      have hk0 : (0 : Int) ≤ (k : Int) := by omega
      have HX := hid hx
      have HU := hid hu
      have HLN := hid hln
      have HP := hid (show (2 : Int) ^ k % 256 = 2 ^ k from h8)
      have hlx := HR.out.1.lt
      clear hx hu hln nf m0 m1 m2 m3 m4 m5 m6 m7 h8
      go_wp2_with fail
      have hp := HR.out.1.put (x' := { x with ag := false }) 14 (by omega) (v := .bool false) HU.out rfl
      have kp : Keeps (Of m g) w (wr.setCell ⟨g, k * 16 + 14, Option.none⟩ (.bool false)) := HR.out.2.setG _ _
      have c7 : (wr.setCell ⟨g, k * 16 + 14, Option.none⟩ (.bool false)).cell? ⟨m, 7, Option.none⟩ = some (.int .u8 (orTo τ.fl k)) := hp.cells.1.2.2.2.2.2.2.2
      have f7 := hp.cells.2 7
      rw [turnTo_next τ HX.out] at hp
      have HPT := hid hp
      have KP := hid kp
      clear hp kp n1 n7 nf7 c14 fr
      generalize wr.setCell ⟨g, k * 16 + 14, Option.none⟩ (.bool false) = wx at *
      go_region
      all_goals (go_wp2_with fail; go_roundw)
      case rel =>
        have hb : bits BinOp.or IntKind.u8 (orTo τ.fl k) (2 ^ k % 256) = orTo τ.fl (k + 1) := by rw [HP.out]; rfl
        rw [hb]
        have hq : Mach (wx.setCell ⟨m, 7, Option.none⟩ (.int .u8 (orTo τ.fl (k + 1)))) m g c (τ.turnTo (k + 1)) := HPT.out.set 7 rfl (by simp [hcl, TM.turnTo])
        exact ⟨k + 1, by omega, by go_num, hid ⟨hq.drew, (KP.out.setM 7 _).drew⟩⟩
      case measure => simp only [intOf]; omega
    · obtain rfl : k = τ.P.length := by omega
      go_wp2_with fail
      refine (spreads_all HR.out.1).mono ?_; rintro e w9 ⟨rfl, h9, k9⟩
      rw [turn_done] at h9
      go_wp2_with fail
      go_end0
      exact ⟨rfl, h9, HR.out.2.trans k9.ofG⟩
end Go.Proofs.Ytbbodecdijankaa
