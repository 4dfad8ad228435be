/-
  Layer 9: a change that goes on by all ports but one. Conditions: the machine lies so.
-/
import Derived.Test.YtbbodecdijankaaSpread
import Derived.LaidEqlPtr
import Derived.Lib.Builder
namespace Go.Proofs.Ytbbodecdijankaa
open Go.RowKit
set_option linter.unusedVariables false
set_option linter.unusedSimpArgs false
set_option maxRecDepth 4000

theorem info90b : ∃ j, Try.prog.info? 90 = some j ∧ j.size ≠ 0 := by
  have h : (Try.prog.info? 90).map (fun i => i.size) = some 16 := by kernel_rfl
  cases hi : Try.prog.info? 90 with
  | none => rw [hi] at h; cases h
  | some j =>
    rw [hi] at h
    simp at h
    exact ⟨j, rfl, by omega⟩
theorem run_neq_ptr_other {P : Program} (w : World) {tp te : TypeId} {j : TypeInfo} {a b : Addr} {ca cb : Array Value} {ta tb : TypeId} (hp : P.underlying tp = some (.pointer te)) (hte : P.info? te = some j) (hsz : j.size ≠ 0)
    (hne : a ≠ b) (ha : w.heap[a.block]? = some (.cells ca ta (0, 0))) (hb : w.heap[b.block]? = some (.cells cb tb (0, 0))) :
    (binOp .neq tp (.pointer (some a)) (.pointer (some b))).run P w = .ok (.bool true) w := by
  have h : ∀ d : Nat, (Op.equalIn (d + 1) tp (.pointer (some a)) (.pointer (some b))).run P w = .ok false w := fun d => by
    simp [Op.equalIn, run_underlying hp, sizeOf, typeInfo, hte, hsz, run_sameAddr_other w hne ha hb]
  simp only [binOp]
  simp [Op.equal, Op.maxDepth, h 9999]
set_option maxHeartbeats 1000000 in
theorem but_same {w : World} {g i bq : Nat} (hq : w.cell? ⟨bq, 0, Option.none⟩ = some (.pointer (some ⟨g, i * 16, Option.none⟩))) :
    Calls Try.prog 42 #[.pointer (some ⟨g, i * 16, Option.none⟩), .pointer (some ⟨bq, 0, Option.none⟩)] w fun e w' => e = .returned (.bool false) ∧ w = w' := by
  obtain ⟨j, hj, hz⟩ := info90b
  have hn := fun W => Lib.run_neq_ptr_same (P := Try.prog) W ⟨g, i * 16, Option.none⟩ Try.underlying94 hj
  have HJ := hid hj
  clear hj
  go_enter Try.func42, Try.ntmps42
  go_wp2_with fail
  go_ret
  exact ⟨rfl, rfl⟩
set_option maxHeartbeats 1000000 in
theorem but_other {w : World} {g c i k bq : Nat} {L : List Pt} {x : Pt} (hq : w.cell? ⟨bq, 0, Option.none⟩ = some (.pointer (some ⟨g, i * 16, Option.none⟩))) (h : Row w 90 g c L) (hx : L[k]? = some x) (hk : ¬ k = i) :
    Calls Try.prog 42 #[.pointer (some ⟨g, k * 16, Option.none⟩), .pointer (some ⟨bq, 0, Option.none⟩)] w fun e w' => e = .returned (.bool (x.sp == 0)) ∧ w = w' := by
  obtain ⟨_, _, _, _, _, _, _, _, _, _, _, _, _, _, _, c15⟩ := h.read hx
  obtain ⟨j, hj, hz⟩ := info90b
  obtain ⟨cur, hb, _⟩ := h
  have hn := run_neq_ptr_other (P := Try.prog) w (a := ⟨g, k * 16, Option.none⟩) (b := ⟨g, i * 16, Option.none⟩) Try.underlying94 hj hz (fun e => hk (by injection e with _ e _; omega)) hb hb
  have HJ := hid hj
  have HB := hid hb
  clear hx hj hb
  go_enter Try.func42, Try.ntmps42
  go_wp2_with fail
  go_ret
  exact ⟨rfl, rfl⟩
/-- What spreads to a port. -/
def Pt.butSp (p : Pt) : Pt := if p.link = true ∧ p.sp = 0 then { p with sp := 4 } else p
/-- Done with the first k ports, i passed over. -/
def TM.butTo (τ : TM) (i k : Nat) : TM := { τ with P := (τ.P.take k).mapIdx (fun q p => if q ≠ i ∧ p.link = true ∧ p.sp = 0 then { p with sp := 4 } else p) ++ τ.P.drop k }
theorem butTo_zero (τ : TM) (i : Nat) : τ.butTo i 0 = τ := by simp [TM.butTo]
theorem butTo_all (τ : TM) (i : Nat) : τ.butTo i τ.P.length = { τ with P := spreadBut i τ.P } := by
  simp only [TM.butTo, List.take_length, List.drop_length, List.append_nil]; rfl
theorem butTo_len (τ : TM) (i : Nat) {k : Nat} (hk : k ≤ τ.P.length) : (τ.butTo i k).P.length = τ.P.length := by simp [TM.butTo]; omega
theorem butTo_get (τ : TM) (i : Nat) {k : Nat} {x : Pt} (hx : τ.P[k]? = some x) : (τ.butTo i k).P[k]? = some x := by
  have hl := (List.getElem?_eq_some_iff.1 hx).1
  simp only [TM.butTo]
  rw [List.getElem?_append_right (by simp; omega)]
  simp [Nat.min_eq_left (Nat.le_of_lt hl), hx]
theorem butTo_set (τ : TM) (i : Nat) {k : Nat} {x : Pt} (hx : τ.P[k]? = some x) :
    { τ.butTo i k with P := (τ.butTo i k).P.set k (if k ≠ i ∧ x.link = true ∧ x.sp = 0 then { x with sp := 4 } else x) } = τ.butTo i (k + 1) := by
  have hl := (List.getElem?_eq_some_iff.1 hx).1
  have e : τ.P[k] = x := by rw [List.getElem?_eq_getElem hl] at hx; exact Option.some.inj hx
  simp only [TM.butTo]
  congr 1
  rw [List.take_succ_eq_append_getElem hl, e, List.mapIdx_append, List.drop_eq_getElem_cons hl, e]
  rw [List.set_append_right _ _ (by simp; omega)]
  simp [Nat.min_eq_left (Nat.le_of_lt hl)]
theorem set_self {α : Type} (L : List α) {k : Nat} {x : α} (hx : L[k]? = some x) : L.set k x = L := by
  apply List.ext_getElem?
  intro j
  rw [List.getElem?_set]
  by_cases hj : k = j
  · subst hj
    rw [if_pos rfl, hx, if_pos (List.getElem?_eq_some_iff.1 hx).1]
  · rw [if_neg hj]
set_option maxHeartbeats 4000000 in
theorem spreads_but {w : World} {m g c i bq : Nat} {τ : TM} (h : Mach w m g c τ) (hq : w.heap[bq]? = some (.cells #[.pointer (some ⟨g, i * 16, Option.none⟩)] 94 (0, 0))) :
    Calls Try.prog 41 #[.pointer (some ⟨m, 0, Option.none⟩), .func (.func 42) #[] #[.pointer (some ⟨bq, 0, Option.none⟩)]] w fun e w' => e = .returned (.tuple #[]) ∧ Mach w' m g c { τ with P := spreadBut i τ.P } ∧ Keeps (At g) w w' := by
  obtain ⟨⟨_, m1, _⟩, _⟩ := h.cells
  have hle := h.row.le
  have H := hid h
  have HQ := hid hq
  have hgq : ¬ bq = g := by
    rintro rfl
    obtain ⟨cur, hb, _⟩ := h.row
    rw [hb] at hq
    injection hq with hq
    injection hq with _ hq
    exact absurd hq (by decide)
  clear h hq
  go_enter Try.func41, Try.ntmps41
  go_wp2_with fail
  go_loopw [11] (fun s11 wr => ∃ k : Nat, k ≤ τ.P.length ∧ s11 = .int .i64 k ∧ Hid (Mach wr m g c (τ.butTo i k) ∧ Keeps (At g) w wr)) (fun s11 _ => τ.P.length - (intOf s11).toNat)
  case atStart => exact ⟨0, Nat.zero_le _, rfl, hid ⟨by rw [butTo_zero]; exact H.out, Keeps.refl _ _⟩⟩
  case round =>
    obtain ⟨k, hk, rfl, HR⟩ := hrel
    by_cases hlt : k < τ.P.length
    · obtain ⟨x, hx⟩ : ∃ x, τ.P[k]? = some x := ⟨_, List.getElem?_eq_getElem hlt⟩
      have hu := butTo_get τ i hx
      obtain ⟨⟨_, n1, _⟩, _⟩ := HR.out.1.cells
      rw [butTo_len _ _ hk] at n1
      obtain ⟨_, _, _, _, _, _, _, _, _, _, _, _, _, _, _, c15⟩ := HR.out.1.row.read hu
      have fr := HR.out.1.row.frozen (k * 16 + 15)
      have LK := link_any HR.out.1.row hu
      have hqr := (HR.out.2.block bq (lt_of_block HQ.out) hgq).trans HQ.out
      have hq0 : wr.cell? ⟨bq, 0, Option.none⟩ = some (.pointer (some ⟨g, i * 16, Option.none⟩)) := by simp [World.cell?, hqr]
      have BS := hid (fun (e : k = i) => but_same (w := wr) (g := g) (i := i) (bq := bq) hq0)
      have BO := hid (fun (e : ¬ k = i) => but_other hq0 HR.out.1.row hu e)
      have HX := hid hx
      have HU := hid hu
      have stay : (k ≠ i ∧ x.link = true ∧ x.sp = 0 → False) → Mach wr m g c (τ.butTo i (k + 1)) := fun hn => by
        have hs := butTo_set τ i HX.out
        rw [if_neg hn, set_self _ HU.out] at hs
        rw [← hs]
        exact HR.out.1
      have ST := hid stay
      clear hx hu m1 hqr hq0 stay
      cases hl : x.link with
      | false =>
        rw [hl] at LK
        have LKH := hid LK
        have HL := hid hl
        clear hl LK
        go_wp2_with (go_at_call 36; refine LKH.out.mono ?_; rintro e w' ⟨rfl, rfl⟩)
        go_roundw
        case rel => exact ⟨k + 1, by omega, by go_num, hid ⟨ST.out (fun h => by rw [HL.out] at h; simp at h), HR.out.2⟩⟩
        case measure => simp only [intOf]; omega
      | true =>
        rw [hl] at LK
        have LKH := hid LK
        have HL := hid hl
        clear hl LK
        by_cases hki : k = i
        · subst hki
          have B := hid (BS.out rfl)
          go_wp2_with ((first | (go_at_call 36; refine LKH.out.mono ?_; rintro e w' ⟨rfl, rfl⟩) | (go_at_call 42; refine B.out.mono ?_; rintro e w' ⟨rfl, rfl⟩)))
          go_roundw
          case rel => exact ⟨k + 1, by omega, by go_num, hid ⟨ST.out (fun h => h.1 rfl), HR.out.2⟩⟩
          case measure => simp only [intOf]; omega
        · have B := BO.out hki
          cases hs0 : (x.sp == 0) with
          | false =>
            rw [hs0] at B
            have BH := hid B
            have HS0 := hid hs0
            clear B hs0
            go_wp2_with ((first | (go_at_call 36; refine LKH.out.mono ?_; rintro e w' ⟨rfl, rfl⟩) | (go_at_call 42; refine BH.out.mono ?_; rintro e w' ⟨rfl, rfl⟩)))
            go_roundw
            case rel => exact ⟨k + 1, by omega, by go_num, hid ⟨ST.out (fun h => by have := HS0.out; rw [h.2.2] at this; simp at this), HR.out.2⟩⟩
            case measure => simp only [intOf]; omega
          | true =>
            rw [hs0] at B
            have BH := hid B
            have HS0 := hid hs0
            clear B hs0
            go_wp2_with ((first | (go_at_call 36; refine LKH.out.mono ?_; rintro e w' ⟨rfl, rfl⟩) | (go_at_call 42; refine BH.out.mono ?_; rintro e w' ⟨rfl, rfl⟩)))
            go_roundw
            case rel =>
              have hp := HR.out.1.put (x' := { x with sp := 4 }) 15 (by omega) (v := .int .i64 4) HU.out rfl
              have hs := butTo_set τ i HX.out
              rw [if_pos ⟨hki, HL.out, by simpa using HS0.out⟩] at hs
              rw [hs] at hp
              exact ⟨k + 1, by omega, by go_num, hid ⟨hp, HR.out.2.set g _ (at_self g) _⟩⟩
            case measure => simp only [intOf]; omega
    · obtain rfl : k = τ.P.length := by omega
      go_wp2_with fail
      go_end0
      have := HR.out.1
      rw [butTo_all] at this
      exact ⟨rfl, this, HR.out.2⟩
end Go.Proofs.Ytbbodecdijankaa
