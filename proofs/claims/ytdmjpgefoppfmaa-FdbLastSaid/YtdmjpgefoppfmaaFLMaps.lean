/-
  FdbLast's own maps, as lists of places and values. No condition.
-/
import Derived.Test.YtdmjpgefoppfmaaFLLaw
namespace Go.Proofs.Ytdmjpgefoppfmaa
open Go.RowKit Go.Maps Go.ChangeShapes Go.WideShapes
set_option linter.unusedVariables false

theorem row57 : (57 : TypeId) < Try.prog.types.size := of_decide_eq_true (by kernel_rfl)
theorem wide57 : (match Try.prog.underlying 57 with | some (.array _ _) | some (.struct _) => true | _ => false) = true := by kernel_rfl
theorem law57 : Keyed Try.prog 57 := Keyed.of_law (deep_law_laid laidOut0 (m := 4) (by omega) row57 (by kernel_rfl) wide57)
theorem key57 (p : Pl) (h : p.Ok) : keyOf Try.prog 57 p.val = some p.lit := by
  obtain ⟨h0, h1, h2, h3, h4, h5, h6⟩ := h
  have kt : Try.prog.keyType 57 = true := by kernel_rfl
  have c57 : Try.prog.cellsOf 57 = 7 := by kernel_rfl
  have c25 : Try.prog.cellsOf 25 = 6 := by kernel_rfl
  have c23 : Try.prog.cellsOf 23 = 1 := by kernel_rfl
  have c5 : Try.prog.cellsOf 5 = 1 := by kernel_rfl
  have hsz : ∃ m, Try.prog.types.size + 1 = m + 4 := ⟨Try.prog.types.size - 3, by have : 57 < Try.prog.types.size := row57; omega⟩
  obtain ⟨m, hm⟩ := hsz
  have e0 : List.range 6 = [0, 1, 2, 3, 4, 5] := rfl
  have w0 := wf16 h0
  have w1 := wf8 h1
  have w2 := wf8 h2
  have w3 := wf8 h3
  have w4 := wf8 h4
  have w5 := wf8 h5
  have w6 := wf8 h6
  unfold keyOf
  simp only [Try.underlying57]
  rw [if_pos (by simp [kt, Value.formed, Try.underlying57, c57]), hm]
  simp [Program.keyLits, Try.underlying57, Try.underlying25, Try.underlying23, Try.underlying5, c57, c25, c23, c5, Value.cells, e0, w0, w1, w2, w3, w4, w5, w6, Pl.lit, Pl.lits]

/-- Block mb is a map that holds these static entries. -/
def MapK (w : World) (mb : Nat) (S : List (Pl × Int)) : Prop :=
  Once S ∧ ∃ D : DataW Unit, w.ownsMap Try.prog 57 (plainElem Try.prog 5) mb (Maps.size D) D ∧ Maps.size D = S.length ∧ ∀ p : Pl, p.Ok → Maps.has D p.lit = (sget S p).isSome ∧ ∀ v, sget S p = some v → D.atKey p.lit (.lit (.int .u8 0)) = .lit (.int .u8 v)

theorem own_tightK {w : World} {b n : Nat} {D : DataW Unit} (h : w.ownsMap Try.prog 57 (plainElem Try.prog 5) b n D) : w.ownsMap Try.prog 57 (plainElem Try.prog 5) b (Maps.size D) D := by
  obtain ⟨es, clock, hb, F, hs, hD⟩ := h
  refine ⟨es, clock, hb, F, ?_, hD⟩
  rw [hD]
  simp [Maps.size, length_sorted]

theorem MapK.made (w : World) : MapK (w.alloc (.map #[] 0)) w.heap.size [] :=
  ⟨by simp [Once], .map [], World.ownsMap_made w _ _ _, rfl, fun p _ => ⟨rfl, fun v hv => by simp [sget] at hv⟩⟩
theorem MapK.lt {w : World} {mb : Nat} {S : List (Pl × Int)} (h : MapK w mb S) : mb < w.heap.size := by
  obtain ⟨_, D, h, _⟩ := h; exact h.lt
theorem MapK.keep {T : Nat → Prop} {w w' : World} {mb : Nat} {S : List (Pl × Int)} (h : MapK w mb S) (k : Keeps T w w') (hT : ¬ T mb) : MapK w' mb S := by
  have hl := h.lt
  obtain ⟨ho, D, ⟨es, clock, hb, r⟩, r'⟩ := h
  exact ⟨ho, D, ⟨es, clock, (k.block mb hl hT).trans hb, r⟩, r'⟩
/-- 'v, ok := m[p]'. -/
theorem MapK.look {w : World} {mb : Nat} {S : List (Pl × Int)} (h : MapK w mb S) (p : Pl) (hp : p.Ok) :
    (Instr.lookup 55 (.map (some mb)) p.val true).run Try.prog w = .ok (.tuple #[.int .u8 ((sget S p).getD 0), .bool (sget S p).isSome]) w := by
  obtain ⟨ho, D, hown, hs, hat⟩ := h
  obtain ⟨v, ps, hrun, hv⟩ := hown.look_ok law57 Try.underlying55 (zero5 w) (plainElem_int Try.underlying5 (by decide)) (key57 p hp)
  obtain ⟨c, rfl, hc, hwc⟩ := plainElem_int_inv Try.underlying5 hv
  rw [(hat p hp).1] at hrun
  have h1 := congrArg Prod.fst hc
  simp only at h1
  have hcc : c = (sget S p).getD 0 := by
    cases hg : sget S p with
    | some u =>
      have h2 := (hat p hp).2 u hg
      rw [h2] at h1
      simpa using h1.symm
    | none =>
      have h3 := (hat p hp).1
      rw [hg] at h3
      have h2 := Maps.atKey_of_not_has h3 (DataW.lit (Lit.int .u8 0) : DataW Unit)
      rw [h2] at h1
      simpa using h1.symm
  rw [← hcc]
  exact hrun
/-- 'len(m)'. -/
theorem MapK.len {w : World} {mb : Nat} {S : List (Pl × Int)} (h : MapK w mb S) (ty : TypeId) : (Builtin.len_ #[55] ty #[.map (some mb)]).run Try.prog w = .ok (.int .i64 S.length) w := by
  obtain ⟨ho, D, hown, hs, hat⟩ := h
  rw [← hs]
  exact hown.len Try.underlying55 ty
/-- 'm[p] = v'. -/
theorem MapK.put {w : World} {mb : Nat} {S : List (Pl × Int)} (h : MapK w mb S) (p : Pl) (hp : p.Ok) (v : Int) (hv : 0 ≤ v ∧ v < 256) (hl : S.length < 1000) :
    ∃ w', (Instr.mapUpdate 55 (.map (some mb)) p.val (.int .u8 v)).run Try.prog w = .ok () w' ∧ MapK w' mb (sput S p v) ∧ Keeps (At mb) w w' := by
  obtain ⟨ho, D, hown, hs, hat⟩ := h
  obtain ⟨w', hrun, hown', ht⟩ := hown.store law57 Try.underlying55 (by unfold maxLen; omega) (key57 p hp) (plainElem_int Try.underlying5 (wf8 hv))
  have hT := hown.tidy law57
  refine ⟨w', hrun, ⟨once_put ho p v, _, own_tightK hown', ?_, fun q hq => ?_⟩, turned_keeps ht⟩
  · rw [Maps.size_put hT, sput_len, (hat p hp).1, hs]
  · rw [sget_put]
    by_cases e : p = q
    · subst e
      rw [if_pos rfl]
      refine ⟨by rw [Maps.has_put_same hT.isMap (lit_key p)]; rfl, fun u hu => ?_⟩
      injection hu with hu
      subst hu
      exact Maps.atKey_put_same hT.isMap (lit_key p) _ _
    · rw [if_neg e]
      have hne : q.lit ≠ p.lit := fun h => e (lit_inj hq hp h).symm
      exact ⟨by rw [Maps.has_put_other hne]; exact (hat q hq).1, fun u hu => by rw [Maps.atKey_put_other hne]; exact (hat q hq).2 u hu⟩
/-- 'delete(m, p)'. -/
theorem MapK.drop {w : World} {mb : Nat} {S : List (Pl × Int)} (h : MapK w mb S) (p : Pl) (hp : p.Ok) (ty : TypeId) :
    ∃ w', (Builtin.delete_ #[55, 57] ty #[.map (some mb), p.val]).run Try.prog w = .ok (.tuple #[]) w' ∧ MapK w' mb (sdel S p) ∧ Keeps (At mb) w w' := by
  obtain ⟨ho, D, hown, hs, hat⟩ := h
  obtain ⟨w', hrun, hown', ht⟩ := hown.drop law57 Try.underlying55 (key57 p hp) ty
  have hT := hown.tidy law57
  refine ⟨w', hrun, ⟨once_del ho p, _, own_tightK hown', ?_, fun q hq => ?_⟩, turned_keeps ht⟩
  · have h1 := Maps.size_del (k := p.lit) hT
    have h2 := sdel_len ho p
    rw [(hat p hp).1] at h1
    omega
  · rw [sget_del]
    by_cases e : p = q
    · subst e
      rw [if_pos rfl]
      exact ⟨by rw [Maps.has_del_same]; rfl, fun u hu => by cases hu⟩
    · rw [if_neg e]
      have hne : q.lit ≠ p.lit := fun h => e (lit_inj hq hp h).symm
      exact ⟨by rw [Maps.has_del_other hne]; exact (hat q hq).1, fun u hu => by rw [Maps.atKey_del_other hne]; exact (hat q hq).2 u hu⟩
/-- Block mb is a map that holds these static entries. -/
def MapB (w : World) (mb : Nat) (S : List (Pl × Int)) : Prop :=
  Once S ∧ ∃ D : DataW Unit, w.ownsMap Try.prog 57 (plainElem Try.prog 4) mb (Maps.size D) D ∧ Maps.size D = S.length ∧ ∀ p : Pl, p.Ok → Maps.has D p.lit = (sget S p).isSome ∧ ∀ v, sget S p = some v → D.atKey p.lit (.lit (.bool false)) = .lit (.bool true)

theorem own_tightB {w : World} {b n : Nat} {D : DataW Unit} (h : w.ownsMap Try.prog 57 (plainElem Try.prog 4) b n D) : w.ownsMap Try.prog 57 (plainElem Try.prog 4) b (Maps.size D) D := by
  obtain ⟨es, clock, hb, F, hs, hD⟩ := h
  refine ⟨es, clock, hb, F, ?_, hD⟩
  rw [hD]
  simp [Maps.size, length_sorted]

theorem MapB.made (w : World) : MapB (w.alloc (.map #[] 0)) w.heap.size [] :=
  ⟨by simp [Once], .map [], World.ownsMap_made w _ _ _, rfl, fun p _ => ⟨rfl, fun v hv => by simp [sget] at hv⟩⟩
theorem MapB.lt {w : World} {mb : Nat} {S : List (Pl × Int)} (h : MapB w mb S) : mb < w.heap.size := by
  obtain ⟨_, D, h, _⟩ := h; exact h.lt
theorem MapB.keep {T : Nat → Prop} {w w' : World} {mb : Nat} {S : List (Pl × Int)} (h : MapB w mb S) (k : Keeps T w w') (hT : ¬ T mb) : MapB w' mb S := by
  have hl := h.lt
  obtain ⟨ho, D, ⟨es, clock, hb, r⟩, r'⟩ := h
  exact ⟨ho, D, ⟨es, clock, (k.block mb hl hT).trans hb, r⟩, r'⟩
theorem zero4 (w : World) : (zeroValue 4).run Try.prog w = .ok (.bool false) w := by kernel_rfl
theorem plainElem_bool_inv {v : Value} {z : DataW Unit × List MemPlace} (h : plainElem Try.prog 4 v = some z) : ∃ a, v = .bool a ∧ z = (.lit (.bool a), []) := by
  unfold plainElem at h
  rw [Try.underlying4] at h
  cases v <;> simp at h
  exact ⟨_, rfl, h.symm⟩
/-- 'm[p]'. -/
theorem MapB.look {w : World} {mb : Nat} {S : List (Pl × Int)} (h : MapB w mb S) (p : Pl) (hp : p.Ok) :
    (Instr.lookup 84 (.map (some mb)) p.val false).run Try.prog w = .ok (.bool (sget S p).isSome) w := by
  obtain ⟨ho, D, hown, hs, hat⟩ := h
  obtain ⟨v, ps, hrun, hv⟩ := hown.lookup law57 Try.underlying84 (zero4 w) (plainElem_bool Try.underlying4 false) (key57 p hp)
  obtain ⟨c, rfl, hc⟩ := plainElem_bool_inv hv
  have h1 := congrArg Prod.fst hc
  simp only at h1
  have hcc : c = (sget S p).isSome := by
    cases hg : sget S p with
    | some u =>
      have h2 := (hat p hp).2 u hg
      rw [h2] at h1
      simpa using h1.symm
    | none =>
      have h3 := (hat p hp).1
      rw [hg] at h3
      have h2 := Maps.atKey_of_not_has h3 (DataW.lit (Lit.bool false) : DataW Unit)
      rw [h2] at h1
      simpa using h1.symm
  rw [← hcc]
  exact hrun
/-- 'len(m)'. -/
theorem MapB.len {w : World} {mb : Nat} {S : List (Pl × Int)} (h : MapB w mb S) (ty : TypeId) : (Builtin.len_ #[84] ty #[.map (some mb)]).run Try.prog w = .ok (.int .i64 S.length) w := by
  obtain ⟨ho, D, hown, hs, hat⟩ := h
  rw [← hs]
  exact hown.len Try.underlying84 ty
/-- 'm[p] = v'. -/
theorem MapB.put {w : World} {mb : Nat} {S : List (Pl × Int)} (h : MapB w mb S) (p : Pl) (hp : p.Ok) (v : Int) (hl : S.length < 1000) :
    ∃ w', (Instr.mapUpdate 84 (.map (some mb)) p.val (.bool true)).run Try.prog w = .ok () w' ∧ MapB w' mb (sput S p v) ∧ Keeps (At mb) w w' := by
  obtain ⟨ho, D, hown, hs, hat⟩ := h
  obtain ⟨w', hrun, hown', ht⟩ := hown.store law57 Try.underlying84 (by unfold maxLen; omega) (key57 p hp) (plainElem_bool Try.underlying4 true)
  have hT := hown.tidy law57
  refine ⟨w', hrun, ⟨once_put ho p v, _, own_tightB hown', ?_, fun q hq => ?_⟩, turned_keeps ht⟩
  · rw [Maps.size_put hT, sput_len, (hat p hp).1, hs]
  · rw [sget_put]
    by_cases e : p = q
    · subst e
      rw [if_pos rfl]
      refine ⟨by rw [Maps.has_put_same hT.isMap (lit_key p)]; rfl, fun u hu => ?_⟩
      injection hu with hu
      subst hu
      exact Maps.atKey_put_same hT.isMap (lit_key p) _ _
    · rw [if_neg e]
      have hne : q.lit ≠ p.lit := fun h => e (lit_inj hq hp h).symm
      exact ⟨by rw [Maps.has_put_other hne]; exact (hat q hq).1, fun u hu => by rw [Maps.atKey_put_other hne]; exact (hat q hq).2 u hu⟩
/-- 'delete(m, p)'. -/
theorem MapB.drop {w : World} {mb : Nat} {S : List (Pl × Int)} (h : MapB w mb S) (p : Pl) (hp : p.Ok) (ty : TypeId) :
    ∃ w', (Builtin.delete_ #[84, 57] ty #[.map (some mb), p.val]).run Try.prog w = .ok (.tuple #[]) w' ∧ MapB w' mb (sdel S p) ∧ Keeps (At mb) w w' := by
  obtain ⟨ho, D, hown, hs, hat⟩ := h
  obtain ⟨w', hrun, hown', ht⟩ := hown.drop law57 Try.underlying84 (key57 p hp) ty
  have hT := hown.tidy law57
  refine ⟨w', hrun, ⟨once_del ho p, _, own_tightB hown', ?_, fun q hq => ?_⟩, turned_keeps ht⟩
  · have h1 := Maps.size_del (k := p.lit) hT
    have h2 := sdel_len ho p
    rw [(hat p hp).1] at h1
    omega
  · rw [sget_del]
    by_cases e : p = q
    · subst e
      rw [if_pos rfl]
      exact ⟨by rw [Maps.has_del_same]; rfl, fun u hu => by cases hu⟩
    · rw [if_neg e]
      have hne : q.lit ≠ p.lit := fun h => e (lit_inj hq hp h).symm
      exact ⟨by rw [Maps.has_del_other hne]; exact (hat q hq).1, fun u hu => by rw [Maps.atKey_del_other hne]; exact (hat q hq).2 u hu⟩
end Go.Proofs.Ytdmjpgefoppfmaa
