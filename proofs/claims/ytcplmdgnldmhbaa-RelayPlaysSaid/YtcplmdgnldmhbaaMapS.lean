/-
  Layer 8: the map of static entries, as a list of places and ports. No condition.
-/
import Derived.Test.YtcplmdgnldmhbaaDel
import Derived.Maps.OwnSet
import Derived.Maps.Views
import Derived.DeepKeys4
namespace Go.Proofs.Ytcplmdgnldmhbaa
open Go.RowKit Go.Maps Go.ChangeShapes Go.WideShapes
set_option linter.unusedVariables false
set_option maxRecDepth 8000

theorem laidOut0 : laidOutB Try.prog = true := by kernel_rfl
theorem row71 : (88 : TypeId) < Try.prog.types.size := of_decide_eq_true (by kernel_rfl)
theorem wide71 : (match Try.prog.underlying 88 with | some (.array _ _) | some (.struct _) => true | _ => false) = true := by kernel_rfl
theorem law71 : Keyed Try.prog 88 := Keyed.of_law (deep_law_laid laidOut0 (m := 4) (by omega) row71 (by kernel_rfl) wide71)
theorem zero5 (w : World) : (zeroValue 5).run Try.prog w = .ok (.int .u8 0) w := by kernel_rfl

/-- A place's numbers are in range. -/
def Pl.Ok (p : Pl) : Prop := (0 ≤ p.v ∧ p.v < 65536) ∧ (0 ≤ p.a ∧ p.a < 256) ∧ (0 ≤ p.b ∧ p.b < 256) ∧ (0 ≤ p.c ∧ p.c < 256) ∧ (0 ≤ p.d ∧ p.d < 256) ∧ (0 ≤ p.e ∧ p.e < 256) ∧ (0 ≤ p.f ∧ p.f < 256)
def Pl.lits (p : Pl) : List Lit := [.int .u16 p.v, .int .u8 p.a, .int .u8 p.b, .int .u8 p.c, .int .u8 p.d, .int .u8 p.e, .int .u8 p.f]
def Pl.lit (p : Pl) : Lit := .string (keyBytes p.lits)
theorem wf16 {n : Int} (h : 0 ≤ n ∧ n < 65536) : (Lit.int .u16 n).wf = true := by
  have e1 : IntKind.u16.min = 0 := by decide
  have e2 : IntKind.u16.max = 65535 := by decide
  simp [Lit.wf, e1, e2]; omega
theorem wf8 {n : Int} (h : 0 ≤ n ∧ n < 256) : (Lit.int .u8 n).wf = true := by
  have e1 : IntKind.u8.min = 0 := by decide
  have e2 : IntKind.u8.max = 255 := by decide
  simp [Lit.wf, e1, e2]; omega
theorem key71 (p : Pl) (h : p.Ok) : keyOf Try.prog 88 p.val = some p.lit := by
  obtain ⟨h0, h1, h2, h3, h4, h5, h6⟩ := h
  have kt : Try.prog.keyType 88 = true := by kernel_rfl
  have c71 : Try.prog.cellsOf 88 = 7 := by kernel_rfl
  have c25 : Try.prog.cellsOf 31 = 6 := by kernel_rfl
  have c23 : Try.prog.cellsOf 29 = 1 := by kernel_rfl
  have c5 : Try.prog.cellsOf 5 = 1 := by kernel_rfl
  have hsz : ∃ m, Try.prog.types.size + 1 = m + 4 := ⟨Try.prog.types.size - 3, by have : 88 < Try.prog.types.size := row71; omega⟩
  obtain ⟨m, hm⟩ := hsz
  have e0 : List.range 6 = [0, 1, 2, 3, 4, 5] := rfl
  have w0 := wf16 h0
  have w1 := wf8 h1
  have w2 := wf8 h2
  have w3 := wf8 h3
  have w4 := wf8 h4
  have w5 := wf8 h5
  have w6 := wf8 h6
  unfold keyOf
  simp only [Try.underlying88]
  rw [if_pos (by simp [kt, Value.formed, Try.underlying88, c71]), hm]
  simp [Program.keyLits, Try.underlying88, Try.underlying31, Try.underlying29, Try.underlying5, c71, c25, c23, c5, Value.cells, e0, w0, w1, w2, w3, w4, w5, w6, Pl.lit, Pl.lits]

theorem lit_inj {p q : Pl} (hp : p.Ok) (hq : q.Ok) (h : p.lit = q.lit) : p = q := by
  have h1 := key71 p hp
  have h2 := key71 q hq
  rw [← h] at h2
  have := law71.inj h1 h2
  simp at this
  obtain ⟨v, a, b, c, d, e, f⟩ := p
  obtain ⟨v', a', b', c', d', e', f'⟩ := q
  simp_all
theorem lit_key (p : Pl) : WideAt.IsKeyLit p.lit := trivial

/-! Static entries as plain data: who was set first ahead. -/
def sget (S : List (Pl × Int)) (p : Pl) : Option Int := (S.find? (fun x => decide (x.1 = p))).map (·.2)
def sput (S : List (Pl × Int)) (p : Pl) (v : Int) : List (Pl × Int) := if (sget S p).isSome then S.map (fun x => if x.1 = p then (p, v) else x) else S ++ [(p, v)]
def sdel (S : List (Pl × Int)) (p : Pl) : List (Pl × Int) := S.filter (fun x => decide (x.1 ≠ p))
def Once (S : List (Pl × Int)) : Prop := (S.map (·.1)).Nodup

theorem sget_none {S : List (Pl × Int)} {p : Pl} (h : sget S p = none) : ∀ x ∈ S, x.1 ≠ p := by
  unfold sget at h
  simp at h
  intro x hx e
  exact h x.1 x.2 hx e
theorem sget_map (S : List (Pl × Int)) (p q : Pl) (v : Int) : sget (S.map (fun x => if x.1 = p then (p, v) else x)) q = if p = q then (sget S p).map (fun _ => v) else sget S q := by
  induction S with
  | nil => by_cases h : p = q <;> simp [sget, h]
  | cons x r ih =>
    unfold sget at ih ⊢
    rw [List.map_cons, List.find?_cons, List.find?_cons, List.find?_cons]
    by_cases hx : x.1 = p
    · by_cases h : p = q
      · simp [hx, h]
      · have : x.1 ≠ q := fun e => h (hx ▸ e)
        simp only [hx, if_true, h, decide_false, if_false]
        rw [ih]
        simp [h]
    · by_cases h : p = q
      · subst h
        simp only [hx, if_false, decide_false]
        rw [ih]
        simp
      · simp only [hx, if_false, h]
        by_cases hq : x.1 = q
        · simp [hq]
        · simp only [hq, decide_false]
          rw [ih]
          simp [h]
theorem sget_append (S : List (Pl × Int)) (p q : Pl) (v : Int) (h : sget S p = none) : sget (S ++ [(p, v)]) q = if p = q then some v else sget S q := by
  unfold sget
  rw [List.find?_append]
  by_cases hq : p = q
  · subst hq
    have : S.find? (fun x => decide (x.1 = p)) = none := by unfold sget at h; simpa using h
    rw [this]
    simp
  · cases hf : S.find? (fun x => decide (x.1 = q)) <;> simp [hq]
theorem sget_put (S : List (Pl × Int)) (p q : Pl) (v : Int) : sget (sput S p v) q = if p = q then some v else sget S q := by
  unfold sput
  cases h : sget S p with
  | none => simp only [Option.isSome_none, Bool.false_eq_true, if_false]; exact sget_append S p q v h
  | some u =>
    simp only [Option.isSome_some, if_true]
    rw [sget_map, h]
    by_cases hq : p = q
    · simp [hq]
    · simp [hq]
theorem sget_del (S : List (Pl × Int)) (p q : Pl) : sget (sdel S p) q = if p = q then none else sget S q := by
  unfold sdel sget
  induction S with
  | nil => by_cases h : p = q <;> simp [h]
  | cons x r ih =>
    rw [List.filter_cons, List.find?_cons]
    by_cases hx : x.1 = p
    · have : decide (x.1 ≠ p) = false := by simp [hx]
      rw [this]
      simp only [Bool.false_eq_true, if_false]
      rw [ih]
      by_cases h : p = q
      · simp [h]
      · have hq : x.1 ≠ q := fun e => h (hx ▸ e)
        simp [h, hq]
    · have : decide (x.1 ≠ p) = true := by simp [hx]
      rw [this]
      simp only [if_true]
      rw [List.find?_cons]
      by_cases hq : x.1 = q
      · have h : p ≠ q := fun e => hx (hq.trans e.symm)
        simp [hq, h]
      · simp only [hq, decide_false]
        exact ih
theorem sput_len (S : List (Pl × Int)) (p : Pl) (v : Int) : (sput S p v).length = if (sget S p).isSome then S.length else S.length + 1 := by
  unfold sput; split <;> simp
theorem once_put {S : List (Pl × Int)} (h : Once S) (p : Pl) (v : Int) : Once (sput S p v) := by
  unfold sput Once at *
  cases hg : sget S p with
  | some u =>
    simp only [Option.isSome_some, if_true]
    have : (S.map (fun x => if x.1 = p then (p, v) else x)).map (·.1) = S.map (·.1) := by
      rw [List.map_map]
      apply List.map_congr_left
      intro x _
      simp only [Function.comp]
      by_cases hx : x.1 = p <;> simp [hx]
    rw [this]
    exact h
  | none =>
    simp only [Option.isSome_none, Bool.false_eq_true, if_false]
    rw [List.map_append, List.nodup_append]
    refine ⟨h, by simp, ?_⟩
    intro a ha b hb
    obtain ⟨x, hx, rfl⟩ := List.mem_map.1 ha
    simp at hb
    subst hb
    exact sget_none hg x hx
theorem once_del {S : List (Pl × Int)} (h : Once S) (p : Pl) : Once (sdel S p) := by
  unfold Once sdel at *
  exact List.Nodup.sublist (List.Sublist.map _ List.filter_sublist) h
theorem sdel_len {S : List (Pl × Int)} (h : Once S) (p : Pl) : (sdel S p).length + (if (sget S p).isSome then 1 else 0) = S.length := by
  unfold Once at h
  induction S with
  | nil => simp [sdel, sget]
  | cons x r ih =>
    rw [List.map_cons, List.nodup_cons] at h
    have ih := ih h.2
    unfold sdel sget at *
    rw [List.filter_cons, List.find?_cons]
    by_cases hx : x.1 = p
    · have : decide (x.1 ≠ p) = false := by simp [hx]
      rw [this]
      simp only [hx, decide_true, Bool.false_eq_true, if_false]
      have hno : r.find? (fun y => decide (y.1 = p)) = none := by
        simp
        intro a b hab e
        exact h.1 (List.mem_map.2 ⟨(a, b), hab, by simp [e, hx]⟩)
      rw [hno] at ih
      simp at ih ⊢
      omega
    · have : decide (x.1 ≠ p) = true := by simp [hx]
      rw [this]
      simp only [hx, decide_false, if_true, List.length_cons]
      omega

/-- Block mb is a map that holds these static entries. -/
def MapIs (w : World) (mb : Nat) (S : List (Pl × Int)) : Prop :=
  Once S ∧ ∃ D : DataW Unit, w.ownsMap Try.prog 88 (plainElem Try.prog 5) mb (Maps.size D) D ∧ Maps.size D = S.length ∧ ∀ p : Pl, p.Ok → Maps.has D p.lit = (sget S p).isSome ∧ ∀ v, sget S p = some v → D.atKey p.lit (.lit (.int .u8 0)) = .lit (.int .u8 v)

theorem own_tight {w : World} {b n : Nat} {D : DataW Unit} (h : w.ownsMap Try.prog 88 (plainElem Try.prog 5) b n D) : w.ownsMap Try.prog 88 (plainElem Try.prog 5) b (Maps.size D) D := by
  obtain ⟨es, clock, hb, F, hs, hD⟩ := h
  refine ⟨es, clock, hb, F, ?_, hD⟩
  rw [hD]
  simp [Maps.size, length_sorted]

theorem MapIs.made (w : World) : MapIs (w.alloc (.map #[] 0)) w.heap.size [] :=
  ⟨by simp [Once], .map [], World.ownsMap_made w _ _ _, rfl, fun p _ => ⟨rfl, fun v hv => by simp [sget] at hv⟩⟩
theorem MapIs.lt {w : World} {mb : Nat} {S : List (Pl × Int)} (h : MapIs w mb S) : mb < w.heap.size := by
  obtain ⟨_, D, h, _⟩ := h; exact h.lt
theorem MapIs.keep {T : Nat → Prop} {w w' : World} {mb : Nat} {S : List (Pl × Int)} (h : MapIs w mb S) (k : Keeps T w w') (hT : ¬ T mb) : MapIs w' mb S := by
  have hl := h.lt
  obtain ⟨ho, D, ⟨es, clock, hb, r⟩, r'⟩ := h
  exact ⟨ho, D, ⟨es, clock, (k.block mb hl hT).trans hb, r⟩, r'⟩
/-- 'v, ok := m[p]'. -/
theorem MapIs.look {w : World} {mb : Nat} {S : List (Pl × Int)} (h : MapIs w mb S) (p : Pl) (hp : p.Ok) :
    (Instr.lookup 89 (.map (some mb)) p.val true).run Try.prog w = .ok (.tuple #[.int .u8 ((sget S p).getD 0), .bool (sget S p).isSome]) w := by
  obtain ⟨ho, D, hown, hs, hat⟩ := h
  obtain ⟨v, ps, hrun, hv⟩ := hown.look_ok law71 Try.underlying89 (zero5 w) (plainElem_int Try.underlying5 (by decide)) (key71 p hp)
  obtain ⟨c, rfl, hc, hwc⟩ := plainElem_int_inv Try.underlying5 hv
  rw [(hat p hp).1] at hrun
  have h1 := congrArg Prod.fst hc
  simp only at h1
  have hcc : c = (sget S p).getD 0 := by
    cases hg : sget S p with
    | some u =>
      have h2 := (hat p hp).2 u hg
      rw [h2] at h1
      simpa using h1.symm
    | none =>
      have h3 := (hat p hp).1
      rw [hg] at h3
      have h2 := Maps.atKey_of_not_has h3 (DataW.lit (Lit.int .u8 0) : DataW Unit)
      rw [h2] at h1
      simpa using h1.symm
  rw [← hcc]
  exact hrun
/-- 'len(m)'. -/
theorem MapIs.len {w : World} {mb : Nat} {S : List (Pl × Int)} (h : MapIs w mb S) (ty : TypeId) : (Builtin.len_ #[89] ty #[.map (some mb)]).run Try.prog w = .ok (.int .i64 S.length) w := by
  obtain ⟨ho, D, hown, hs, hat⟩ := h
  rw [← hs]
  exact hown.len Try.underlying89 ty
theorem turned_keeps {w w' : World} {mb : Nat} (h : w.mapTurned w' mb) : Keeps (At mb) w w' := by
  have g := h.grown
  exact ⟨g.os, g.tape, g.output, g.size, fun k hk hs => g.block k hk (fun e => hs (by injection e))⟩
/-- 'm[p] = v'. -/
theorem MapIs.put {w : World} {mb : Nat} {S : List (Pl × Int)} (h : MapIs w mb S) (p : Pl) (hp : p.Ok) (v : Int) (hv : 0 ≤ v ∧ v < 256) (hl : S.length < 1000) :
    ∃ w', (Instr.mapUpdate 89 (.map (some mb)) p.val (.int .u8 v)).run Try.prog w = .ok () w' ∧ MapIs w' mb (sput S p v) ∧ Keeps (At mb) w w' := by
  obtain ⟨ho, D, hown, hs, hat⟩ := h
  obtain ⟨w', hrun, hown', ht⟩ := hown.store law71 Try.underlying89 (by unfold maxLen; omega) (key71 p hp) (plainElem_int Try.underlying5 (wf8 hv))
  have hT := hown.tidy law71
  refine ⟨w', hrun, ⟨once_put ho p v, _, own_tight hown', ?_, fun q hq => ?_⟩, turned_keeps ht⟩
  · rw [Maps.size_put hT, sput_len, (hat p hp).1, hs]
  · rw [sget_put]
    by_cases e : p = q
    · subst e
      rw [if_pos rfl]
      refine ⟨by rw [Maps.has_put_same hT.isMap (lit_key p)]; rfl, fun u hu => ?_⟩
      injection hu with hu
      subst hu
      exact Maps.atKey_put_same hT.isMap (lit_key p) _ _
    · rw [if_neg e]
      have hne : q.lit ≠ p.lit := fun h => e (lit_inj hq hp h).symm
      exact ⟨by rw [Maps.has_put_other hne]; exact (hat q hq).1, fun u hu => by rw [Maps.atKey_put_other hne]; exact (hat q hq).2 u hu⟩
/-- 'delete(m, p)'. -/
theorem MapIs.drop {w : World} {mb : Nat} {S : List (Pl × Int)} (h : MapIs w mb S) (p : Pl) (hp : p.Ok) (ty : TypeId) :
    ∃ w', (Builtin.delete_ #[89, 88] ty #[.map (some mb), p.val]).run Try.prog w = .ok (.tuple #[]) w' ∧ MapIs w' mb (sdel S p) ∧ Keeps (At mb) w w' := by
  obtain ⟨ho, D, hown, hs, hat⟩ := h
  obtain ⟨w', hrun, hown', ht⟩ := hown.drop law71 Try.underlying89 (key71 p hp) ty
  have hT := hown.tidy law71
  refine ⟨w', hrun, ⟨once_del ho p, _, own_tight hown', ?_, fun q hq => ?_⟩, turned_keeps ht⟩
  · have h1 := Maps.size_del (k := p.lit) hT
    have h2 := sdel_len ho p
    rw [(hat p hp).1] at h1
    omega
  · rw [sget_del]
    by_cases e : p = q
    · subst e
      rw [if_pos rfl]
      exact ⟨by rw [Maps.has_del_same]; rfl, fun u hu => by cases hu⟩
    · rw [if_neg e]
      have hne : q.lit ≠ p.lit := fun h => e (lit_inj hq hp h).symm
      exact ⟨by rw [Maps.has_del_other hne]; exact (hat q hq).1, fun u hu => by rw [Maps.atKey_del_other hne]; exact (hat q hq).2 u hu⟩
end Go.Proofs.Ytcplmdgnldmhbaa
