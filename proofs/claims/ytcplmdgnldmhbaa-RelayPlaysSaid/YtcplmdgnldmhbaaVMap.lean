/-
  Layer 7: a table of VLANs as a list of numbers and sets of ports. No condition.
-/
import Derived.Test.YtcplmdgnldmhbaaFState
namespace Go.Proofs.Ytcplmdgnldmhbaa
open Go.RowKit Go.Maps Go.ChangeShapes Go.WideShapes
set_option linter.unusedVariables false
set_option maxRecDepth 8000

def vp (v : Int) : Pl := ⟨v, 0, 0, 0, 0, 0, 0⟩
theorem vp_inj {v u : Int} (h : vp v = vp u) : v = u := congrArg Pl.v h
/-- How two sets of ports read. -/
def RV (v : Value) : Option (DataW Unit × List MemPlace) :=
  match v with
  | .agg xs => match xs.toList with
    | [.int .u8 a, .int .u8 b] => if (0 ≤ a ∧ a < 256) ∧ (0 ≤ b ∧ b < 256) then some (.lit (.int .i64 (a * 256 + b)), []) else none
    | _ => none
  | _ => none
theorem RV_mk {a b : Int} (ha : 0 ≤ a ∧ a < 256) (hb : 0 ≤ b ∧ b < 256) : RV (.agg #[.int .u8 a, .int .u8 b]) = some (.lit (.int .i64 (a * 256 + b)), []) := by
  simp [RV, ha, hb]
theorem RV_inv {v : Value} {z : DataW Unit × List MemPlace} (h : RV v = some z) : ∃ a b : Int, (0 ≤ a ∧ a < 256) ∧ (0 ≤ b ∧ b < 256) ∧ v = .agg #[.int .u8 a, .int .u8 b] ∧ z = (.lit (.int .i64 (a * 256 + b)), []) := by
  unfold RV at h
  split at h
  · rename_i xs
    split at h
    · rename_i a b hx
      split at h
      · rename_i hr
        injection h with h
        refine ⟨a, b, hr.1, hr.2, ?_, h.symm⟩
        obtain ⟨l⟩ := xs
        simp at hx
        subst hx
        rfl
      · cases h
    · cases h
  · cases h
theorem zero85 (w : World) : (zeroValue 85).run Try.prog w = .ok (.agg #[.int .u8 0, .int .u8 0]) w := by kernel_rfl
theorem lawV : Keyed Try.prog 29 := int_keyed Try.underlying29
theorem keyV {v : Int} (h : 0 ≤ v ∧ v < 65536) : keyOf Try.prog 29 (.int .u16 v) = some (.int .u16 v) := keyOf_int_mk Try.underlying29 (wf16 h)

/-- Block mb is a map that holds these VLANs. -/
def MapV (w : World) (mb : Nat) (S : List (Pl × Int)) : Prop :=
  Once S ∧ ∃ D : DataW Unit, w.ownsMap Try.prog 29 RV mb (Maps.size D) D ∧ Maps.size D = S.length ∧ ∀ v : Int, 0 ≤ v ∧ v < 65536 → Maps.has D (.int .u16 v) = (sget S (vp v)).isSome ∧ ∀ u, sget S (vp v) = some u → D.atKey (.int .u16 v) (.lit (.int .i64 0)) = .lit (.int .i64 u)
theorem own_tightV {w : World} {b n : Nat} {D : DataW Unit} (h : w.ownsMap Try.prog 29 RV b n D) : w.ownsMap Try.prog 29 RV b (Maps.size D) D := by
  obtain ⟨es, clock, hb, F, hs, hD⟩ := h
  refine ⟨es, clock, hb, F, ?_, hD⟩
  rw [hD]
  simp [Maps.size, length_sorted]
theorem MapV.made (w : World) : MapV (w.alloc (.map #[] 0)) w.heap.size [] :=
  ⟨by simp [Once], .map [], World.ownsMap_made w _ _ _, rfl, fun p _ => ⟨rfl, fun v hv => by simp [sget] at hv⟩⟩
theorem MapV.lt {w : World} {mb : Nat} {S : List (Pl × Int)} (h : MapV w mb S) : mb < w.heap.size := by
  obtain ⟨_, D, h, _⟩ := h; exact h.lt
theorem MapV.raw {w : World} {mb : Nat} {S : List (Pl × Int)} (h : MapV w mb S) : ∃ es cl, w.heap[mb]? = some (.map es cl) := by
  obtain ⟨_, D, ⟨es, cl, hb, _⟩, _⟩ := h
  exact ⟨es, cl, hb⟩
theorem MapV.keep {T : Nat → Prop} {w w' : World} {mb : Nat} {S : List (Pl × Int)} (h : MapV w mb S) (k : Keeps T w w') (hT : ¬ T mb) : MapV w' mb S := by
  have hl := h.lt
  obtain ⟨ho, D, ⟨es, clock, hb, r⟩, r'⟩ := h
  exact ⟨ho, D, ⟨es, clock, (k.block mb hl hT).trans hb, r⟩, r'⟩
/-- What a VLAN has: members and untagged ones, as one number. -/
def vcode (S : List (Pl × Int)) (v : Int) : Int := (sget S (vp v)).getD 0
theorem MapV.read {w : World} {mb : Nat} {S : List (Pl × Int)} (h : MapV w mb S) {v : Int} (hv : 0 ≤ v ∧ v < 65536) {D : DataW Unit} {a b : Int} {ps : List MemPlace} (ha : 0 ≤ a ∧ a < 256) (hb : 0 ≤ b ∧ b < 256)
    (hat : Maps.has D (.int .u16 v) = (sget S (vp v)).isSome ∧ ∀ u, sget S (vp v) = some u → D.atKey (.int .u16 v) (.lit (.int .i64 0)) = .lit (.int .i64 u))
    (hz : (D.atKey (.int .u16 v) (.lit (.int .i64 0)), ps) = (DataW.lit (Lit.int .i64 (a * 256 + b)), [])) : a = vcode S v / 256 ∧ b = vcode S v % 256 := by
  have h1 := congrArg Prod.fst hz
  simp only at h1
  have hc : a * 256 + b = vcode S v := by
    unfold vcode
    cases hg : sget S (vp v) with
    | some u =>
      rw [hat.2 u hg] at h1
      simpa using h1.symm
    | none =>
      have h3 := hat.1
      rw [hg] at h3
      have h2 := Maps.atKey_of_not_has h3 (DataW.lit (Lit.int .i64 0) : DataW Unit)
      rw [h2] at h1
      simpa using h1.symm
  omega
/-- 'v, ok := m[p]'. -/
theorem MapV.look {w : World} {mb : Nat} {S : List (Pl × Int)} (h : MapV w mb S) {v : Int} (hv : 0 ≤ v ∧ v < 65536) :
    (Instr.lookup 79 (.map (some mb)) (.int .u16 v) true).run Try.prog w = .ok (.tuple #[.agg #[.int .u8 (vcode S v / 256), .int .u8 (vcode S v % 256)], .bool (sget S (vp v)).isSome]) w := by
  have h' := h
  obtain ⟨ho, D, hown, hs, hat⟩ := h
  obtain ⟨x, ps, hrun, hx⟩ := hown.look_ok lawV Try.underlying79 (zero85 w) (RV_mk (by decide) (by decide)) (keyV hv)
  obtain ⟨a, b, ha, hb, rfl, hz⟩ := RV_inv hx
  obtain ⟨e1, e2⟩ := h'.read hv ha hb (hat v hv) hz
  rw [(hat v hv).1] at hrun
  rw [← e1, ← e2]
  exact hrun
/-- 'm[p]'. -/
theorem MapV.get {w : World} {mb : Nat} {S : List (Pl × Int)} (h : MapV w mb S) {v : Int} (hv : 0 ≤ v ∧ v < 65536) :
    (Instr.lookup 79 (.map (some mb)) (.int .u16 v) false).run Try.prog w = .ok (.agg #[.int .u8 (vcode S v / 256), .int .u8 (vcode S v % 256)]) w := by
  have h' := h
  obtain ⟨ho, D, hown, hs, hat⟩ := h
  obtain ⟨x, ps, hrun, hx⟩ := hown.lookup lawV Try.underlying79 (zero85 w) (RV_mk (by decide) (by decide)) (keyV hv)
  obtain ⟨a, b, ha, hb, rfl, hz⟩ := RV_inv hx
  obtain ⟨e1, e2⟩ := h'.read hv ha hb (hat v hv) hz
  rw [← e1, ← e2]
  exact hrun
/-- 'len(m)'. -/
theorem MapV.len {w : World} {mb : Nat} {S : List (Pl × Int)} (h : MapV w mb S) (ty : TypeId) : (Builtin.len_ #[79] ty #[.map (some mb)]).run Try.prog w = .ok (.int .i64 S.length) w := by
  obtain ⟨ho, D, hown, hs, hat⟩ := h
  rw [← hs]
  exact hown.len Try.underlying79 ty
/-- 'm[p] = v'. -/
theorem MapV.put {w : World} {mb : Nat} {S : List (Pl × Int)} (h : MapV w mb S) {v : Int} (hv : 0 ≤ v ∧ v < 65536) {a b : Int} (ha : 0 ≤ a ∧ a < 256) (hb : 0 ≤ b ∧ b < 256) (hl : S.length < 1000) :
    ∃ w', (Instr.mapUpdate 79 (.map (some mb)) (.int .u16 v) (.agg #[.int .u8 a, .int .u8 b])).run Try.prog w = .ok () w' ∧ MapV w' mb (sput S (vp v) (a * 256 + b)) ∧ Keeps (At mb) w w' := by
  obtain ⟨ho, D, hown, hs, hat⟩ := h
  obtain ⟨w', hrun, hown', ht⟩ := hown.store lawV Try.underlying79 (by unfold maxLen; omega) (keyV hv) (RV_mk ha hb)
  have hT := hown.tidy lawV
  refine ⟨w', hrun, ⟨once_put ho _ _, _, own_tightV hown', ?_, fun q hq => ?_⟩, turned_keeps ht⟩
  · rw [Maps.size_put hT, sput_len, (hat v hv).1, hs]
  · rw [sget_put]
    by_cases e : v = q
    · subst e
      rw [if_pos rfl]
      refine ⟨by rw [Maps.has_put_same hT.isMap (show WideAt.IsKeyLit (Lit.int .u16 v) from trivial)]; rfl, fun u hu => ?_⟩
      injection hu with hu
      subst hu
      exact Maps.atKey_put_same hT.isMap (show WideAt.IsKeyLit (Lit.int .u16 v) from trivial) _ _
    · rw [if_neg (fun h => e (vp_inj h))]
      have hne : (Lit.int .u16 q) ≠ (Lit.int .u16 v) := fun h => e (by injection h with _ h; exact h.symm)
      exact ⟨by rw [Maps.has_put_other hne]; exact (hat q hq).1, fun u hu => by rw [Maps.atKey_put_other hne]; exact (hat q hq).2 u hu⟩
end Go.Proofs.Ytcplmdgnldmhbaa
