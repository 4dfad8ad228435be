/-
  Cells stored all at once; an act's cells; whether there is too much. Condition: the acts lie in their cells.
-/
import Derived.Test.YtcplmdgnldmhbaaRNil2
import Derived.Test.YtcplmdgnldmhbaaRLaw
import Derived.Deep.DeepCutAuto
import Derived.Deep.CutBlock
namespace Go.Proofs.Ytcplmdgnldmhbaa
open Go.RowKit
set_option linter.unusedVariables false
set_option linter.unusedSimpArgs false
set_option maxRecDepth 8000

def setAll (c : Array Value) : Nat → List Value → Array Value
  | _, [] => c
  | o, v :: r => setAll (c.setIfInBounds o v) (o + 1) r
theorem setCells_block {b : Nat} {t : TypeId} {fz : Nat × Nat} : ∀ (vs : List Value) (o : Nat) (c : Array Value) (w : World), w.heap[b]? = some (.cells c t fz) → (w.setCells b o vs).heap[b]? = some (.cells (setAll c o vs) t fz)
  | [], _, _, _, h => h
  | v :: r, o, c, w, h => setCells_block r (o + 1) _ _ (setCell_block h o v)
theorem setAll_all : ∀ (vs : List Value) (o : Nat) (c : Array Value), c.size = o + vs.length → setAll c o vs = (c.toList.take o ++ vs).toArray
  | [], o, c, h => by
    show c = _
    rw [List.append_nil, List.take_of_length_le (by simp at h ⊢; omega)]
  | v :: r, o, c, h => by
    show setAll (c.setIfInBounds o v) (o + 1) r = _
    rw [List.length_cons] at h
    rw [setAll_all r (o + 1) _ (by rw [Array.size_setIfInBounds]; omega)]
    congr 1
    have : (c.setIfInBounds o v).toList.take (o + 1) = c.toList.take o ++ [v] := by
      rw [Array.toList_setIfInBounds, List.take_add_one]
      rw [List.take_set_of_le (Nat.le_refl o)]
      congr 1
      rw [List.getElem?_set_self (by simp; omega)]
      rfl
    rw [this, List.append_assoc]
    rfl
theorem Keeps.setCells {T : Nat → Prop} {a : World} {b : Nat} (hb : b < a.heap.size → T b) : ∀ (vs : List Value) (o : Nat) (w : World), Keeps T a w → Keeps T a (w.setCells b o vs)
  | [], _, _, h => h
  | v :: r, o, w, h => Keeps.setCells hb r (o + 1) _ (Keeps.setCell h (p := ⟨b, o, Option.none⟩) hb v)
theorem act_cells {w : World} {b : Nat} {x : RAct} (h : w.heap[b]? = some (.cells #[Value.int IntKind.u8 x.d, Value.int IntKind.u16 x.m.v, Value.int IntKind.u8 x.set, Value.int IntKind.u8 x.som, Value.int IntKind.u8 x.m.a, Value.int IntKind.u8 x.m.b, Value.int IntKind.u8 x.m.c, Value.int IntKind.u8 x.m.d, Value.int IntKind.u8 x.m.e, Value.int IntKind.u8 x.m.f, Value.int IntKind.i64 x.inn, Value.int IntKind.u8 x.f.dst.a, Value.int IntKind.u8 x.f.dst.b, Value.int IntKind.u8 x.f.dst.c, Value.int IntKind.u8 x.f.dst.d, Value.int IntKind.u8 x.f.dst.e, Value.int IntKind.u8 x.f.dst.f, Value.int IntKind.u8 x.f.src.a, Value.int IntKind.u8 x.f.src.b, Value.int IntKind.u8 x.f.src.c, Value.int IntKind.u8 x.f.src.d, Value.int IntKind.u8 x.f.src.e, Value.int IntKind.u8 x.f.src.f, Value.bool x.f.tag, Value.int IntKind.u8 x.f.pri, Value.int IntKind.u16 x.f.fvid, Value.int IntKind.u16 x.f.ty, Value.string x.f.data] 35 (0, 0))) : w.cell? ⟨b, 0, Option.none⟩ = some (.int .u8 x.d) ∧ w.cell? ⟨b, 1, Option.none⟩ = some (.int .u16 x.m.v) ∧ w.cell? ⟨b, 2, Option.none⟩ = some (.int .u8 x.set) ∧ w.cell? ⟨b, 3, Option.none⟩ = some (.int .u8 x.som) ∧ w.cell? ⟨b, 4, Option.none⟩ = some (.int .u8 x.m.a) ∧ w.cell? ⟨b, 5, Option.none⟩ = some (.int .u8 x.m.b) ∧ w.cell? ⟨b, 6, Option.none⟩ = some (.int .u8 x.m.c) ∧ w.cell? ⟨b, 7, Option.none⟩ = some (.int .u8 x.m.d) ∧ w.cell? ⟨b, 8, Option.none⟩ = some (.int .u8 x.m.e) ∧ w.cell? ⟨b, 9, Option.none⟩ = some (.int .u8 x.m.f) ∧ w.cell? ⟨b, 10, Option.none⟩ = some (.int .i64 x.inn) ∧ w.cell? ⟨b, 11, Option.none⟩ = some (.int .u8 x.f.dst.a) ∧ w.cell? ⟨b, 12, Option.none⟩ = some (.int .u8 x.f.dst.b) ∧ w.cell? ⟨b, 13, Option.none⟩ = some (.int .u8 x.f.dst.c) ∧ w.cell? ⟨b, 14, Option.none⟩ = some (.int .u8 x.f.dst.d) ∧ w.cell? ⟨b, 15, Option.none⟩ = some (.int .u8 x.f.dst.e) ∧ w.cell? ⟨b, 16, Option.none⟩ = some (.int .u8 x.f.dst.f) ∧ w.cell? ⟨b, 17, Option.none⟩ = some (.int .u8 x.f.src.a) ∧ w.cell? ⟨b, 18, Option.none⟩ = some (.int .u8 x.f.src.b) ∧ w.cell? ⟨b, 19, Option.none⟩ = some (.int .u8 x.f.src.c) ∧ w.cell? ⟨b, 20, Option.none⟩ = some (.int .u8 x.f.src.d) ∧ w.cell? ⟨b, 21, Option.none⟩ = some (.int .u8 x.f.src.e) ∧ w.cell? ⟨b, 22, Option.none⟩ = some (.int .u8 x.f.src.f) := by
  simp [World.cell?, h]
theorem act_frame {w : World} {b : Nat} {x : RAct} (h : w.heap[b]? = some (.cells #[Value.int IntKind.u8 x.d, Value.int IntKind.u16 x.m.v, Value.int IntKind.u8 x.set, Value.int IntKind.u8 x.som, Value.int IntKind.u8 x.m.a, Value.int IntKind.u8 x.m.b, Value.int IntKind.u8 x.m.c, Value.int IntKind.u8 x.m.d, Value.int IntKind.u8 x.m.e, Value.int IntKind.u8 x.m.f, Value.int IntKind.i64 x.inn, Value.int IntKind.u8 x.f.dst.a, Value.int IntKind.u8 x.f.dst.b, Value.int IntKind.u8 x.f.dst.c, Value.int IntKind.u8 x.f.dst.d, Value.int IntKind.u8 x.f.dst.e, Value.int IntKind.u8 x.f.dst.f, Value.int IntKind.u8 x.f.src.a, Value.int IntKind.u8 x.f.src.b, Value.int IntKind.u8 x.f.src.c, Value.int IntKind.u8 x.f.src.d, Value.int IntKind.u8 x.f.src.e, Value.int IntKind.u8 x.f.src.f, Value.bool x.f.tag, Value.int IntKind.u8 x.f.pri, Value.int IntKind.u16 x.f.fvid, Value.int IntKind.u16 x.f.ty, Value.string x.f.data] 35 (0, 0))) : w.rangeAt b 11 x.f.cells := range_block h x.f.cells 11 (fun j v hv => by
  have : (x.cells)[11 + j]? = some v := by
    show ([_, _, _, _, _, _, _, _, _, _, _] ++ x.f.cells)[11 + j]? = some v
    rw [List.getElem?_append_right (by simp)]
    simpa using hv
  simpa using this)
/-- An act's cells, as one word. -/
def RAct.vals (x : RAct) : List Value := [Value.int IntKind.u8 x.d, Value.int IntKind.u16 x.m.v, Value.int IntKind.u8 x.set, Value.int IntKind.u8 x.som, Value.int IntKind.u8 x.m.a, Value.int IntKind.u8 x.m.b, Value.int IntKind.u8 x.m.c, Value.int IntKind.u8 x.m.d, Value.int IntKind.u8 x.m.e, Value.int IntKind.u8 x.m.f, Value.int IntKind.i64 x.inn, Value.int IntKind.u8 x.f.dst.a, Value.int IntKind.u8 x.f.dst.b, Value.int IntKind.u8 x.f.dst.c, Value.int IntKind.u8 x.f.dst.d, Value.int IntKind.u8 x.f.dst.e, Value.int IntKind.u8 x.f.dst.f, Value.int IntKind.u8 x.f.src.a, Value.int IntKind.u8 x.f.src.b, Value.int IntKind.u8 x.f.src.c, Value.int IntKind.u8 x.f.src.d, Value.int IntKind.u8 x.f.src.e, Value.int IntKind.u8 x.f.src.f, Value.bool x.f.tag, Value.int IntKind.u8 x.f.pri, Value.int IntKind.u16 x.f.fvid, Value.int IntKind.u16 x.f.ty, Value.string x.f.data]
theorem vals_eq (x : RAct) : x.vals = x.cells := rfl
theorem vals_one (x : RAct) : x.vals.toArray.all (·.oneCell') = true := all_oneCell_toArray (fun v hv => by
  simp [RAct.vals] at hv
  rcases hv with rfl | rfl | rfl | rfl | rfl | rfl | rfl | rfl | rfl | rfl | rfl | rfl | rfl | rfl | rfl | rfl | rfl | rfl | rfl | rfl | rfl | rfl | rfl | rfl | rfl | rfl | rfl | rfl <;> rfl)
theorem vals_size (x : RAct) : (Try.prog.info? 35).map (·.size) = some x.vals.length := by
  have : (Try.prog.info? 35).map (·.size) = some 28 := by kernel_rfl
  exact this
theorem vals_size' (x : RAct) : (Try.prog.info? 35).map (·.size) = some x.vals.toArray.size := by
  have : (Try.prog.info? 35).map (·.size) = some 28 := by kernel_rfl
  exact this
theorem vals_there (x : RAct) {w : World} {b : Nat} {c : Array Value} {t : TypeId} (h : w.heap[b]? = some (.cells c t (0, 0))) (hc : c.size = 28) : w.there b 0 x.vals.toArray.size := by
  have h1 := there_block h
  have : x.vals.toArray.size = 28 := rfl
  rw [this]
  rw [hc] at h1
  exact h1
theorem RActs.range {w : World} {b o n i : Nat} {l : List RAct} {x : RAct} (h : RActs w b o n l) (hx : l[i]? = some x) : w.rangeAt b (o + i * 28) x.vals := fun j v hv => (h.2 i x hx).1 j v hv
theorem RIs.ne_vm {w : World} {B r vt vm t mb m c : Nat} {p : Option Addr} {n : Int} {V : List (Pl × Int)} {τ : Tb} (h : RIs w B r vt vm t mb p m c n V τ) {k : Nat} {cs : Array Value} {T : TypeId} {f : Nat × Nat} (hk : w.heap[k]? = some (.cells cs T f)) : ¬ At vm k := fun e => by
  obtain ⟨es, cl, hb⟩ := h.2.1.2.raw
  rw [At] at e
  subst e
  rw [hk] at hb
  cases hb
theorem goes_good (V : List (Pl × Int)) {τ : Tb} {k : Nat} (g : τ.Good k) (inn : Int) (dst src : Pl) (set : Int) : (goesP V τ inn dst src set).2.Good (k + 1) := by
  unfold goesP
  split
  · exact g.more
  · split
    · rename_i h0
      split
      · exact g.more
      · exact g.learn _ _ h0
    · exact g.more
theorem vset_len {n : Int} {V : List (Pl × Int)} {v a b : Int} (h : V.length ≤ 8) : (vsetP n V v a b).1.length ≤ 8 := by
  unfold vsetP
  split
  · exact h
  · split
    · exact h
    · rename_i hn
      show (sput V (vp v) _).length ≤ 8
      rw [sput_len]
      split
      · exact h
      · rename_i hs
        have : ¬ 8 ≤ V.length := fun e => hn ⟨by simpa using hs, e⟩
        omega

set_option maxHeartbeats 8000000 in
theorem great_any (a : Option Addr) (n cap : Nat) (acts : List RAct) (w : World) (hm : n ≤ maxLen) (hll : acts.length = n) (h : 0 < n → ∃ b o, a = some ⟨b, o, Option.none⟩ ∧ b < w.heap.size ∧ RActs w b o n acts) :
    Calls Try.prog 6 #[.slice a n cap] w fun e w' => ∃ g : Bool, e = .returned (.bool g) ∧ (g = false → n ≤ 150) ∧ Keeps Nil w w' := by
  have HH := hid h
  have HN := hid hll
  clear h hll
  by_cases hn : 150 < n
  · unfold maxLen at hm
    go_enter Try.func6, Try.ntmps6
    go_wp2_with fail
    go_ret
    exact ⟨true, rfl, (fun h => by cases h), Keeps.refl _ _⟩
  clear hm
  go_enter Try.func6, Try.ntmps6
  go_wp2_with fail
  go_loopw [3] (fun v wr => ∃ k : Nat, k ≤ n ∧ v = .int .i64 k ∧ wr = w) (fun v _ => n - (intOf v).toNat)
  case atStart => exact ⟨0, Nat.zero_le _, rfl, rfl⟩
  case round =>
    obtain ⟨k, hk, rfl, rfl⟩ := hrel
    by_cases hlt : k < n
    · obtain ⟨b, o, rfl, hb, hr⟩ := HH.out (by omega)
      obtain ⟨x, ha⟩ : ∃ x, acts[k]? = some x := ⟨_, List.getElem?_eq_getElem (by have := hr.1; omega)⟩
      have hs := (hr.2 k x ha).1 27 _ rfl
      have hsz := (hr.2 k x ha).2.2.2.2.2.2.1.2.2.2.2.2
      unfold maxLen at hsz
      clear hr ha
      by_cases hg : 2000 < x.f.data.size
      · have hg' : decide ((2000 : Int) < (x.f.data.size : Int)) = true := by simp; omega
        go_wp2_with fail
        go_ret
        exact ⟨true, rfl, (fun h => by cases h), Keeps.refl _ _⟩
      · have hg' : decide ((2000 : Int) < (x.f.data.size : Int)) = false := by simp; omega
        go_wp2_with fail
        go_roundw
        case rel => exact ⟨k + 1, by omega, by go_num, by first | rfl | trivial⟩
        case measure => simp only [intOf]; omega
    · obtain rfl : k = n := by omega
      go_wp2_with fail
      go_ret
      exact ⟨false, rfl, fun _ => by omega, Keeps.refl _ _⟩

end Go.Proofs.Ytcplmdgnldmhbaa
