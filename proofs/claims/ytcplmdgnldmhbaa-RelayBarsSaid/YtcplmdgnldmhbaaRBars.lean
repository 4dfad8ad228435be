/-
  The statement RelayBars, walked. Condition: the acts lie in their cells; the numbers are in range.
-/
import Derived.Test.YtcplmdgnldmhbaaRNil2
import Derived.Test.YtcplmdgnldmhbaaRLaw
import Derived.Deep.DeepCutAuto
import Derived.Deep.CutBlock
namespace Go.Proofs.Ytcplmdgnldmhbaa
open Go.RowKit
set_option linter.unusedVariables false
set_option linter.unusedSimpArgs false
set_option maxRecDepth 8000

def setAll (c : Array Value) : Nat → List Value → Array Value
  | _, [] => c
  | o, v :: r => setAll (c.setIfInBounds o v) (o + 1) r
theorem setCells_block {b : Nat} {t : TypeId} {fz : Nat × Nat} : ∀ (vs : List Value) (o : Nat) (c : Array Value) (w : World), w.heap[b]? = some (.cells c t fz) → (w.setCells b o vs).heap[b]? = some (.cells (setAll c o vs) t fz)
  | [], _, _, _, h => h
  | v :: r, o, c, w, h => setCells_block r (o + 1) _ _ (setCell_block h o v)
theorem setAll_all : ∀ (vs : List Value) (o : Nat) (c : Array Value), c.size = o + vs.length → setAll c o vs = (c.toList.take o ++ vs).toArray
  | [], o, c, h => by
    show c = _
    rw [List.append_nil, List.take_of_length_le (by simp at h ⊢; omega)]
  | v :: r, o, c, h => by
    show setAll (c.setIfInBounds o v) (o + 1) r = _
    rw [List.length_cons] at h
    rw [setAll_all r (o + 1) _ (by rw [Array.size_setIfInBounds]; omega)]
    congr 1
    have : (c.setIfInBounds o v).toList.take (o + 1) = c.toList.take o ++ [v] := by
      rw [Array.toList_setIfInBounds, List.take_add_one]
      rw [List.take_set_of_le (Nat.le_refl o)]
      congr 1
      rw [List.getElem?_set_self (by simp; omega)]
      rfl
    rw [this, List.append_assoc]
    rfl
theorem Keeps.setCells {T : Nat → Prop} {a : World} {b : Nat} (hb : b < a.heap.size → T b) : ∀ (vs : List Value) (o : Nat) (w : World), Keeps T a w → Keeps T a (w.setCells b o vs)
  | [], _, _, h => h
  | v :: r, o, w, h => Keeps.setCells hb r (o + 1) _ (Keeps.setCell h (p := ⟨b, o, Option.none⟩) hb v)
theorem act_cells {w : World} {b : Nat} {x : RAct} (h : w.heap[b]? = some (.cells #[Value.int IntKind.u8 x.d, Value.int IntKind.u16 x.m.v, Value.int IntKind.u8 x.set, Value.int IntKind.u8 x.som, Value.int IntKind.u8 x.m.a, Value.int IntKind.u8 x.m.b, Value.int IntKind.u8 x.m.c, Value.int IntKind.u8 x.m.d, Value.int IntKind.u8 x.m.e, Value.int IntKind.u8 x.m.f, Value.int IntKind.i64 x.inn, Value.int IntKind.u8 x.f.dst.a, Value.int IntKind.u8 x.f.dst.b, Value.int IntKind.u8 x.f.dst.c, Value.int IntKind.u8 x.f.dst.d, Value.int IntKind.u8 x.f.dst.e, Value.int IntKind.u8 x.f.dst.f, Value.int IntKind.u8 x.f.src.a, Value.int IntKind.u8 x.f.src.b, Value.int IntKind.u8 x.f.src.c, Value.int IntKind.u8 x.f.src.d, Value.int IntKind.u8 x.f.src.e, Value.int IntKind.u8 x.f.src.f, Value.bool x.f.tag, Value.int IntKind.u8 x.f.pri, Value.int IntKind.u16 x.f.fvid, Value.int IntKind.u16 x.f.ty, Value.string x.f.data] 35 (0, 0))) : w.cell? ⟨b, 0, Option.none⟩ = some (.int .u8 x.d) ∧ w.cell? ⟨b, 1, Option.none⟩ = some (.int .u16 x.m.v) ∧ w.cell? ⟨b, 2, Option.none⟩ = some (.int .u8 x.set) ∧ w.cell? ⟨b, 3, Option.none⟩ = some (.int .u8 x.som) ∧ w.cell? ⟨b, 4, Option.none⟩ = some (.int .u8 x.m.a) ∧ w.cell? ⟨b, 5, Option.none⟩ = some (.int .u8 x.m.b) ∧ w.cell? ⟨b, 6, Option.none⟩ = some (.int .u8 x.m.c) ∧ w.cell? ⟨b, 7, Option.none⟩ = some (.int .u8 x.m.d) ∧ w.cell? ⟨b, 8, Option.none⟩ = some (.int .u8 x.m.e) ∧ w.cell? ⟨b, 9, Option.none⟩ = some (.int .u8 x.m.f) ∧ w.cell? ⟨b, 10, Option.none⟩ = some (.int .i64 x.inn) ∧ w.cell? ⟨b, 11, Option.none⟩ = some (.int .u8 x.f.dst.a) ∧ w.cell? ⟨b, 12, Option.none⟩ = some (.int .u8 x.f.dst.b) ∧ w.cell? ⟨b, 13, Option.none⟩ = some (.int .u8 x.f.dst.c) ∧ w.cell? ⟨b, 14, Option.none⟩ = some (.int .u8 x.f.dst.d) ∧ w.cell? ⟨b, 15, Option.none⟩ = some (.int .u8 x.f.dst.e) ∧ w.cell? ⟨b, 16, Option.none⟩ = some (.int .u8 x.f.dst.f) ∧ w.cell? ⟨b, 17, Option.none⟩ = some (.int .u8 x.f.src.a) ∧ w.cell? ⟨b, 18, Option.none⟩ = some (.int .u8 x.f.src.b) ∧ w.cell? ⟨b, 19, Option.none⟩ = some (.int .u8 x.f.src.c) ∧ w.cell? ⟨b, 20, Option.none⟩ = some (.int .u8 x.f.src.d) ∧ w.cell? ⟨b, 21, Option.none⟩ = some (.int .u8 x.f.src.e) ∧ w.cell? ⟨b, 22, Option.none⟩ = some (.int .u8 x.f.src.f) := by
  simp [World.cell?, h]
theorem act_frame {w : World} {b : Nat} {x : RAct} (h : w.heap[b]? = some (.cells #[Value.int IntKind.u8 x.d, Value.int IntKind.u16 x.m.v, Value.int IntKind.u8 x.set, Value.int IntKind.u8 x.som, Value.int IntKind.u8 x.m.a, Value.int IntKind.u8 x.m.b, Value.int IntKind.u8 x.m.c, Value.int IntKind.u8 x.m.d, Value.int IntKind.u8 x.m.e, Value.int IntKind.u8 x.m.f, Value.int IntKind.i64 x.inn, Value.int IntKind.u8 x.f.dst.a, Value.int IntKind.u8 x.f.dst.b, Value.int IntKind.u8 x.f.dst.c, Value.int IntKind.u8 x.f.dst.d, Value.int IntKind.u8 x.f.dst.e, Value.int IntKind.u8 x.f.dst.f, Value.int IntKind.u8 x.f.src.a, Value.int IntKind.u8 x.f.src.b, Value.int IntKind.u8 x.f.src.c, Value.int IntKind.u8 x.f.src.d, Value.int IntKind.u8 x.f.src.e, Value.int IntKind.u8 x.f.src.f, Value.bool x.f.tag, Value.int IntKind.u8 x.f.pri, Value.int IntKind.u16 x.f.fvid, Value.int IntKind.u16 x.f.ty, Value.string x.f.data] 35 (0, 0))) : w.rangeAt b 11 x.f.cells := range_block h x.f.cells 11 (fun j v hv => by
  have : (x.cells)[11 + j]? = some v := by
    show ([_, _, _, _, _, _, _, _, _, _, _] ++ x.f.cells)[11 + j]? = some v
    rw [List.getElem?_append_right (by simp)]
    simpa using hv
  simpa using this)
/-- An act's cells, as one word. -/
def RAct.vals (x : RAct) : List Value := [Value.int IntKind.u8 x.d, Value.int IntKind.u16 x.m.v, Value.int IntKind.u8 x.set, Value.int IntKind.u8 x.som, Value.int IntKind.u8 x.m.a, Value.int IntKind.u8 x.m.b, Value.int IntKind.u8 x.m.c, Value.int IntKind.u8 x.m.d, Value.int IntKind.u8 x.m.e, Value.int IntKind.u8 x.m.f, Value.int IntKind.i64 x.inn, Value.int IntKind.u8 x.f.dst.a, Value.int IntKind.u8 x.f.dst.b, Value.int IntKind.u8 x.f.dst.c, Value.int IntKind.u8 x.f.dst.d, Value.int IntKind.u8 x.f.dst.e, Value.int IntKind.u8 x.f.dst.f, Value.int IntKind.u8 x.f.src.a, Value.int IntKind.u8 x.f.src.b, Value.int IntKind.u8 x.f.src.c, Value.int IntKind.u8 x.f.src.d, Value.int IntKind.u8 x.f.src.e, Value.int IntKind.u8 x.f.src.f, Value.bool x.f.tag, Value.int IntKind.u8 x.f.pri, Value.int IntKind.u16 x.f.fvid, Value.int IntKind.u16 x.f.ty, Value.string x.f.data]
theorem vals_eq (x : RAct) : x.vals = x.cells := rfl
theorem vals_one (x : RAct) : x.vals.toArray.all (·.oneCell') = true := all_oneCell_toArray (fun v hv => by
  simp [RAct.vals] at hv
  rcases hv with rfl | rfl | rfl | rfl | rfl | rfl | rfl | rfl | rfl | rfl | rfl | rfl | rfl | rfl | rfl | rfl | rfl | rfl | rfl | rfl | rfl | rfl | rfl | rfl | rfl | rfl | rfl | rfl <;> rfl)
theorem vals_size (x : RAct) : (Try.prog.info? 35).map (·.size) = some x.vals.length := by
  have : (Try.prog.info? 35).map (·.size) = some 28 := by kernel_rfl
  exact this
theorem vals_size' (x : RAct) : (Try.prog.info? 35).map (·.size) = some x.vals.toArray.size := by
  have : (Try.prog.info? 35).map (·.size) = some 28 := by kernel_rfl
  exact this
theorem vals_there (x : RAct) {w : World} {b : Nat} {c : Array Value} {t : TypeId} (h : w.heap[b]? = some (.cells c t (0, 0))) (hc : c.size = 28) : w.there b 0 x.vals.toArray.size := by
  have h1 := there_block h
  have : x.vals.toArray.size = 28 := rfl
  rw [this]
  rw [hc] at h1
  exact h1
theorem RActs.range {w : World} {b o n i : Nat} {l : List RAct} {x : RAct} (h : RActs w b o n l) (hx : l[i]? = some x) : w.rangeAt b (o + i * 28) x.vals := fun j v hv => (h.2 i x hx).1 j v hv
theorem RIs.ne_vm {w : World} {B r vt vm t mb m c : Nat} {p : Option Addr} {n : Int} {V : List (Pl × Int)} {τ : Tb} (h : RIs w B r vt vm t mb p m c n V τ) {k : Nat} {cs : Array Value} {T : TypeId} {f : Nat × Nat} (hk : w.heap[k]? = some (.cells cs T f)) : ¬ At vm k := fun e => by
  obtain ⟨es, cl, hb⟩ := h.2.1.2.raw
  rw [At] at e
  subst e
  rw [hk] at hb
  cases hb
theorem goes_good (V : List (Pl × Int)) {τ : Tb} {k : Nat} (g : τ.Good k) (inn : Int) (dst src : Pl) (set : Int) : (goesP V τ inn dst src set).2.Good (k + 1) := by
  unfold goesP
  split
  · exact g.more
  · split
    · rename_i h0
      split
      · exact g.more
      · exact g.learn _ _ h0
    · exact g.more
theorem vset_len {n : Int} {V : List (Pl × Int)} {v a b : Int} (h : V.length ≤ 8) : (vsetP n V v a b).1.length ≤ 8 := by
  unfold vsetP
  split
  · exact h
  · split
    · exact h
    · rename_i hn
      show (sput V (vp v) _).length ≤ 8
      rw [sput_len]
      split
      · exact h
      · rename_i hs
        have : ¬ 8 ≤ V.length := fun e => hn ⟨by simpa using hs, e⟩
        omega

set_option maxHeartbeats 8000000 in
theorem great_any (a : Option Addr) (n cap : Nat) (acts : List RAct) (w : World) (hm : n ≤ maxLen) (hll : acts.length = n) (h : 0 < n → ∃ b o, a = some ⟨b, o, Option.none⟩ ∧ b < w.heap.size ∧ RActs w b o n acts) :
    Calls Try.prog 6 #[.slice a n cap] w fun e w' => ∃ g : Bool, e = .returned (.bool g) ∧ (g = false → n ≤ 150) ∧ Keeps Nil w w' := by
  have HH := hid h
  have HN := hid hll
  clear h hll
  by_cases hn : 150 < n
  · unfold maxLen at hm
    go_enter Try.func6, Try.ntmps6
    go_wp2_with fail
    go_ret
    exact ⟨true, rfl, (fun h => by cases h), Keeps.refl _ _⟩
  clear hm
  go_enter Try.func6, Try.ntmps6
  go_wp2_with fail
  go_loopw [3] (fun v wr => ∃ k : Nat, k ≤ n ∧ v = .int .i64 k ∧ wr = w) (fun v _ => n - (intOf v).toNat)
  case atStart => exact ⟨0, Nat.zero_le _, rfl, rfl⟩
  case round =>
    obtain ⟨k, hk, rfl, rfl⟩ := hrel
    by_cases hlt : k < n
    · obtain ⟨b, o, rfl, hb, hr⟩ := HH.out (by omega)
      obtain ⟨x, ha⟩ : ∃ x, acts[k]? = some x := ⟨_, List.getElem?_eq_getElem (by have := hr.1; omega)⟩
      have hs := (hr.2 k x ha).1 27 _ rfl
      have hsz := (hr.2 k x ha).2.2.2.2.2.2.1.2.2.2.2.2
      unfold maxLen at hsz
      clear hr ha
      by_cases hg : 2000 < x.f.data.size
      · have hg' : decide ((2000 : Int) < (x.f.data.size : Int)) = true := by simp; omega
        go_wp2_with fail
        go_ret
        exact ⟨true, rfl, (fun h => by cases h), Keeps.refl _ _⟩
      · have hg' : decide ((2000 : Int) < (x.f.data.size : Int)) = false := by simp; omega
        go_wp2_with fail
        go_roundw
        case rel => exact ⟨k + 1, by omega, by go_num, by first | rfl | trivial⟩
        case measure => simp only [intOf]; omega
    · obtain rfl : k = n := by omega
      go_wp2_with fail
      go_ret
      exact ⟨false, rfl, fun _ => by omega, Keeps.refl _ _⟩

set_option maxHeartbeats 60000000 in
theorem bars_any (a : Option Addr) (n cap : Nat) (acts : List RAct) (w : World) (hm : n ≤ maxLen) (hll : acts.length = n) (h : 0 < n → ∃ b o, a = some ⟨b, o, Option.none⟩ ∧ b < w.heap.size ∧ RActs w b o n acts) :
    Calls Try.prog 3 #[.slice a n cap] w fun e w' => e = .returned (.bool true) ∧ Keeps Nil w w' := by
  have HW : ∀ W, Hid (Calls Try.prog 7 #[] W fun e w' => e = .returned (.bool true) ∧ Keeps Nil W w') := fun W => hid (wakes_any W)
  have HGR := hid (great_any a n cap acts w hm hll h)
  have HH := hid h
  have HN := hid hll
  clear h hll hm
  go_enter Try.func3, Try.ntmps3
  go_wp2_with fail
  refine HGR.out.mono ?_; rintro e w0 ⟨g, rfl, hg, k0⟩
  have HH := hid (fun h0 => by
    obtain ⟨b, o, e, hlt, hr⟩ := HH.out h0
    exact (⟨b, o, e, Nat.lt_of_lt_of_le hlt k0.size, hr.keepN k0 hlt⟩ : ∃ b o, a = some ⟨b, o, Option.none⟩ ∧ b < w0.heap.size ∧ RActs w0 b o n acts))
  have K0 := hid k0
  clear k0 HGR
  cases g with
  | true =>
    go_wp2_with (go_at_call 7; refine (HW _).out.mono ?_; rintro ee w4 ⟨rfl, k4⟩)
    go_ret
    exact ⟨rfl, K0.out.trans k4⟩
  | false =>
  have hn150 := hg rfl
  clear hg
  go_wp2_with fail
  refine (rnew_any 8 (by decide) (by decide) w0).mono ?_; rintro e w1 ⟨r, vt, vm, t, mb, rfl, i1, k1⟩
  have R1 := hid i1
  have K1 := hid k1
  clear i1 k1
  go_wp2_with fail
  go_loopw [5] (fun v wr => ∃ k : Nat, k ≤ n ∧ v = .int .i64 k ∧ Hid (∃ V τ p m c, RIs wr w0.heap.size r vt vm t mb p m c 8 V τ ∧ V.length ≤ 8 ∧ τ.Good k ∧ Keeps Nil w0 wr)) (fun v _ => n - (intOf v).toNat)
  case atStart =>
    exact ⟨0, Nat.zero_le _, rfl, hid ⟨[], ⟨[], []⟩, Option.none, 0, 0, R1.out, by simp, Tb.Good.start, K1.out⟩⟩
  case round =>
    obtain ⟨k, hk, rfl, hh⟩ := hrel
    by_cases hlt : k < n
    · obtain ⟨b, o, rfl, hb, hr⟩ := HH.out (by omega)
      obtain ⟨x, ha⟩ : ∃ x, acts[k]? = some x := ⟨_, List.getElem?_eq_getElem (by have := hr.1; omega)⟩
      obtain ⟨V, τ, p, m, c, hR, hV, hG, hK⟩ := hh.out
      have HXO := hid (hr.2 k x ha).2
      have HRG := hid ((hr.keepN hK hb).range ha)
      have R2 := hid hR
      have HV := hid hV
      have HG := hid hG
      have K2 := hid hK
      clear hr ha hh hR hV hG hK hb
      go_upto_region 10 with (first
        | (refine wpList_load_mid rfl 35 _ rfl b (o + k * 28) rfl x.vals _ HRG.out Try.underlying35 rfl (vals_size x) ?_)
        | (refine wpList_store_mid rfl 35 _ _ rfl wr.heap.size 0 x.vals.toArray rfl rfl (vals_there x (alloc_block wr (.cells #[Value.int IntKind.u8 0, Value.int IntKind.u16 0, Value.int IntKind.u8 0, Value.int IntKind.u8 0, Value.int IntKind.u8 0, Value.int IntKind.u8 0, Value.int IntKind.u8 0, Value.int IntKind.u8 0, Value.int IntKind.u8 0, Value.int IntKind.u8 0, Value.int IntKind.i64 0, Value.int IntKind.u8 0, Value.int IntKind.u8 0, Value.int IntKind.u8 0, Value.int IntKind.u8 0, Value.int IntKind.u8 0, Value.int IntKind.u8 0, Value.int IntKind.u8 0, Value.int IntKind.u8 0, Value.int IntKind.u8 0, Value.int IntKind.u8 0, Value.int IntKind.u8 0, Value.int IntKind.u8 0, Value.bool false, Value.int IntKind.u8 0, Value.int IntKind.u16 0, Value.int IntKind.u16 0, Value.string ⟨#[]⟩] 35 (0, 0))) rfl) (vals_size' x) (vals_one x) ?_))
      generalize hWz : World.setCells _ _ _ _ = wz
      try simp only [List.toList_toArray] at hWz
      have hA := setCells_block (b := wr.heap.size) x.vals 0 _ _ (alloc_block wr (.cells #[Value.int IntKind.u8 0, Value.int IntKind.u16 0, Value.int IntKind.u8 0, Value.int IntKind.u8 0, Value.int IntKind.u8 0, Value.int IntKind.u8 0, Value.int IntKind.u8 0, Value.int IntKind.u8 0, Value.int IntKind.u8 0, Value.int IntKind.u8 0, Value.int IntKind.i64 0, Value.int IntKind.u8 0, Value.int IntKind.u8 0, Value.int IntKind.u8 0, Value.int IntKind.u8 0, Value.int IntKind.u8 0, Value.int IntKind.u8 0, Value.int IntKind.u8 0, Value.int IntKind.u8 0, Value.int IntKind.u8 0, Value.int IntKind.u8 0, Value.int IntKind.u8 0, Value.int IntKind.u8 0, Value.bool false, Value.int IntKind.u8 0, Value.int IntKind.u16 0, Value.int IntKind.u16 0, Value.string ⟨#[]⟩] 35 (0, 0)))
      have kz : Keeps Nil wr ((wr.alloc (.cells #[Value.int IntKind.u8 0, Value.int IntKind.u16 0, Value.int IntKind.u8 0, Value.int IntKind.u8 0, Value.int IntKind.u8 0, Value.int IntKind.u8 0, Value.int IntKind.u8 0, Value.int IntKind.u8 0, Value.int IntKind.u8 0, Value.int IntKind.u8 0, Value.int IntKind.i64 0, Value.int IntKind.u8 0, Value.int IntKind.u8 0, Value.int IntKind.u8 0, Value.int IntKind.u8 0, Value.int IntKind.u8 0, Value.int IntKind.u8 0, Value.int IntKind.u8 0, Value.int IntKind.u8 0, Value.int IntKind.u8 0, Value.int IntKind.u8 0, Value.int IntKind.u8 0, Value.int IntKind.u8 0, Value.bool false, Value.int IntKind.u8 0, Value.int IntKind.u16 0, Value.int IntKind.u16 0, Value.string ⟨#[]⟩] 35 (0, 0))).setCells wr.heap.size 0 x.vals) := Keeps.setCells (fun h => absurd h (Nat.lt_irrefl _)) _ _ _ ((Keeps.refl _ _).alloc _)
      rw [hWz] at hA kz
      clear hWz
      rw [setAll_all _ _ _ rfl] at hA
      have hA : wz.heap[wr.heap.size]? = some (.cells #[Value.int IntKind.u8 x.d, Value.int IntKind.u16 x.m.v, Value.int IntKind.u8 x.set, Value.int IntKind.u8 x.som, Value.int IntKind.u8 x.m.a, Value.int IntKind.u8 x.m.b, Value.int IntKind.u8 x.m.c, Value.int IntKind.u8 x.m.d, Value.int IntKind.u8 x.m.e, Value.int IntKind.u8 x.m.f, Value.int IntKind.i64 x.inn, Value.int IntKind.u8 x.f.dst.a, Value.int IntKind.u8 x.f.dst.b, Value.int IntKind.u8 x.f.dst.c, Value.int IntKind.u8 x.f.dst.d, Value.int IntKind.u8 x.f.dst.e, Value.int IntKind.u8 x.f.dst.f, Value.int IntKind.u8 x.f.src.a, Value.int IntKind.u8 x.f.src.b, Value.int IntKind.u8 x.f.src.c, Value.int IntKind.u8 x.f.src.d, Value.int IntKind.u8 x.f.src.e, Value.int IntKind.u8 x.f.src.f, Value.bool x.f.tag, Value.int IntKind.u8 x.f.pri, Value.int IntKind.u16 x.f.fvid, Value.int IntKind.u16 x.f.ty, Value.string x.f.data] 35 (0, 0)) := hA
      generalize wr.heap.size = bA at *
      have AZ := hid hA
      have RZ := hid (R2.out.keepN kz)
      have KZ := hid (K2.out.trans kz)
      clear hA kz R2 K2 HRG
      have kk : Keeps Nil wz wz := Keeps.refl _ _
      have HA : Hid (∀ X, Keeps Nil wz X → (fun X : World => (X.cell? ⟨bA, 0, Option.none⟩ = some (.int .u8 x.d) ∧ X.cell? ⟨bA, 1, Option.none⟩ = some (.int .u16 x.m.v) ∧ X.cell? ⟨bA, 2, Option.none⟩ = some (.int .u8 x.set) ∧ X.cell? ⟨bA, 3, Option.none⟩ = some (.int .u8 x.som) ∧ X.cell? ⟨bA, 4, Option.none⟩ = some (.int .u8 x.m.a) ∧ X.cell? ⟨bA, 5, Option.none⟩ = some (.int .u8 x.m.b) ∧ X.cell? ⟨bA, 6, Option.none⟩ = some (.int .u8 x.m.c) ∧ X.cell? ⟨bA, 7, Option.none⟩ = some (.int .u8 x.m.d) ∧ X.cell? ⟨bA, 8, Option.none⟩ = some (.int .u8 x.m.e) ∧ X.cell? ⟨bA, 9, Option.none⟩ = some (.int .u8 x.m.f) ∧ X.cell? ⟨bA, 10, Option.none⟩ = some (.int .i64 x.inn) ∧ X.cell? ⟨bA, 11, Option.none⟩ = some (.int .u8 x.f.dst.a) ∧ X.cell? ⟨bA, 12, Option.none⟩ = some (.int .u8 x.f.dst.b) ∧ X.cell? ⟨bA, 13, Option.none⟩ = some (.int .u8 x.f.dst.c) ∧ X.cell? ⟨bA, 14, Option.none⟩ = some (.int .u8 x.f.dst.d) ∧ X.cell? ⟨bA, 15, Option.none⟩ = some (.int .u8 x.f.dst.e) ∧ X.cell? ⟨bA, 16, Option.none⟩ = some (.int .u8 x.f.dst.f) ∧ X.cell? ⟨bA, 17, Option.none⟩ = some (.int .u8 x.f.src.a) ∧ X.cell? ⟨bA, 18, Option.none⟩ = some (.int .u8 x.f.src.b) ∧ X.cell? ⟨bA, 19, Option.none⟩ = some (.int .u8 x.f.src.c) ∧ X.cell? ⟨bA, 20, Option.none⟩ = some (.int .u8 x.f.src.d) ∧ X.cell? ⟨bA, 21, Option.none⟩ = some (.int .u8 x.f.src.e) ∧ X.cell? ⟨bA, 22, Option.none⟩ = some (.int .u8 x.f.src.f))) X) := hid (fun X kX => act_cells (kX.lies AZ.out))
      obtain ⟨g0, g1, g2, g3, g4, g5, g6, g7, g8, g9, g10, g11, g12, g13, g14, g15, g16, g17, g18, g19, g20, g21, g22⟩ := act_cells AZ.out
      by_cases d0 : x.d = 0
      · have hd0 : (x.d == 0) = true := by simpa using d0
        clear d0
        as_aux_lemma =>
          have RD := hid (RZ.out.keepN kk.drew)
          have AD := hid (kk.drew.lies AZ.out)
          go_wp2_with fail
          refine wp_region_held_drew (S := (fun X : World => (X.cell? ⟨bA, 0, Option.none⟩ = some (.int .u8 x.d) ∧ X.cell? ⟨bA, 1, Option.none⟩ = some (.int .u16 x.m.v) ∧ X.cell? ⟨bA, 2, Option.none⟩ = some (.int .u8 x.set) ∧ X.cell? ⟨bA, 3, Option.none⟩ = some (.int .u8 x.som) ∧ X.cell? ⟨bA, 4, Option.none⟩ = some (.int .u8 x.m.a) ∧ X.cell? ⟨bA, 5, Option.none⟩ = some (.int .u8 x.m.b) ∧ X.cell? ⟨bA, 6, Option.none⟩ = some (.int .u8 x.m.c) ∧ X.cell? ⟨bA, 7, Option.none⟩ = some (.int .u8 x.m.d) ∧ X.cell? ⟨bA, 8, Option.none⟩ = some (.int .u8 x.m.e) ∧ X.cell? ⟨bA, 9, Option.none⟩ = some (.int .u8 x.m.f) ∧ X.cell? ⟨bA, 10, Option.none⟩ = some (.int .i64 x.inn) ∧ X.cell? ⟨bA, 11, Option.none⟩ = some (.int .u8 x.f.dst.a) ∧ X.cell? ⟨bA, 12, Option.none⟩ = some (.int .u8 x.f.dst.b) ∧ X.cell? ⟨bA, 13, Option.none⟩ = some (.int .u8 x.f.dst.c) ∧ X.cell? ⟨bA, 14, Option.none⟩ = some (.int .u8 x.f.dst.d) ∧ X.cell? ⟨bA, 15, Option.none⟩ = some (.int .u8 x.f.dst.e) ∧ X.cell? ⟨bA, 16, Option.none⟩ = some (.int .u8 x.f.dst.f) ∧ X.cell? ⟨bA, 17, Option.none⟩ = some (.int .u8 x.f.src.a) ∧ X.cell? ⟨bA, 18, Option.none⟩ = some (.int .u8 x.f.src.b) ∧ X.cell? ⟨bA, 19, Option.none⟩ = some (.int .u8 x.f.src.c) ∧ X.cell? ⟨bA, 20, Option.none⟩ = some (.int .u8 x.f.src.d) ∧ X.cell? ⟨bA, 21, Option.none⟩ = some (.int .u8 x.f.src.e) ∧ X.cell? ⟨bA, 22, Option.none⟩ = some (.int .u8 x.f.src.f)))) (by kernel_rfl) ?_ (fun hHeld => ?_)
          · (try dsimp only); (first | exact HA.out _ kk | exact HA.out _ kk.drew | exact HS9)
          refine wpAnyH_take (i := 0) (v := ?_) rfl (by kernel_rfl) (by kernel_rfl) (by kernel_rfl) (fun _ _ _ h => h) (Or.inl ⟨by rfl, ?_⟩) (by assumption) ?_
          rotate_left
          · (intro W hSw; (try dsimp only at hSw); go_simp <;> with_reducible rfl)
          try simp only [Act.put, List.setIfInBounds_toArray, List.set_cons_zero, List.set_cons_succ, List.getElem_toArray, List.getElem_cons_zero, List.getElem_cons_succ]
          refine wpAnyH_take (i := 2) (v := ?_) rfl (by kernel_rfl) (by kernel_rfl) (by kernel_rfl) (fun _ _ _ h => h) (Or.inl ⟨by rfl, ?_⟩) (by assumption) ?_
          rotate_left
          · (intro W hSw; (try dsimp only at hSw); go_simp <;> with_reducible rfl)
          try simp only [Act.put, List.setIfInBounds_toArray, List.set_cons_zero, List.set_cons_succ, List.getElem_toArray, List.getElem_cons_zero, List.getElem_cons_succ]
          refine wpAnyH_take (i := 3) (v := ?_) rfl (by kernel_rfl) (by kernel_rfl) (by kernel_rfl) (fun _ _ _ h => h) (Or.inl ⟨by rfl, ?_⟩) (by assumption) ?_
          rotate_left
          · (intro W hSw; (try dsimp only at hSw); go_simp <;> with_reducible rfl)
          try simp only [Act.put, List.setIfInBounds_toArray, List.set_cons_zero, List.set_cons_succ, List.getElem_toArray, List.getElem_cons_zero, List.getElem_cons_succ]
          refine wpAnyH_take (i := 4) (v := ?_) rfl (by kernel_rfl) (by kernel_rfl) (by kernel_rfl) (fun _ _ _ h => h) (Or.inl ⟨by rfl, ?_⟩) (by assumption) ?_
          rotate_left
          · (intro W hSw; (try dsimp only at hSw); go_simp <;> with_reducible rfl)
          try simp only [Act.put, List.setIfInBounds_toArray, List.set_cons_zero, List.set_cons_succ, List.getElem_toArray, List.getElem_cons_zero, List.getElem_cons_succ]
          refine wpAnyH_take (i := 5) (v := ?_) rfl (by kernel_rfl) (by kernel_rfl) (by kernel_rfl) (fun _ _ _ h => h) (Or.inl ⟨by rfl, ?_⟩) (by assumption) ?_
          rotate_left
          · (intro W hSw; (try dsimp only at hSw); go_simp <;> with_reducible rfl)
          try simp only [Act.put, List.setIfInBounds_toArray, List.set_cons_zero, List.set_cons_succ, List.getElem_toArray, List.getElem_cons_zero, List.getElem_cons_succ]
          refine wpAnyH_take (i := 6) (v := ?_) rfl (by kernel_rfl) (by kernel_rfl) (by kernel_rfl) (fun _ _ _ h => h) (Or.inl ⟨by rfl, ?_⟩) (by assumption) ?_
          rotate_left
          · (intro W hSw; (try dsimp only at hSw); go_simp <;> with_reducible rfl)
          try simp only [Act.put, List.setIfInBounds_toArray, List.set_cons_zero, List.set_cons_succ, List.getElem_toArray, List.getElem_cons_zero, List.getElem_cons_succ]
          refine wpAnyH_take (i := 7) (v := ?_) rfl (by kernel_rfl) (by kernel_rfl) (by kernel_rfl) (fun _ _ _ h => h) (Or.inl ⟨by rfl, ?_⟩) (by assumption) ?_
          rotate_left
          · (intro W hSw; (try dsimp only at hSw); go_simp <;> with_reducible rfl)
          try simp only [Act.put, List.setIfInBounds_toArray, List.set_cons_zero, List.set_cons_succ, List.getElem_toArray, List.getElem_cons_zero, List.getElem_cons_succ]
          refine wpAnyH_ready (rs := [1]) (by kernel_rfl) (by simp) ?_
          refine AllReadyH.cons rfl (fun K hK => ?_) AllReadyH.nil
          try simp only [Act.put, List.setIfInBounds_toArray, List.set_cons_zero, List.set_cons_succ, List.getElem_toArray, List.getElem_cons_zero, List.getElem_cons_succ]
          go_simp
          (go_at_call 9; refine (vlans_any _ RD.out).mono ?_; rintro ee wq ⟨rfl, rfl⟩)
          (try go_wp2_with fail)
          refine hK.out _ _ ?_ (fun hHeld => ?_)
          · (try dsimp only); (first | exact HA.out _ kk | exact HA.out _ kk.drew | exact HS9)
          clear hK K
          try simp only [Act.put, List.setIfInBounds_toArray, List.set_cons_zero, List.set_cons_succ, List.getElem_toArray, List.getElem_cons_zero, List.getElem_cons_succ]
          refine wpAnyH_ready (rs := [8]) (by kernel_rfl) (by simp) ?_
          refine AllReadyH.cons rfl (fun K hK => ?_) AllReadyH.nil
          try simp only [Act.put, List.setIfInBounds_toArray, List.set_cons_zero, List.set_cons_succ, List.getElem_toArray, List.getElem_cons_zero, List.getElem_cons_succ]
          go_simp
          (go_at_call 10; refine (vset_any _ RD.out.2.1 HV.out HXO.out.2.1.1 HXO.out.2.2.1 HXO.out.2.2.2.1 (by decide) (by decide)).mono ?_; rintro ee wv ⟨rfl, v5, k5⟩; have hR9 := RD.out.vset k5 v5; have HS9 := act_cells (k5.lies AD.out (RD.out.ne_vm AD.out)); have hK9 := (KZ.out.trans kk.drew).thenAt k5 RD.out.2.2.2.2.1)
          (try go_wp2_with fail)
          refine hK.out _ _ ?_ (fun hHeld => ?_)
          · (try dsimp only); (first | exact HA.out _ kk | exact HA.out _ kk.drew | exact HS9)
          clear hK K
          try simp only [Act.put, List.setIfInBounds_toArray, List.set_cons_zero, List.set_cons_succ, List.getElem_toArray, List.getElem_cons_zero, List.getElem_cons_succ]
          refine wpAnyH_done (by kernel_rfl) ?_ _
          have HR9 := hid hR9
          have HK9 := hid hK9
          go_wp2_with fail
          go_roundw
          case rel => exact ⟨k + 1, by omega, by go_num, hid ⟨(vsetP 8 V x.m.v x.set x.som).1, τ, _, _, _, HR9.out, vset_len HV.out, HG.out.more, HK9.out⟩⟩
          case measure => simp only [intOf]; omega
      have hd0 : (x.d == 0) = false := by simpa using d0
      by_cases d1 : x.d = 1
      · have hd1 : (x.d == 1) = true := by simpa using d1
        clear d0 d1
        as_aux_lemma =>
          have RD := hid (RZ.out.keepN kk.drew)
          have AD := hid (kk.drew.lies AZ.out)
          go_wp2_with fail
          refine wp_region_held_drew (S := (fun X : World => (X.cell? ⟨bA, 0, Option.none⟩ = some (.int .u8 x.d) ∧ X.cell? ⟨bA, 1, Option.none⟩ = some (.int .u16 x.m.v) ∧ X.cell? ⟨bA, 2, Option.none⟩ = some (.int .u8 x.set) ∧ X.cell? ⟨bA, 3, Option.none⟩ = some (.int .u8 x.som) ∧ X.cell? ⟨bA, 4, Option.none⟩ = some (.int .u8 x.m.a) ∧ X.cell? ⟨bA, 5, Option.none⟩ = some (.int .u8 x.m.b) ∧ X.cell? ⟨bA, 6, Option.none⟩ = some (.int .u8 x.m.c) ∧ X.cell? ⟨bA, 7, Option.none⟩ = some (.int .u8 x.m.d) ∧ X.cell? ⟨bA, 8, Option.none⟩ = some (.int .u8 x.m.e) ∧ X.cell? ⟨bA, 9, Option.none⟩ = some (.int .u8 x.m.f) ∧ X.cell? ⟨bA, 10, Option.none⟩ = some (.int .i64 x.inn) ∧ X.cell? ⟨bA, 11, Option.none⟩ = some (.int .u8 x.f.dst.a) ∧ X.cell? ⟨bA, 12, Option.none⟩ = some (.int .u8 x.f.dst.b) ∧ X.cell? ⟨bA, 13, Option.none⟩ = some (.int .u8 x.f.dst.c) ∧ X.cell? ⟨bA, 14, Option.none⟩ = some (.int .u8 x.f.dst.d) ∧ X.cell? ⟨bA, 15, Option.none⟩ = some (.int .u8 x.f.dst.e) ∧ X.cell? ⟨bA, 16, Option.none⟩ = some (.int .u8 x.f.dst.f) ∧ X.cell? ⟨bA, 17, Option.none⟩ = some (.int .u8 x.f.src.a) ∧ X.cell? ⟨bA, 18, Option.none⟩ = some (.int .u8 x.f.src.b) ∧ X.cell? ⟨bA, 19, Option.none⟩ = some (.int .u8 x.f.src.c) ∧ X.cell? ⟨bA, 20, Option.none⟩ = some (.int .u8 x.f.src.d) ∧ X.cell? ⟨bA, 21, Option.none⟩ = some (.int .u8 x.f.src.e) ∧ X.cell? ⟨bA, 22, Option.none⟩ = some (.int .u8 x.f.src.f)))) (by kernel_rfl) ?_ (fun hHeld => ?_)
          · (try dsimp only); (first | exact HA.out _ kk | exact HA.out _ kk.drew | exact HS9)
          refine wpAnyH_take (i := 0) (v := ?_) rfl (by kernel_rfl) (by kernel_rfl) (by kernel_rfl) (fun _ _ _ h => h) (Or.inl ⟨by rfl, ?_⟩) (by assumption) ?_
          rotate_left
          · (intro W hSw; (try dsimp only at hSw); go_simp <;> with_reducible rfl)
          try simp only [Act.put, List.setIfInBounds_toArray, List.set_cons_zero, List.set_cons_succ, List.getElem_toArray, List.getElem_cons_zero, List.getElem_cons_succ]
          refine wpAnyH_take (i := 2) (v := ?_) rfl (by kernel_rfl) (by kernel_rfl) (by kernel_rfl) (fun _ _ _ h => h) (Or.inl ⟨by rfl, ?_⟩) (by assumption) ?_
          rotate_left
          · (intro W hSw; (try dsimp only at hSw); go_simp <;> with_reducible rfl)
          try simp only [Act.put, List.setIfInBounds_toArray, List.set_cons_zero, List.set_cons_succ, List.getElem_toArray, List.getElem_cons_zero, List.getElem_cons_succ]
          refine wpAnyH_take (i := 3) (v := ?_) rfl (by kernel_rfl) (by kernel_rfl) (by kernel_rfl) (fun _ _ _ h => h) (Or.inl ⟨by rfl, ?_⟩) (by assumption) ?_
          rotate_left
          · (intro W hSw; (try dsimp only at hSw); go_simp <;> with_reducible rfl)
          try simp only [Act.put, List.setIfInBounds_toArray, List.set_cons_zero, List.set_cons_succ, List.getElem_toArray, List.getElem_cons_zero, List.getElem_cons_succ]
          refine wpAnyH_take (i := 4) (v := ?_) rfl (by kernel_rfl) (by kernel_rfl) (by kernel_rfl) (fun _ _ _ h => h) (Or.inl ⟨by rfl, ?_⟩) (by assumption) ?_
          rotate_left
          · (intro W hSw; (try dsimp only at hSw); go_simp <;> with_reducible rfl)
          try simp only [Act.put, List.setIfInBounds_toArray, List.set_cons_zero, List.set_cons_succ, List.getElem_toArray, List.getElem_cons_zero, List.getElem_cons_succ]
          refine wpAnyH_take (i := 5) (v := ?_) rfl (by kernel_rfl) (by kernel_rfl) (by kernel_rfl) (fun _ _ _ h => h) (Or.inl ⟨by rfl, ?_⟩) (by assumption) ?_
          rotate_left
          · (intro W hSw; (try dsimp only at hSw); go_simp <;> with_reducible rfl)
          try simp only [Act.put, List.setIfInBounds_toArray, List.set_cons_zero, List.set_cons_succ, List.getElem_toArray, List.getElem_cons_zero, List.getElem_cons_succ]
          refine wpAnyH_take (i := 6) (v := ?_) rfl (by kernel_rfl) (by kernel_rfl) (by kernel_rfl) (fun _ _ _ h => h) (Or.inl ⟨by rfl, ?_⟩) (by assumption) ?_
          rotate_left
          · (intro W hSw; (try dsimp only at hSw); go_simp <;> with_reducible rfl)
          try simp only [Act.put, List.setIfInBounds_toArray, List.set_cons_zero, List.set_cons_succ, List.getElem_toArray, List.getElem_cons_zero, List.getElem_cons_succ]
          refine wpAnyH_take (i := 7) (v := ?_) rfl (by kernel_rfl) (by kernel_rfl) (by kernel_rfl) (fun _ _ _ h => h) (Or.inl ⟨by rfl, ?_⟩) (by assumption) ?_
          rotate_left
          · (intro W hSw; (try dsimp only at hSw); go_simp <;> with_reducible rfl)
          try simp only [Act.put, List.setIfInBounds_toArray, List.set_cons_zero, List.set_cons_succ, List.getElem_toArray, List.getElem_cons_zero, List.getElem_cons_succ]
          refine wpAnyH_ready (rs := [1]) (by kernel_rfl) (by simp) ?_
          refine AllReadyH.cons rfl (fun K hK => ?_) AllReadyH.nil
          try simp only [Act.put, List.setIfInBounds_toArray, List.set_cons_zero, List.set_cons_succ, List.getElem_toArray, List.getElem_cons_zero, List.getElem_cons_succ]
          go_simp
          (go_at_call 11; refine (base_any _ RD.out).mono ?_; rintro ee wq ⟨rfl, rfl⟩)
          (try go_wp2_with fail)
          refine hK.out _ _ ?_ (fun hHeld => ?_)
          · (try dsimp only); (first | exact HA.out _ kk | exact HA.out _ kk.drew | exact HS9)
          clear hK K
          try simp only [Act.put, List.setIfInBounds_toArray, List.set_cons_zero, List.set_cons_succ, List.getElem_toArray, List.getElem_cons_zero, List.getElem_cons_succ]
          refine wpAnyH_ready (rs := [8]) (by kernel_rfl) (by simp) ?_
          refine AllReadyH.cons rfl (fun K hK => ?_) AllReadyH.nil
          try simp only [Act.put, List.setIfInBounds_toArray, List.set_cons_zero, List.set_cons_succ, List.getElem_toArray, List.getElem_cons_zero, List.getElem_cons_succ]
          go_simp
          (go_at_call 12; refine (p_set RD.out.2.2.1 HG.out x.m HXO.out.2.1 x.set HXO.out.2.2.1).mono ?_; rintro ee wv ⟨rfl, ⟨p5, m5, c5, i5, _⟩, k5⟩; have hR9 := RD.out.turn k5 i5; have HS9 := act_cells (k5.lies AD.out (RD.out.2.2.1.not_own AD.out (by decide) (by decide))); have hK9 := (KZ.out.trans kk.drew).thenOwn k5 (RD.out.2.2.1.own_ge RD.out.2.2.2.2.2.1 RD.out.2.2.2.2.2.2))
          (try go_wp2_with fail)
          refine hK.out _ _ ?_ (fun hHeld => ?_)
          · (try dsimp only); (first | exact HA.out _ kk | exact HA.out _ kk.drew | exact HS9)
          clear hK K
          try simp only [Act.put, List.setIfInBounds_toArray, List.set_cons_zero, List.set_cons_succ, List.getElem_toArray, List.getElem_cons_zero, List.getElem_cons_succ]
          refine wpAnyH_done (by kernel_rfl) ?_ _
          have HR9 := hid hR9
          have HK9 := hid hK9
          go_wp2_with fail
          go_roundw
          case rel => exact ⟨k + 1, by omega, by go_num, hid ⟨V, (τ.set x.m x.set).1, _, _, _, HR9.out, HV.out, HG.out.set _ _, HK9.out⟩⟩
          case measure => simp only [intOf]; omega
      have hd1 : (x.d == 1) = false := by simpa using d1
      by_cases d2 : x.d = 2
      · have hd2 : (x.d == 2) = true := by simpa using d2
        clear d0 d1 d2
        as_aux_lemma =>
          go_wp2_with (go_at_call 11; refine (base_any _ RZ.out).mono ?_; rintro ee wq ⟨rfl, rfl⟩)
          refine (p_tick RZ.out.2.2.1 HG.out (by omega)).mono ?_
          rintro ee wv ⟨rfl, ⟨p5, m5, c5, i5, _⟩, k5⟩
          have hR9 := RZ.out.turn k5 i5
          have hK9 := KZ.out.thenOwn k5 (RZ.out.2.2.1.own_ge RZ.out.2.2.2.2.2.1 RZ.out.2.2.2.2.2.2)
          have HR9 := hid hR9
          have HK9 := hid hK9
          go_wp2_with fail
          go_roundw
          case rel => exact ⟨k + 1, by omega, by go_num, hid ⟨V, τ.tick, _, _, _, HR9.out, HV.out, HG.out.tick, HK9.out⟩⟩
          case measure => simp only [intOf]; omega
      have hd2 : (x.d == 2) = false := by simpa using d2
      by_cases d3 : x.d = 3
      · have hd3 : (x.d == 3) = true := by simpa using d3
        clear d0 d1 d2 d3
        as_aux_lemma =>
          have RD := hid (RZ.out.keepN kk.drew)
          have AD := hid (kk.drew.lies AZ.out)
          go_wp2_with fail
          refine wp_region_held_drew (S := (fun X : World => (X.cell? ⟨bA, 0, Option.none⟩ = some (.int .u8 x.d) ∧ X.cell? ⟨bA, 1, Option.none⟩ = some (.int .u16 x.m.v) ∧ X.cell? ⟨bA, 2, Option.none⟩ = some (.int .u8 x.set) ∧ X.cell? ⟨bA, 3, Option.none⟩ = some (.int .u8 x.som) ∧ X.cell? ⟨bA, 4, Option.none⟩ = some (.int .u8 x.m.a) ∧ X.cell? ⟨bA, 5, Option.none⟩ = some (.int .u8 x.m.b) ∧ X.cell? ⟨bA, 6, Option.none⟩ = some (.int .u8 x.m.c) ∧ X.cell? ⟨bA, 7, Option.none⟩ = some (.int .u8 x.m.d) ∧ X.cell? ⟨bA, 8, Option.none⟩ = some (.int .u8 x.m.e) ∧ X.cell? ⟨bA, 9, Option.none⟩ = some (.int .u8 x.m.f) ∧ X.cell? ⟨bA, 10, Option.none⟩ = some (.int .i64 x.inn) ∧ X.cell? ⟨bA, 11, Option.none⟩ = some (.int .u8 x.f.dst.a) ∧ X.cell? ⟨bA, 12, Option.none⟩ = some (.int .u8 x.f.dst.b) ∧ X.cell? ⟨bA, 13, Option.none⟩ = some (.int .u8 x.f.dst.c) ∧ X.cell? ⟨bA, 14, Option.none⟩ = some (.int .u8 x.f.dst.d) ∧ X.cell? ⟨bA, 15, Option.none⟩ = some (.int .u8 x.f.dst.e) ∧ X.cell? ⟨bA, 16, Option.none⟩ = some (.int .u8 x.f.dst.f) ∧ X.cell? ⟨bA, 17, Option.none⟩ = some (.int .u8 x.f.src.a) ∧ X.cell? ⟨bA, 18, Option.none⟩ = some (.int .u8 x.f.src.b) ∧ X.cell? ⟨bA, 19, Option.none⟩ = some (.int .u8 x.f.src.c) ∧ X.cell? ⟨bA, 20, Option.none⟩ = some (.int .u8 x.f.src.d) ∧ X.cell? ⟨bA, 21, Option.none⟩ = some (.int .u8 x.f.src.e) ∧ X.cell? ⟨bA, 22, Option.none⟩ = some (.int .u8 x.f.src.f)))) (by kernel_rfl) ?_ (fun hHeld => ?_)
          · (try dsimp only); (first | exact HA.out _ kk | exact HA.out _ kk.drew | exact HS9)
          refine wpAnyH_take (i := 0) (v := ?_) rfl (by kernel_rfl) (by kernel_rfl) (by kernel_rfl) (fun _ _ _ h => h) (Or.inl ⟨by rfl, ?_⟩) (by assumption) ?_
          rotate_left
          · (intro W hSw; (try dsimp only at hSw); go_simp <;> with_reducible rfl)
          try simp only [Act.put, List.setIfInBounds_toArray, List.set_cons_zero, List.set_cons_succ, List.getElem_toArray, List.getElem_cons_zero, List.getElem_cons_succ]
          refine wpAnyH_take (i := 2) (v := ?_) rfl (by kernel_rfl) (by kernel_rfl) (by kernel_rfl) (fun _ _ _ h => h) (Or.inl ⟨by rfl, ?_⟩) (by assumption) ?_
          rotate_left
          · (intro W hSw; (try dsimp only at hSw); go_simp <;> with_reducible rfl)
          try simp only [Act.put, List.setIfInBounds_toArray, List.set_cons_zero, List.set_cons_succ, List.getElem_toArray, List.getElem_cons_zero, List.getElem_cons_succ]
          refine wpAnyH_take (i := 3) (v := ?_) rfl (by kernel_rfl) (by kernel_rfl) (by kernel_rfl) (fun _ _ _ h => h) (Or.inl ⟨by rfl, ?_⟩) (by assumption) ?_
          rotate_left
          · (intro W hSw; (try dsimp only at hSw); go_simp <;> with_reducible rfl)
          try simp only [Act.put, List.setIfInBounds_toArray, List.set_cons_zero, List.set_cons_succ, List.getElem_toArray, List.getElem_cons_zero, List.getElem_cons_succ]
          refine wpAnyH_ready (rs := [1]) (by kernel_rfl) (by simp) ?_
          refine AllReadyH.cons rfl (fun K hK => ?_) AllReadyH.nil
          try simp only [Act.put, List.setIfInBounds_toArray, List.set_cons_zero, List.set_cons_succ, List.getElem_toArray, List.getElem_cons_zero, List.getElem_cons_succ]
          go_simp
          (go_at_call 11; refine (base_any _ RD.out).mono ?_; rintro ee wq ⟨rfl, rfl⟩)
          (try go_wp2_with fail)
          refine hK.out _ _ ?_ (fun hHeld => ?_)
          · (try dsimp only); (first | exact HA.out _ kk | exact HA.out _ kk.drew | exact HS9)
          clear hK K
          try simp only [Act.put, List.setIfInBounds_toArray, List.set_cons_zero, List.set_cons_succ, List.getElem_toArray, List.getElem_cons_zero, List.getElem_cons_succ]
          refine wpAnyH_ready (rs := [4]) (by kernel_rfl) (by simp) ?_
          refine AllReadyH.cons rfl (fun K hK => ?_) AllReadyH.nil
          try simp only [Act.put, List.setIfInBounds_toArray, List.set_cons_zero, List.set_cons_succ, List.getElem_toArray, List.getElem_cons_zero, List.getElem_cons_succ]
          go_simp
          (go_at_call 14; refine (p_flush RD.out.2.2.1 HG.out x.set HXO.out.2.2.1).mono ?_; rintro ee wv ⟨rfl, ⟨p5, m5, c5, i5, _⟩, k5⟩; have hR9 := RD.out.turn k5 i5; have HS9 := act_cells (k5.lies AD.out (RD.out.2.2.1.not_own AD.out (by decide) (by decide))); have hK9 := (KZ.out.trans kk.drew).thenOwn k5 (RD.out.2.2.1.own_ge RD.out.2.2.2.2.2.1 RD.out.2.2.2.2.2.2))
          (try go_wp2_with fail)
          refine hK.out _ _ ?_ (fun hHeld => ?_)
          · (try dsimp only); (first | exact HA.out _ kk | exact HA.out _ kk.drew | exact HS9)
          clear hK K
          try simp only [Act.put, List.setIfInBounds_toArray, List.set_cons_zero, List.set_cons_succ, List.getElem_toArray, List.getElem_cons_zero, List.getElem_cons_succ]
          refine wpAnyH_done (by kernel_rfl) ?_ _
          have HR9 := hid hR9
          have HK9 := hid hK9
          go_wp2_with fail
          go_roundw
          case rel => exact ⟨k + 1, by omega, by go_num, hid ⟨V, (τ.flush x.set), _, _, _, HR9.out, HV.out, HG.out.flush _, HK9.out⟩⟩
          case measure => simp only [intOf]; omega
      have hd3 : (x.d == 3) = false := by simpa using d3
      clear d0 d1 d2 d3
      have RD := hid (RZ.out.keepN kk.drew)
      have AD := hid (kk.drew.lies AZ.out)
      have HDV := hid HXO.out.2.2.2.2.2.2.1
      have HSV := hid HXO.out.2.2.2.2.2.2.2
      rcases hlk0 : τ.look x.f.dst with ⟨u0, z0⟩
      have C15 := hid (p_look RD.out.2.2.1 HG.out x.f.dst HXO.out.2.2.2.2.2.1.1)
      rw [HDV.out, hlk0] at C15
      clear hlk0
      go_wp2_with fail
      refine wp_region_held_drew (S := (fun X : World => (X.cell? ⟨bA, 0, Option.none⟩ = some (.int .u8 x.d) ∧ X.cell? ⟨bA, 1, Option.none⟩ = some (.int .u16 x.m.v) ∧ X.cell? ⟨bA, 2, Option.none⟩ = some (.int .u8 x.set) ∧ X.cell? ⟨bA, 3, Option.none⟩ = some (.int .u8 x.som) ∧ X.cell? ⟨bA, 4, Option.none⟩ = some (.int .u8 x.m.a) ∧ X.cell? ⟨bA, 5, Option.none⟩ = some (.int .u8 x.m.b) ∧ X.cell? ⟨bA, 6, Option.none⟩ = some (.int .u8 x.m.c) ∧ X.cell? ⟨bA, 7, Option.none⟩ = some (.int .u8 x.m.d) ∧ X.cell? ⟨bA, 8, Option.none⟩ = some (.int .u8 x.m.e) ∧ X.cell? ⟨bA, 9, Option.none⟩ = some (.int .u8 x.m.f) ∧ X.cell? ⟨bA, 10, Option.none⟩ = some (.int .i64 x.inn) ∧ X.cell? ⟨bA, 11, Option.none⟩ = some (.int .u8 x.f.dst.a) ∧ X.cell? ⟨bA, 12, Option.none⟩ = some (.int .u8 x.f.dst.b) ∧ X.cell? ⟨bA, 13, Option.none⟩ = some (.int .u8 x.f.dst.c) ∧ X.cell? ⟨bA, 14, Option.none⟩ = some (.int .u8 x.f.dst.d) ∧ X.cell? ⟨bA, 15, Option.none⟩ = some (.int .u8 x.f.dst.e) ∧ X.cell? ⟨bA, 16, Option.none⟩ = some (.int .u8 x.f.dst.f) ∧ X.cell? ⟨bA, 17, Option.none⟩ = some (.int .u8 x.f.src.a) ∧ X.cell? ⟨bA, 18, Option.none⟩ = some (.int .u8 x.f.src.b) ∧ X.cell? ⟨bA, 19, Option.none⟩ = some (.int .u8 x.f.src.c) ∧ X.cell? ⟨bA, 20, Option.none⟩ = some (.int .u8 x.f.src.d) ∧ X.cell? ⟨bA, 21, Option.none⟩ = some (.int .u8 x.f.src.e) ∧ X.cell? ⟨bA, 22, Option.none⟩ = some (.int .u8 x.f.src.f)))) (by kernel_rfl) ?_ (fun hHeld => ?_)
      · (try dsimp only); (first | exact HA.out _ kk | exact HA.out _ kk.drew | exact HS9)
      refine wpAnyH_take (i := 0) (v := ?_) rfl (by kernel_rfl) (by kernel_rfl) (by kernel_rfl) (fun _ _ _ h => h) (Or.inl ⟨by rfl, ?_⟩) (by assumption) ?_
      rotate_left
      · (intro W hSw; (try dsimp only at hSw); go_simp <;> with_reducible rfl)
      try simp only [Act.put, List.setIfInBounds_toArray, List.set_cons_zero, List.set_cons_succ, List.getElem_toArray, List.getElem_cons_zero, List.getElem_cons_succ]
      refine wpAnyH_take (i := 2) (v := ?_) rfl (by kernel_rfl) (by kernel_rfl) (by kernel_rfl) (fun _ _ _ h => h) (Or.inl ⟨by rfl, ?_⟩) (by assumption) ?_
      rotate_left
      · (intro W hSw; (try dsimp only at hSw); go_simp <;> with_reducible rfl)
      try simp only [Act.put, List.setIfInBounds_toArray, List.set_cons_zero, List.set_cons_succ, List.getElem_toArray, List.getElem_cons_zero, List.getElem_cons_succ]
      refine wpAnyH_take (i := 3) (v := ?_) rfl (by kernel_rfl) (by kernel_rfl) (by kernel_rfl) (fun _ _ _ h => h) (Or.inl ⟨by rfl, ?_⟩) (by assumption) ?_
      rotate_left
      · (intro W hSw; (try dsimp only at hSw); go_simp <;> with_reducible rfl)
      try simp only [Act.put, List.setIfInBounds_toArray, List.set_cons_zero, List.set_cons_succ, List.getElem_toArray, List.getElem_cons_zero, List.getElem_cons_succ]
      refine wpAnyH_take (i := 4) (v := ?_) rfl (by kernel_rfl) (by kernel_rfl) (by kernel_rfl) (fun _ _ _ h => h) (Or.inl ⟨by rfl, ?_⟩) (by assumption) ?_
      rotate_left
      · (intro W hSw; (try dsimp only at hSw); go_simp <;> with_reducible rfl)
      try simp only [Act.put, List.setIfInBounds_toArray, List.set_cons_zero, List.set_cons_succ, List.getElem_toArray, List.getElem_cons_zero, List.getElem_cons_succ]
      refine wpAnyH_take (i := 5) (v := ?_) rfl (by kernel_rfl) (by kernel_rfl) (by kernel_rfl) (fun _ _ _ h => h) (Or.inl ⟨by rfl, ?_⟩) (by assumption) ?_
      rotate_left
      · (intro W hSw; (try dsimp only at hSw); go_simp <;> with_reducible rfl)
      try simp only [Act.put, List.setIfInBounds_toArray, List.set_cons_zero, List.set_cons_succ, List.getElem_toArray, List.getElem_cons_zero, List.getElem_cons_succ]
      refine wpAnyH_take (i := 6) (v := ?_) rfl (by kernel_rfl) (by kernel_rfl) (by kernel_rfl) (fun _ _ _ h => h) (Or.inl ⟨by rfl, ?_⟩) (by assumption) ?_
      rotate_left
      · (intro W hSw; (try dsimp only at hSw); go_simp <;> with_reducible rfl)
      try simp only [Act.put, List.setIfInBounds_toArray, List.set_cons_zero, List.set_cons_succ, List.getElem_toArray, List.getElem_cons_zero, List.getElem_cons_succ]
      refine wpAnyH_ready (rs := [1]) (by kernel_rfl) (by simp) ?_
      refine AllReadyH.cons rfl (fun K hK => ?_) AllReadyH.nil
      try simp only [Act.put, List.setIfInBounds_toArray, List.set_cons_zero, List.set_cons_succ, List.getElem_toArray, List.getElem_cons_zero, List.getElem_cons_succ]
      go_simp
      (go_at_call 11; refine (base_any _ RD.out).mono ?_; rintro ee wq ⟨rfl, rfl⟩)
      (try go_wp2_with fail)
      refine hK.out _ _ ?_ (fun hHeld => ?_)
      · (try dsimp only); (first | exact HA.out _ kk | exact HA.out _ kk.drew | exact HS9)
      clear hK K
      try simp only [Act.put, List.setIfInBounds_toArray, List.set_cons_zero, List.set_cons_succ, List.getElem_toArray, List.getElem_cons_zero, List.getElem_cons_succ]
      refine wpAnyH_ready (rs := [7]) (by kernel_rfl) (by simp) ?_
      refine AllReadyH.cons rfl (fun K hK => ?_) AllReadyH.nil
      try simp only [Act.put, List.setIfInBounds_toArray, List.set_cons_zero, List.set_cons_succ, List.getElem_toArray, List.getElem_cons_zero, List.getElem_cons_succ]
      go_simp
      (go_at_call 15; refine C15.out.mono ?_; rintro ee wv ⟨rfl, kz⟩; have kk : Keeps Nil wz wv := by first | exact kk.trans kz | exact kk.drew.trans kz | exact kk.drew.drew.trans kz)
      (try go_wp2_with fail)
      refine hK.out _ _ ?_ (fun hHeld => ?_)
      · (try dsimp only); (first | exact HA.out _ kk | exact HA.out _ kk.drew | exact HS9)
      clear hK K
      try simp only [Act.put, List.setIfInBounds_toArray, List.set_cons_zero, List.set_cons_succ, List.getElem_toArray, List.getElem_cons_zero, List.getElem_cons_succ]
      refine wpAnyH_take (i := 8) (v := ?_) rfl (by kernel_rfl) (by kernel_rfl) (by kernel_rfl) (fun _ _ _ h => h) (Or.inl ⟨by rfl, ?_⟩) (by assumption) ?_
      rotate_left
      · (intro W hSw; (try dsimp only at hSw); go_simp <;> with_reducible rfl)
      try simp only [Act.put, List.setIfInBounds_toArray, List.set_cons_zero, List.set_cons_succ, List.getElem_toArray, List.getElem_cons_zero, List.getElem_cons_succ]
      refine wpAnyH_take (i := 9) (v := ?_) rfl (by kernel_rfl) (by kernel_rfl) (by kernel_rfl) (fun _ _ _ h => h) (Or.inl ⟨by rfl, ?_⟩) (by assumption) ?_
      rotate_left
      · (intro W hSw; (try dsimp only at hSw); go_simp <;> with_reducible rfl)
      try simp only [Act.put, List.setIfInBounds_toArray, List.set_cons_zero, List.set_cons_succ, List.getElem_toArray, List.getElem_cons_zero, List.getElem_cons_succ]
      refine wpAnyH_take (i := 10) (v := ?_) rfl (by kernel_rfl) (by kernel_rfl) (by kernel_rfl) (fun _ _ _ h => h) (Or.inl ⟨by rfl, ?_⟩) (by assumption) ?_
      rotate_left
      · (intro W hSw; (try dsimp only at hSw); go_simp <;> with_reducible rfl)
      try simp only [Act.put, List.setIfInBounds_toArray, List.set_cons_zero, List.set_cons_succ, List.getElem_toArray, List.getElem_cons_zero, List.getElem_cons_succ]
      refine wpAnyH_take (i := 11) (v := ?_) rfl (by kernel_rfl) (by kernel_rfl) (by kernel_rfl) (fun _ _ _ h => h) (Or.inl ⟨by rfl, ?_⟩) (by assumption) ?_
      rotate_left
      · (intro W hSw; (try dsimp only at hSw); go_simp <;> with_reducible rfl)
      try simp only [Act.put, List.setIfInBounds_toArray, List.set_cons_zero, List.set_cons_succ, List.getElem_toArray, List.getElem_cons_zero, List.getElem_cons_succ]
      refine wpAnyH_take (i := 12) (v := ?_) rfl (by kernel_rfl) (by kernel_rfl) (by kernel_rfl) (fun _ _ _ h => h) (Or.inl ⟨by rfl, ?_⟩) (by assumption) ?_
      rotate_left
      · (intro W hSw; (try dsimp only at hSw); go_simp <;> with_reducible rfl)
      try simp only [Act.put, List.setIfInBounds_toArray, List.set_cons_zero, List.set_cons_succ, List.getElem_toArray, List.getElem_cons_zero, List.getElem_cons_succ]
      refine wpAnyH_done (by kernel_rfl) ?_ _
      have R3 := hid (RZ.out.keepN kk)
      have K3 := hid (KZ.out.trans kk)
      have A3 := hid (kk.lies AZ.out)
      clear kk C15 RD AD HA g0 g1 g2 g3 g4 g5 g6 g7 g8 g9 g10 g11 g12 g13 g14 g15 g16 g17 g18 g19 g20 g21 g22
      obtain ⟨g0, g1, g2, g3, g4, g5, g6, g7, g8, g9, g10, g11, g12, g13, g14, g15, g16, g17, g18, g19, g20, g21, g22⟩ := act_cells A3.out
      rcases hgp : goesP V τ x.inn x.f.dst x.f.src x.set with ⟨O, τ1⟩
      rcases hlk1 : τ1.look x.f.dst with ⟨u1, z1⟩
      have HBAR := goes_bars V τ x.inn x.f.dst x.f.src x.set
      have hg1 := goes_good V HG.out x.inn x.f.dst x.f.src x.set
      rw [hgp] at HBAR hg1
      simp only at HBAR hg1
      rw [hlk1, HDV.out] at HBAR
      have HBAR := hid HBAR
      have HG1 := hid hg1
      have C16 := goes_any _ R3.out HG.out K3.out.size x.inn x.f.dst x.f.src HXO.out.2.2.2.2.2.1.1 HXO.out.2.2.2.2.2.1.2.1 (HSV.out.trans HDV.out.symm) x.set HXO.out.2.2.1 (.bool x.f.tag) (.int .u8 x.f.pri) (.int .u16 x.f.fvid) (.int .u16 x.f.ty) (.string x.f.data)
      rw [hgp, HDV.out] at C16
      have C16 := hid C16
      have HLK1 := hid hlk1
      clear hgp hg1 hlk1
      go_wp2_with (refine wpList_load_mid rfl 33 _ rfl bA 11 rfl x.f.cells _ (act_frame A3.out) Try.underlying33 rfl (by kernel_rfl) ?_)
      refine C16.out.mono ?_
      rintro ee w5 ⟨rfl, ⟨p6, m6, c6, i6⟩, k6⟩
      have A5 := hid (k6.lies A3.out (R3.out.2.2.1.not_own A3.out (by decide) (by decide)))
      have K5 := hid (K3.out.thenOwn k6 (R3.out.2.2.1.own_ge R3.out.2.2.2.2.2.1 R3.out.2.2.2.2.2.2))
      have R5 := hid i6
      clear i6 k6 C16 g0 g1 g2 g3 g4 g5 g6 g7 g8 g9 g10 g11 g12 g13 g14 g15 g16 g17 g18 g19 g20 g21 g22
      obtain ⟨g0, g1, g2, g3, g4, g5, g6, g7, g8, g9, g10, g11, g12, g13, g14, g15, g16, g17, g18, g19, g20, g21, g22⟩ := act_cells A5.out
      have kk : Keeps Nil w5 w5 := Keeps.refl _ _
      have HA : Hid (∀ X, Keeps Nil w5 X → (fun X : World => (X.cell? ⟨bA, 0, Option.none⟩ = some (.int .u8 x.d) ∧ X.cell? ⟨bA, 1, Option.none⟩ = some (.int .u16 x.m.v) ∧ X.cell? ⟨bA, 2, Option.none⟩ = some (.int .u8 x.set) ∧ X.cell? ⟨bA, 3, Option.none⟩ = some (.int .u8 x.som) ∧ X.cell? ⟨bA, 4, Option.none⟩ = some (.int .u8 x.m.a) ∧ X.cell? ⟨bA, 5, Option.none⟩ = some (.int .u8 x.m.b) ∧ X.cell? ⟨bA, 6, Option.none⟩ = some (.int .u8 x.m.c) ∧ X.cell? ⟨bA, 7, Option.none⟩ = some (.int .u8 x.m.d) ∧ X.cell? ⟨bA, 8, Option.none⟩ = some (.int .u8 x.m.e) ∧ X.cell? ⟨bA, 9, Option.none⟩ = some (.int .u8 x.m.f) ∧ X.cell? ⟨bA, 10, Option.none⟩ = some (.int .i64 x.inn) ∧ X.cell? ⟨bA, 11, Option.none⟩ = some (.int .u8 x.f.dst.a) ∧ X.cell? ⟨bA, 12, Option.none⟩ = some (.int .u8 x.f.dst.b) ∧ X.cell? ⟨bA, 13, Option.none⟩ = some (.int .u8 x.f.dst.c) ∧ X.cell? ⟨bA, 14, Option.none⟩ = some (.int .u8 x.f.dst.d) ∧ X.cell? ⟨bA, 15, Option.none⟩ = some (.int .u8 x.f.dst.e) ∧ X.cell? ⟨bA, 16, Option.none⟩ = some (.int .u8 x.f.dst.f) ∧ X.cell? ⟨bA, 17, Option.none⟩ = some (.int .u8 x.f.src.a) ∧ X.cell? ⟨bA, 18, Option.none⟩ = some (.int .u8 x.f.src.b) ∧ X.cell? ⟨bA, 19, Option.none⟩ = some (.int .u8 x.f.src.c) ∧ X.cell? ⟨bA, 20, Option.none⟩ = some (.int .u8 x.f.src.d) ∧ X.cell? ⟨bA, 21, Option.none⟩ = some (.int .u8 x.f.src.e) ∧ X.cell? ⟨bA, 22, Option.none⟩ = some (.int .u8 x.f.src.f))) X) := hid (fun X kX => act_cells (kX.lies A5.out))
      have RD := hid (R5.out.keepN kk.drew)
      go_wp2_with fail
      refine wp_region_held_drew (S := (fun X : World => (X.cell? ⟨bA, 0, Option.none⟩ = some (.int .u8 x.d) ∧ X.cell? ⟨bA, 1, Option.none⟩ = some (.int .u16 x.m.v) ∧ X.cell? ⟨bA, 2, Option.none⟩ = some (.int .u8 x.set) ∧ X.cell? ⟨bA, 3, Option.none⟩ = some (.int .u8 x.som) ∧ X.cell? ⟨bA, 4, Option.none⟩ = some (.int .u8 x.m.a) ∧ X.cell? ⟨bA, 5, Option.none⟩ = some (.int .u8 x.m.b) ∧ X.cell? ⟨bA, 6, Option.none⟩ = some (.int .u8 x.m.c) ∧ X.cell? ⟨bA, 7, Option.none⟩ = some (.int .u8 x.m.d) ∧ X.cell? ⟨bA, 8, Option.none⟩ = some (.int .u8 x.m.e) ∧ X.cell? ⟨bA, 9, Option.none⟩ = some (.int .u8 x.m.f) ∧ X.cell? ⟨bA, 10, Option.none⟩ = some (.int .i64 x.inn) ∧ X.cell? ⟨bA, 11, Option.none⟩ = some (.int .u8 x.f.dst.a) ∧ X.cell? ⟨bA, 12, Option.none⟩ = some (.int .u8 x.f.dst.b) ∧ X.cell? ⟨bA, 13, Option.none⟩ = some (.int .u8 x.f.dst.c) ∧ X.cell? ⟨bA, 14, Option.none⟩ = some (.int .u8 x.f.dst.d) ∧ X.cell? ⟨bA, 15, Option.none⟩ = some (.int .u8 x.f.dst.e) ∧ X.cell? ⟨bA, 16, Option.none⟩ = some (.int .u8 x.f.dst.f) ∧ X.cell? ⟨bA, 17, Option.none⟩ = some (.int .u8 x.f.src.a) ∧ X.cell? ⟨bA, 18, Option.none⟩ = some (.int .u8 x.f.src.b) ∧ X.cell? ⟨bA, 19, Option.none⟩ = some (.int .u8 x.f.src.c) ∧ X.cell? ⟨bA, 20, Option.none⟩ = some (.int .u8 x.f.src.d) ∧ X.cell? ⟨bA, 21, Option.none⟩ = some (.int .u8 x.f.src.e) ∧ X.cell? ⟨bA, 22, Option.none⟩ = some (.int .u8 x.f.src.f)))) (by kernel_rfl) ?_ (fun hHeld => ?_)
      · (try dsimp only); (first | exact HA.out _ kk | exact HA.out _ kk.drew | exact HS9)
      refine wpAnyH_take (i := 0) (v := ?_) rfl (by kernel_rfl) (by kernel_rfl) (by kernel_rfl) (fun _ _ _ h => h) (Or.inl ⟨by rfl, ?_⟩) (by assumption) ?_
      rotate_left
      · (intro W hSw; (try dsimp only at hSw); go_simp <;> with_reducible rfl)
      try simp only [Act.put, List.setIfInBounds_toArray, List.set_cons_zero, List.set_cons_succ, List.getElem_toArray, List.getElem_cons_zero, List.getElem_cons_succ]
      refine wpAnyH_take (i := 2) (v := ?_) rfl (by kernel_rfl) (by kernel_rfl) (by kernel_rfl) (fun _ _ _ h => h) (Or.inl ⟨by rfl, ?_⟩) (by assumption) ?_
      rotate_left
      · (intro W hSw; (try dsimp only at hSw); go_simp <;> with_reducible rfl)
      try simp only [Act.put, List.setIfInBounds_toArray, List.set_cons_zero, List.set_cons_succ, List.getElem_toArray, List.getElem_cons_zero, List.getElem_cons_succ]
      refine wpAnyH_take (i := 3) (v := ?_) rfl (by kernel_rfl) (by kernel_rfl) (by kernel_rfl) (fun _ _ _ h => h) (Or.inl ⟨by rfl, ?_⟩) (by assumption) ?_
      rotate_left
      · (intro W hSw; (try dsimp only at hSw); go_simp <;> with_reducible rfl)
      try simp only [Act.put, List.setIfInBounds_toArray, List.set_cons_zero, List.set_cons_succ, List.getElem_toArray, List.getElem_cons_zero, List.getElem_cons_succ]
      refine wpAnyH_ready (rs := [1]) (by kernel_rfl) (by simp) ?_
      refine AllReadyH.cons rfl (fun K hK => ?_) AllReadyH.nil
      try simp only [Act.put, List.setIfInBounds_toArray, List.set_cons_zero, List.set_cons_succ, List.getElem_toArray, List.getElem_cons_zero, List.getElem_cons_succ]
      go_simp
      (go_at_call 9; refine (vlans_any _ RD.out).mono ?_; rintro ee wq ⟨rfl, rfl⟩)
      (try go_wp2_with fail)
      refine hK.out _ _ ?_ (fun hHeld => ?_)
      · (try dsimp only); (first | exact HA.out _ kk | exact HA.out _ kk.drew | exact HS9)
      clear hK K
      try simp only [Act.put, List.setIfInBounds_toArray, List.set_cons_zero, List.set_cons_succ, List.getElem_toArray, List.getElem_cons_zero, List.getElem_cons_succ]
      refine wpAnyH_ready (rs := [4]) (by kernel_rfl) (by simp) ?_
      refine AllReadyH.cons rfl (fun K hK => ?_) AllReadyH.nil
      try simp only [Act.put, List.setIfInBounds_toArray, List.set_cons_zero, List.set_cons_succ, List.getElem_toArray, List.getElem_cons_zero, List.getElem_cons_succ]
      go_simp
      (go_at_call 17; refine (members_any _ RD.out.2.1 HXO.out.2.1.1).mono ?_; rintro ee wv ⟨rfl, rfl⟩)
      (try go_wp2_with fail)
      refine hK.out _ _ ?_ (fun hHeld => ?_)
      · (try dsimp only); (first | exact HA.out _ kk | exact HA.out _ kk.drew | exact HS9)
      clear hK K
      try simp only [Act.put, List.setIfInBounds_toArray, List.set_cons_zero, List.set_cons_succ, List.getElem_toArray, List.getElem_cons_zero, List.getElem_cons_succ]
      refine wpAnyH_take (i := 5) (v := ?_) rfl (by kernel_rfl) (by kernel_rfl) (by kernel_rfl) (fun _ _ _ h => h) (Or.inl ⟨by rfl, ?_⟩) (by assumption) ?_
      rotate_left
      · (intro W hSw; (try dsimp only at hSw); go_simp <;> with_reducible rfl)
      try simp only [Act.put, List.setIfInBounds_toArray, List.set_cons_zero, List.set_cons_succ, List.getElem_toArray, List.getElem_cons_zero, List.getElem_cons_succ]
      refine wpAnyH_done (by kernel_rfl) ?_ _
      have R6 := hid RD.out
      have A6 := hid (kk.drew.lies A5.out)
      have K6 := hid (K5.out.trans kk.drew)
      clear kk RD HA R5 A5 K5 g0 g1 g2 g3 g4 g5 g6 g7 g8 g9 g10 g11 g12 g13 g14 g15 g16 g17 g18 g19 g20 g21 g22
      generalize w5.drew = w6 at *
      obtain ⟨g0, g1, g2, g3, g4, g5, g6, g7, g8, g9, g10, g11, g12, g13, g14, g15, g16, g17, g18, g19, g20, g21, g22⟩ := act_cells A6.out
      have b1 : (bits BinOp.andNot .u8 O (vcode V x.m.v / 256) != 0) = false := by rw [HBAR.out.mem]; rfl
      have b2 : (bits BinOp.andNot .u8 O x.set != 0) = false := by rw [HBAR.out.fwd]; rfl
      generalize vcode V x.m.v / 256 = M at *
      by_cases h0 : 0 ≤ x.inn
      · by_cases h8 : 8 ≤ x.inn
        · have hO := HBAR.out.far (by omega)
          have b3 : (O != 0) = false := by rw [hO]; rfl
          clear hO
          as_aux_lemma =>
            cases z0 with
            | false =>
              go_wp2_with fail
              go_roundw
              case rel => exact ⟨k + 1, by omega, by go_num, hid ⟨V, τ1, _, _, _, R6.out, HV.out, HG1.out, K6.out⟩⟩
              case measure => simp only [intOf]; omega
            | true =>
              by_cases hsd : x.f.src.a = x.f.dst.a ∧ x.f.src.b = x.f.dst.b ∧ x.f.src.c = x.f.dst.c ∧ x.f.src.d = x.f.dst.d ∧ x.f.src.e = x.f.dst.e ∧ x.f.src.f = x.f.dst.f
              · have hE : ∀ W, (binOp .neq 31 (.agg #[.int .u8 x.f.src.a, .int .u8 x.f.src.b, .int .u8 x.f.src.c, .int .u8 x.f.src.d, .int .u8 x.f.src.e, .int .u8 x.f.src.f]) (.agg #[.int .u8 x.f.dst.a, .int .u8 x.f.dst.b, .int .u8 x.f.dst.c, .int .u8 x.f.dst.d, .int .u8 x.f.dst.e, .int .u8 x.f.dst.f])).run Try.prog W = .ok (.bool false) W := fun W => neq25 x.f.src.a x.f.src.b x.f.src.c x.f.src.d x.f.src.e x.f.src.f x.f.dst.a x.f.dst.b x.f.dst.c x.f.dst.d x.f.dst.e x.f.dst.f true (decide_eq_true hsd) W
                clear hsd
                go_wp2_with fail
                go_roundw
                case rel => exact ⟨k + 1, by omega, by go_num, hid ⟨V, τ1, _, _, _, R6.out, HV.out, HG1.out, K6.out⟩⟩
                case measure => simp only [intOf]; omega
              · have hE : ∀ W, (binOp .neq 31 (.agg #[.int .u8 x.f.src.a, .int .u8 x.f.src.b, .int .u8 x.f.src.c, .int .u8 x.f.src.d, .int .u8 x.f.src.e, .int .u8 x.f.src.f]) (.agg #[.int .u8 x.f.dst.a, .int .u8 x.f.dst.b, .int .u8 x.f.dst.c, .int .u8 x.f.dst.d, .int .u8 x.f.dst.e, .int .u8 x.f.dst.f])).run Try.prog W = .ok (.bool true) W := fun W => neq25 x.f.src.a x.f.src.b x.f.src.c x.f.src.d x.f.src.e x.f.src.f x.f.dst.a x.f.dst.b x.f.dst.c x.f.dst.d x.f.dst.e x.f.dst.f false (decide_eq_false hsd) W
                clear hsd
                cases hu : (bits BinOp.andNot .u8 O u0 != 0) with
                | false =>
                  go_wp2_with fail
                  go_roundw
                  case rel => exact ⟨k + 1, by omega, by go_num, hid ⟨V, τ1, _, _, _, R6.out, HV.out, HG1.out, K6.out⟩⟩
                  case measure => simp only [intOf]; omega
                | true =>
                  have hn32 : m6 ≤ 32 := by have h1 := R6.out.2.2.1.2.1.1; have := HG1.out.L; omega
                  have hd32 : decide ((m6 : Int) ≤ 32) = true := by simp; omega
                  go_wp2_with (go_at_call 11; refine (base_any _ R6.out).mono ?_; rintro ee wq ⟨rfl, rfl⟩)
                  refine (list_any _ _ _ _ _ _ _ _ R6.out.2.2.1 (by omega)).mono ?_
                  rintro ee w7 ⟨⟨p7, c7, rfl, _⟩, k7⟩
                  have R7 := hid (R6.out.keepN k7)
                  have K7 := hid (K6.out.trans k7)
                  have A7 := hid (k7.lies A6.out)
                  have kk : Keeps Nil w7 w7 := Keeps.refl _ _
                  have HA : Hid (∀ X, Keeps Nil w7 X → (fun X : World => (X.cell? ⟨bA, 0, Option.none⟩ = some (.int .u8 x.d) ∧ X.cell? ⟨bA, 1, Option.none⟩ = some (.int .u16 x.m.v) ∧ X.cell? ⟨bA, 2, Option.none⟩ = some (.int .u8 x.set) ∧ X.cell? ⟨bA, 3, Option.none⟩ = some (.int .u8 x.som) ∧ X.cell? ⟨bA, 4, Option.none⟩ = some (.int .u8 x.m.a) ∧ X.cell? ⟨bA, 5, Option.none⟩ = some (.int .u8 x.m.b) ∧ X.cell? ⟨bA, 6, Option.none⟩ = some (.int .u8 x.m.c) ∧ X.cell? ⟨bA, 7, Option.none⟩ = some (.int .u8 x.m.d) ∧ X.cell? ⟨bA, 8, Option.none⟩ = some (.int .u8 x.m.e) ∧ X.cell? ⟨bA, 9, Option.none⟩ = some (.int .u8 x.m.f) ∧ X.cell? ⟨bA, 10, Option.none⟩ = some (.int .i64 x.inn) ∧ X.cell? ⟨bA, 11, Option.none⟩ = some (.int .u8 x.f.dst.a) ∧ X.cell? ⟨bA, 12, Option.none⟩ = some (.int .u8 x.f.dst.b) ∧ X.cell? ⟨bA, 13, Option.none⟩ = some (.int .u8 x.f.dst.c) ∧ X.cell? ⟨bA, 14, Option.none⟩ = some (.int .u8 x.f.dst.d) ∧ X.cell? ⟨bA, 15, Option.none⟩ = some (.int .u8 x.f.dst.e) ∧ X.cell? ⟨bA, 16, Option.none⟩ = some (.int .u8 x.f.dst.f) ∧ X.cell? ⟨bA, 17, Option.none⟩ = some (.int .u8 x.f.src.a) ∧ X.cell? ⟨bA, 18, Option.none⟩ = some (.int .u8 x.f.src.b) ∧ X.cell? ⟨bA, 19, Option.none⟩ = some (.int .u8 x.f.src.c) ∧ X.cell? ⟨bA, 20, Option.none⟩ = some (.int .u8 x.f.src.d) ∧ X.cell? ⟨bA, 21, Option.none⟩ = some (.int .u8 x.f.src.e) ∧ X.cell? ⟨bA, 22, Option.none⟩ = some (.int .u8 x.f.src.f))) X) := hid (fun X kX => act_cells (kX.lies A7.out))
                  clear k7 g0 g1 g2 g3 g4 g5 g6 g7 g8 g9 g10 g11 g12 g13 g14 g15 g16 g17 g18 g19 g20 g21 g22
                  obtain ⟨g0, g1, g2, g3, g4, g5, g6, g7, g8, g9, g10, g11, g12, g13, g14, g15, g16, g17, g18, g19, g20, g21, g22⟩ := act_cells A7.out
                  go_wp2_with fail
                  have RD := hid (R7.out.keepN kk.drew)
                  have C15 := hid (p_look RD.out.2.2.1 HG1.out x.f.dst HXO.out.2.2.2.2.2.1.1)
                  rw [HDV.out, HLK1.out] at C15
                  refine wp_region_held_drew (S := (fun X : World => (X.cell? ⟨bA, 0, Option.none⟩ = some (.int .u8 x.d) ∧ X.cell? ⟨bA, 1, Option.none⟩ = some (.int .u16 x.m.v) ∧ X.cell? ⟨bA, 2, Option.none⟩ = some (.int .u8 x.set) ∧ X.cell? ⟨bA, 3, Option.none⟩ = some (.int .u8 x.som) ∧ X.cell? ⟨bA, 4, Option.none⟩ = some (.int .u8 x.m.a) ∧ X.cell? ⟨bA, 5, Option.none⟩ = some (.int .u8 x.m.b) ∧ X.cell? ⟨bA, 6, Option.none⟩ = some (.int .u8 x.m.c) ∧ X.cell? ⟨bA, 7, Option.none⟩ = some (.int .u8 x.m.d) ∧ X.cell? ⟨bA, 8, Option.none⟩ = some (.int .u8 x.m.e) ∧ X.cell? ⟨bA, 9, Option.none⟩ = some (.int .u8 x.m.f) ∧ X.cell? ⟨bA, 10, Option.none⟩ = some (.int .i64 x.inn) ∧ X.cell? ⟨bA, 11, Option.none⟩ = some (.int .u8 x.f.dst.a) ∧ X.cell? ⟨bA, 12, Option.none⟩ = some (.int .u8 x.f.dst.b) ∧ X.cell? ⟨bA, 13, Option.none⟩ = some (.int .u8 x.f.dst.c) ∧ X.cell? ⟨bA, 14, Option.none⟩ = some (.int .u8 x.f.dst.d) ∧ X.cell? ⟨bA, 15, Option.none⟩ = some (.int .u8 x.f.dst.e) ∧ X.cell? ⟨bA, 16, Option.none⟩ = some (.int .u8 x.f.dst.f) ∧ X.cell? ⟨bA, 17, Option.none⟩ = some (.int .u8 x.f.src.a) ∧ X.cell? ⟨bA, 18, Option.none⟩ = some (.int .u8 x.f.src.b) ∧ X.cell? ⟨bA, 19, Option.none⟩ = some (.int .u8 x.f.src.c) ∧ X.cell? ⟨bA, 20, Option.none⟩ = some (.int .u8 x.f.src.d) ∧ X.cell? ⟨bA, 21, Option.none⟩ = some (.int .u8 x.f.src.e) ∧ X.cell? ⟨bA, 22, Option.none⟩ = some (.int .u8 x.f.src.f)))) (by kernel_rfl) ?_ (fun hHeld => ?_)
                  · (try dsimp only); (first | exact HA.out _ kk | exact HA.out _ kk.drew | exact HS9)
                  refine wpAnyH_take (i := 0) (v := ?_) rfl (by kernel_rfl) (by kernel_rfl) (by kernel_rfl) (fun _ _ _ h => h) (Or.inl ⟨by rfl, ?_⟩) (by assumption) ?_
                  rotate_left
                  · (intro W hSw; (try dsimp only at hSw); go_simp <;> with_reducible rfl)
                  try simp only [Act.put, List.setIfInBounds_toArray, List.set_cons_zero, List.set_cons_succ, List.getElem_toArray, List.getElem_cons_zero, List.getElem_cons_succ]
                  refine wpAnyH_take (i := 2) (v := ?_) rfl (by kernel_rfl) (by kernel_rfl) (by kernel_rfl) (fun _ _ _ h => h) (Or.inl ⟨by rfl, ?_⟩) (by assumption) ?_
                  rotate_left
                  · (intro W hSw; (try dsimp only at hSw); go_simp <;> with_reducible rfl)
                  try simp only [Act.put, List.setIfInBounds_toArray, List.set_cons_zero, List.set_cons_succ, List.getElem_toArray, List.getElem_cons_zero, List.getElem_cons_succ]
                  refine wpAnyH_take (i := 3) (v := ?_) rfl (by kernel_rfl) (by kernel_rfl) (by kernel_rfl) (fun _ _ _ h => h) (Or.inl ⟨by rfl, ?_⟩) (by assumption) ?_
                  rotate_left
                  · (intro W hSw; (try dsimp only at hSw); go_simp <;> with_reducible rfl)
                  try simp only [Act.put, List.setIfInBounds_toArray, List.set_cons_zero, List.set_cons_succ, List.getElem_toArray, List.getElem_cons_zero, List.getElem_cons_succ]
                  refine wpAnyH_take (i := 4) (v := ?_) rfl (by kernel_rfl) (by kernel_rfl) (by kernel_rfl) (fun _ _ _ h => h) (Or.inl ⟨by rfl, ?_⟩) (by assumption) ?_
                  rotate_left
                  · (intro W hSw; (try dsimp only at hSw); go_simp <;> with_reducible rfl)
                  try simp only [Act.put, List.setIfInBounds_toArray, List.set_cons_zero, List.set_cons_succ, List.getElem_toArray, List.getElem_cons_zero, List.getElem_cons_succ]
                  refine wpAnyH_take (i := 5) (v := ?_) rfl (by kernel_rfl) (by kernel_rfl) (by kernel_rfl) (fun _ _ _ h => h) (Or.inl ⟨by rfl, ?_⟩) (by assumption) ?_
                  rotate_left
                  · (intro W hSw; (try dsimp only at hSw); go_simp <;> with_reducible rfl)
                  try simp only [Act.put, List.setIfInBounds_toArray, List.set_cons_zero, List.set_cons_succ, List.getElem_toArray, List.getElem_cons_zero, List.getElem_cons_succ]
                  refine wpAnyH_take (i := 6) (v := ?_) rfl (by kernel_rfl) (by kernel_rfl) (by kernel_rfl) (fun _ _ _ h => h) (Or.inl ⟨by rfl, ?_⟩) (by assumption) ?_
                  rotate_left
                  · (intro W hSw; (try dsimp only at hSw); go_simp <;> with_reducible rfl)
                  try simp only [Act.put, List.setIfInBounds_toArray, List.set_cons_zero, List.set_cons_succ, List.getElem_toArray, List.getElem_cons_zero, List.getElem_cons_succ]
                  refine wpAnyH_ready (rs := [1]) (by kernel_rfl) (by simp) ?_
                  refine AllReadyH.cons rfl (fun K hK => ?_) AllReadyH.nil
                  try simp only [Act.put, List.setIfInBounds_toArray, List.set_cons_zero, List.set_cons_succ, List.getElem_toArray, List.getElem_cons_zero, List.getElem_cons_succ]
                  go_simp
                  (go_at_call 11; refine (base_any _ RD.out).mono ?_; rintro ee wq ⟨rfl, rfl⟩)
                  (try go_wp2_with fail)
                  refine hK.out _ _ ?_ (fun hHeld => ?_)
                  · (try dsimp only); (first | exact HA.out _ kk | exact HA.out _ kk.drew | exact HS9)
                  clear hK K
                  try simp only [Act.put, List.setIfInBounds_toArray, List.set_cons_zero, List.set_cons_succ, List.getElem_toArray, List.getElem_cons_zero, List.getElem_cons_succ]
                  refine wpAnyH_ready (rs := [7]) (by kernel_rfl) (by simp) ?_
                  refine AllReadyH.cons rfl (fun K hK => ?_) AllReadyH.nil
                  try simp only [Act.put, List.setIfInBounds_toArray, List.set_cons_zero, List.set_cons_succ, List.getElem_toArray, List.getElem_cons_zero, List.getElem_cons_succ]
                  go_simp
                  (go_at_call 15; refine C15.out.mono ?_; rintro ee wv ⟨rfl, kz⟩; have kk : Keeps Nil w7 wv := by first | exact kk.trans kz | exact kk.drew.trans kz | exact kk.drew.drew.trans kz)
                  (try go_wp2_with fail)
                  refine hK.out _ _ ?_ (fun hHeld => ?_)
                  · (try dsimp only); (first | exact HA.out _ kk | exact HA.out _ kk.drew | exact HS9)
                  clear hK K
                  try simp only [Act.put, List.setIfInBounds_toArray, List.set_cons_zero, List.set_cons_succ, List.getElem_toArray, List.getElem_cons_zero, List.getElem_cons_succ]
                  refine wpAnyH_take (i := 8) (v := ?_) rfl (by kernel_rfl) (by kernel_rfl) (by kernel_rfl) (fun _ _ _ h => h) (Or.inl ⟨by rfl, ?_⟩) (by assumption) ?_
                  rotate_left
                  · (intro W hSw; (try dsimp only at hSw); go_simp <;> with_reducible rfl)
                  try simp only [Act.put, List.setIfInBounds_toArray, List.set_cons_zero, List.set_cons_succ, List.getElem_toArray, List.getElem_cons_zero, List.getElem_cons_succ]
                  refine wpAnyH_take (i := 9) (v := ?_) rfl (by kernel_rfl) (by kernel_rfl) (by kernel_rfl) (fun _ _ _ h => h) (Or.inl ⟨by rfl, ?_⟩) (by assumption) ?_
                  rotate_left
                  · (intro W hSw; (try dsimp only at hSw); go_simp <;> with_reducible rfl)
                  try simp only [Act.put, List.setIfInBounds_toArray, List.set_cons_zero, List.set_cons_succ, List.getElem_toArray, List.getElem_cons_zero, List.getElem_cons_succ]
                  refine wpAnyH_take (i := 10) (v := ?_) rfl (by kernel_rfl) (by kernel_rfl) (by kernel_rfl) (fun _ _ _ h => h) (Or.inl ⟨by rfl, ?_⟩) (by assumption) ?_
                  rotate_left
                  · (intro W hSw; (try dsimp only at hSw); go_simp <;> with_reducible rfl)
                  try simp only [Act.put, List.setIfInBounds_toArray, List.set_cons_zero, List.set_cons_succ, List.getElem_toArray, List.getElem_cons_zero, List.getElem_cons_succ]
                  refine wpAnyH_take (i := 11) (v := ?_) rfl (by kernel_rfl) (by kernel_rfl) (by kernel_rfl) (fun _ _ _ h => h) (Or.inl ⟨by rfl, ?_⟩) (by assumption) ?_
                  rotate_left
                  · (intro W hSw; (try dsimp only at hSw); go_simp <;> with_reducible rfl)
                  try simp only [Act.put, List.setIfInBounds_toArray, List.set_cons_zero, List.set_cons_succ, List.getElem_toArray, List.getElem_cons_zero, List.getElem_cons_succ]
                  refine wpAnyH_take (i := 12) (v := ?_) rfl (by kernel_rfl) (by kernel_rfl) (by kernel_rfl) (fun _ _ _ h => h) (Or.inl ⟨by rfl, ?_⟩) (by assumption) ?_
                  rotate_left
                  · (intro W hSw; (try dsimp only at hSw); go_simp <;> with_reducible rfl)
                  try simp only [Act.put, List.setIfInBounds_toArray, List.set_cons_zero, List.set_cons_succ, List.getElem_toArray, List.getElem_cons_zero, List.getElem_cons_succ]
                  refine wpAnyH_done (by kernel_rfl) ?_ _
                  have R8 := hid (R7.out.keepN kk)
                  have K8 := hid (K7.out.trans kk)
                  clear kk
                  cases z1 with
                  | false =>
                    go_wp2_with fail
                    go_roundw
                    case rel => exact ⟨k + 1, by omega, by go_num, hid ⟨V, τ1, _, _, _, R8.out, HV.out, HG1.out, K8.out⟩⟩
                    case measure => simp only [intOf]; omega
                  | true =>
                    cases hq : (u1 == u0) with
                    | true =>
                      exfalso
                      have e : u1 = u0 := by simpa using hq
                      have h1 := HBAR.out.one rfl
                      rw [e] at h1
                      rw [h1] at hu
                      cases hu
                    | false =>
                      go_wp2_with fail
                      go_roundw
                      case rel => exact ⟨k + 1, by omega, by go_num, hid ⟨V, τ1, _, _, _, R8.out, HV.out, HG1.out, K8.out⟩⟩
                      case measure => simp only [intOf]; omega
        · have b3 := HBAR.out.back h0 (by omega)
          cases b4 : (bits BinOp.and .u8 (bits BinOp.and .u8 M x.set / 2 ^ x.inn.toNat) 1 == 0) with
          | true =>
            have hO := HBAR.out.off h0 (by omega) b4
            have b5 : (O != 0) = false := by rw [hO]; rfl
            clear hO
            as_aux_lemma =>
              cases z0 with
              | false =>
                go_wp2_with fail
                go_roundw
                case rel => exact ⟨k + 1, by omega, by go_num, hid ⟨V, τ1, _, _, _, R6.out, HV.out, HG1.out, K6.out⟩⟩
                case measure => simp only [intOf]; omega
              | true =>
                by_cases hsd : x.f.src.a = x.f.dst.a ∧ x.f.src.b = x.f.dst.b ∧ x.f.src.c = x.f.dst.c ∧ x.f.src.d = x.f.dst.d ∧ x.f.src.e = x.f.dst.e ∧ x.f.src.f = x.f.dst.f
                · have hE : ∀ W, (binOp .neq 31 (.agg #[.int .u8 x.f.src.a, .int .u8 x.f.src.b, .int .u8 x.f.src.c, .int .u8 x.f.src.d, .int .u8 x.f.src.e, .int .u8 x.f.src.f]) (.agg #[.int .u8 x.f.dst.a, .int .u8 x.f.dst.b, .int .u8 x.f.dst.c, .int .u8 x.f.dst.d, .int .u8 x.f.dst.e, .int .u8 x.f.dst.f])).run Try.prog W = .ok (.bool false) W := fun W => neq25 x.f.src.a x.f.src.b x.f.src.c x.f.src.d x.f.src.e x.f.src.f x.f.dst.a x.f.dst.b x.f.dst.c x.f.dst.d x.f.dst.e x.f.dst.f true (decide_eq_true hsd) W
                  clear hsd
                  go_wp2_with fail
                  go_roundw
                  case rel => exact ⟨k + 1, by omega, by go_num, hid ⟨V, τ1, _, _, _, R6.out, HV.out, HG1.out, K6.out⟩⟩
                  case measure => simp only [intOf]; omega
                · have hE : ∀ W, (binOp .neq 31 (.agg #[.int .u8 x.f.src.a, .int .u8 x.f.src.b, .int .u8 x.f.src.c, .int .u8 x.f.src.d, .int .u8 x.f.src.e, .int .u8 x.f.src.f]) (.agg #[.int .u8 x.f.dst.a, .int .u8 x.f.dst.b, .int .u8 x.f.dst.c, .int .u8 x.f.dst.d, .int .u8 x.f.dst.e, .int .u8 x.f.dst.f])).run Try.prog W = .ok (.bool true) W := fun W => neq25 x.f.src.a x.f.src.b x.f.src.c x.f.src.d x.f.src.e x.f.src.f x.f.dst.a x.f.dst.b x.f.dst.c x.f.dst.d x.f.dst.e x.f.dst.f false (decide_eq_false hsd) W
                  clear hsd
                  cases hu : (bits BinOp.andNot .u8 O u0 != 0) with
                  | false =>
                    go_wp2_with fail
                    go_roundw
                    case rel => exact ⟨k + 1, by omega, by go_num, hid ⟨V, τ1, _, _, _, R6.out, HV.out, HG1.out, K6.out⟩⟩
                    case measure => simp only [intOf]; omega
                  | true =>
                    have hn32 : m6 ≤ 32 := by have h1 := R6.out.2.2.1.2.1.1; have := HG1.out.L; omega
                    have hd32 : decide ((m6 : Int) ≤ 32) = true := by simp; omega
                    go_wp2_with (go_at_call 11; refine (base_any _ R6.out).mono ?_; rintro ee wq ⟨rfl, rfl⟩)
                    refine (list_any _ _ _ _ _ _ _ _ R6.out.2.2.1 (by omega)).mono ?_
                    rintro ee w7 ⟨⟨p7, c7, rfl, _⟩, k7⟩
                    have R7 := hid (R6.out.keepN k7)
                    have K7 := hid (K6.out.trans k7)
                    have A7 := hid (k7.lies A6.out)
                    have kk : Keeps Nil w7 w7 := Keeps.refl _ _
                    have HA : Hid (∀ X, Keeps Nil w7 X → (fun X : World => (X.cell? ⟨bA, 0, Option.none⟩ = some (.int .u8 x.d) ∧ X.cell? ⟨bA, 1, Option.none⟩ = some (.int .u16 x.m.v) ∧ X.cell? ⟨bA, 2, Option.none⟩ = some (.int .u8 x.set) ∧ X.cell? ⟨bA, 3, Option.none⟩ = some (.int .u8 x.som) ∧ X.cell? ⟨bA, 4, Option.none⟩ = some (.int .u8 x.m.a) ∧ X.cell? ⟨bA, 5, Option.none⟩ = some (.int .u8 x.m.b) ∧ X.cell? ⟨bA, 6, Option.none⟩ = some (.int .u8 x.m.c) ∧ X.cell? ⟨bA, 7, Option.none⟩ = some (.int .u8 x.m.d) ∧ X.cell? ⟨bA, 8, Option.none⟩ = some (.int .u8 x.m.e) ∧ X.cell? ⟨bA, 9, Option.none⟩ = some (.int .u8 x.m.f) ∧ X.cell? ⟨bA, 10, Option.none⟩ = some (.int .i64 x.inn) ∧ X.cell? ⟨bA, 11, Option.none⟩ = some (.int .u8 x.f.dst.a) ∧ X.cell? ⟨bA, 12, Option.none⟩ = some (.int .u8 x.f.dst.b) ∧ X.cell? ⟨bA, 13, Option.none⟩ = some (.int .u8 x.f.dst.c) ∧ X.cell? ⟨bA, 14, Option.none⟩ = some (.int .u8 x.f.dst.d) ∧ X.cell? ⟨bA, 15, Option.none⟩ = some (.int .u8 x.f.dst.e) ∧ X.cell? ⟨bA, 16, Option.none⟩ = some (.int .u8 x.f.dst.f) ∧ X.cell? ⟨bA, 17, Option.none⟩ = some (.int .u8 x.f.src.a) ∧ X.cell? ⟨bA, 18, Option.none⟩ = some (.int .u8 x.f.src.b) ∧ X.cell? ⟨bA, 19, Option.none⟩ = some (.int .u8 x.f.src.c) ∧ X.cell? ⟨bA, 20, Option.none⟩ = some (.int .u8 x.f.src.d) ∧ X.cell? ⟨bA, 21, Option.none⟩ = some (.int .u8 x.f.src.e) ∧ X.cell? ⟨bA, 22, Option.none⟩ = some (.int .u8 x.f.src.f))) X) := hid (fun X kX => act_cells (kX.lies A7.out))
                    clear k7 g0 g1 g2 g3 g4 g5 g6 g7 g8 g9 g10 g11 g12 g13 g14 g15 g16 g17 g18 g19 g20 g21 g22
                    obtain ⟨g0, g1, g2, g3, g4, g5, g6, g7, g8, g9, g10, g11, g12, g13, g14, g15, g16, g17, g18, g19, g20, g21, g22⟩ := act_cells A7.out
                    go_wp2_with fail
                    have RD := hid (R7.out.keepN kk.drew)
                    have C15 := hid (p_look RD.out.2.2.1 HG1.out x.f.dst HXO.out.2.2.2.2.2.1.1)
                    rw [HDV.out, HLK1.out] at C15
                    refine wp_region_held_drew (S := (fun X : World => (X.cell? ⟨bA, 0, Option.none⟩ = some (.int .u8 x.d) ∧ X.cell? ⟨bA, 1, Option.none⟩ = some (.int .u16 x.m.v) ∧ X.cell? ⟨bA, 2, Option.none⟩ = some (.int .u8 x.set) ∧ X.cell? ⟨bA, 3, Option.none⟩ = some (.int .u8 x.som) ∧ X.cell? ⟨bA, 4, Option.none⟩ = some (.int .u8 x.m.a) ∧ X.cell? ⟨bA, 5, Option.none⟩ = some (.int .u8 x.m.b) ∧ X.cell? ⟨bA, 6, Option.none⟩ = some (.int .u8 x.m.c) ∧ X.cell? ⟨bA, 7, Option.none⟩ = some (.int .u8 x.m.d) ∧ X.cell? ⟨bA, 8, Option.none⟩ = some (.int .u8 x.m.e) ∧ X.cell? ⟨bA, 9, Option.none⟩ = some (.int .u8 x.m.f) ∧ X.cell? ⟨bA, 10, Option.none⟩ = some (.int .i64 x.inn) ∧ X.cell? ⟨bA, 11, Option.none⟩ = some (.int .u8 x.f.dst.a) ∧ X.cell? ⟨bA, 12, Option.none⟩ = some (.int .u8 x.f.dst.b) ∧ X.cell? ⟨bA, 13, Option.none⟩ = some (.int .u8 x.f.dst.c) ∧ X.cell? ⟨bA, 14, Option.none⟩ = some (.int .u8 x.f.dst.d) ∧ X.cell? ⟨bA, 15, Option.none⟩ = some (.int .u8 x.f.dst.e) ∧ X.cell? ⟨bA, 16, Option.none⟩ = some (.int .u8 x.f.dst.f) ∧ X.cell? ⟨bA, 17, Option.none⟩ = some (.int .u8 x.f.src.a) ∧ X.cell? ⟨bA, 18, Option.none⟩ = some (.int .u8 x.f.src.b) ∧ X.cell? ⟨bA, 19, Option.none⟩ = some (.int .u8 x.f.src.c) ∧ X.cell? ⟨bA, 20, Option.none⟩ = some (.int .u8 x.f.src.d) ∧ X.cell? ⟨bA, 21, Option.none⟩ = some (.int .u8 x.f.src.e) ∧ X.cell? ⟨bA, 22, Option.none⟩ = some (.int .u8 x.f.src.f)))) (by kernel_rfl) ?_ (fun hHeld => ?_)
                    · (try dsimp only); (first | exact HA.out _ kk | exact HA.out _ kk.drew | exact HS9)
                    refine wpAnyH_take (i := 0) (v := ?_) rfl (by kernel_rfl) (by kernel_rfl) (by kernel_rfl) (fun _ _ _ h => h) (Or.inl ⟨by rfl, ?_⟩) (by assumption) ?_
                    rotate_left
                    · (intro W hSw; (try dsimp only at hSw); go_simp <;> with_reducible rfl)
                    try simp only [Act.put, List.setIfInBounds_toArray, List.set_cons_zero, List.set_cons_succ, List.getElem_toArray, List.getElem_cons_zero, List.getElem_cons_succ]
                    refine wpAnyH_take (i := 2) (v := ?_) rfl (by kernel_rfl) (by kernel_rfl) (by kernel_rfl) (fun _ _ _ h => h) (Or.inl ⟨by rfl, ?_⟩) (by assumption) ?_
                    rotate_left
                    · (intro W hSw; (try dsimp only at hSw); go_simp <;> with_reducible rfl)
                    try simp only [Act.put, List.setIfInBounds_toArray, List.set_cons_zero, List.set_cons_succ, List.getElem_toArray, List.getElem_cons_zero, List.getElem_cons_succ]
                    refine wpAnyH_take (i := 3) (v := ?_) rfl (by kernel_rfl) (by kernel_rfl) (by kernel_rfl) (fun _ _ _ h => h) (Or.inl ⟨by rfl, ?_⟩) (by assumption) ?_
                    rotate_left
                    · (intro W hSw; (try dsimp only at hSw); go_simp <;> with_reducible rfl)
                    try simp only [Act.put, List.setIfInBounds_toArray, List.set_cons_zero, List.set_cons_succ, List.getElem_toArray, List.getElem_cons_zero, List.getElem_cons_succ]
                    refine wpAnyH_take (i := 4) (v := ?_) rfl (by kernel_rfl) (by kernel_rfl) (by kernel_rfl) (fun _ _ _ h => h) (Or.inl ⟨by rfl, ?_⟩) (by assumption) ?_
                    rotate_left
                    · (intro W hSw; (try dsimp only at hSw); go_simp <;> with_reducible rfl)
                    try simp only [Act.put, List.setIfInBounds_toArray, List.set_cons_zero, List.set_cons_succ, List.getElem_toArray, List.getElem_cons_zero, List.getElem_cons_succ]
                    refine wpAnyH_take (i := 5) (v := ?_) rfl (by kernel_rfl) (by kernel_rfl) (by kernel_rfl) (fun _ _ _ h => h) (Or.inl ⟨by rfl, ?_⟩) (by assumption) ?_
                    rotate_left
                    · (intro W hSw; (try dsimp only at hSw); go_simp <;> with_reducible rfl)
                    try simp only [Act.put, List.setIfInBounds_toArray, List.set_cons_zero, List.set_cons_succ, List.getElem_toArray, List.getElem_cons_zero, List.getElem_cons_succ]
                    refine wpAnyH_take (i := 6) (v := ?_) rfl (by kernel_rfl) (by kernel_rfl) (by kernel_rfl) (fun _ _ _ h => h) (Or.inl ⟨by rfl, ?_⟩) (by assumption) ?_
                    rotate_left
                    · (intro W hSw; (try dsimp only at hSw); go_simp <;> with_reducible rfl)
                    try simp only [Act.put, List.setIfInBounds_toArray, List.set_cons_zero, List.set_cons_succ, List.getElem_toArray, List.getElem_cons_zero, List.getElem_cons_succ]
                    refine wpAnyH_ready (rs := [1]) (by kernel_rfl) (by simp) ?_
                    refine AllReadyH.cons rfl (fun K hK => ?_) AllReadyH.nil
                    try simp only [Act.put, List.setIfInBounds_toArray, List.set_cons_zero, List.set_cons_succ, List.getElem_toArray, List.getElem_cons_zero, List.getElem_cons_succ]
                    go_simp
                    (go_at_call 11; refine (base_any _ RD.out).mono ?_; rintro ee wq ⟨rfl, rfl⟩)
                    (try go_wp2_with fail)
                    refine hK.out _ _ ?_ (fun hHeld => ?_)
                    · (try dsimp only); (first | exact HA.out _ kk | exact HA.out _ kk.drew | exact HS9)
                    clear hK K
                    try simp only [Act.put, List.setIfInBounds_toArray, List.set_cons_zero, List.set_cons_succ, List.getElem_toArray, List.getElem_cons_zero, List.getElem_cons_succ]
                    refine wpAnyH_ready (rs := [7]) (by kernel_rfl) (by simp) ?_
                    refine AllReadyH.cons rfl (fun K hK => ?_) AllReadyH.nil
                    try simp only [Act.put, List.setIfInBounds_toArray, List.set_cons_zero, List.set_cons_succ, List.getElem_toArray, List.getElem_cons_zero, List.getElem_cons_succ]
                    go_simp
                    (go_at_call 15; refine C15.out.mono ?_; rintro ee wv ⟨rfl, kz⟩; have kk : Keeps Nil w7 wv := by first | exact kk.trans kz | exact kk.drew.trans kz | exact kk.drew.drew.trans kz)
                    (try go_wp2_with fail)
                    refine hK.out _ _ ?_ (fun hHeld => ?_)
                    · (try dsimp only); (first | exact HA.out _ kk | exact HA.out _ kk.drew | exact HS9)
                    clear hK K
                    try simp only [Act.put, List.setIfInBounds_toArray, List.set_cons_zero, List.set_cons_succ, List.getElem_toArray, List.getElem_cons_zero, List.getElem_cons_succ]
                    refine wpAnyH_take (i := 8) (v := ?_) rfl (by kernel_rfl) (by kernel_rfl) (by kernel_rfl) (fun _ _ _ h => h) (Or.inl ⟨by rfl, ?_⟩) (by assumption) ?_
                    rotate_left
                    · (intro W hSw; (try dsimp only at hSw); go_simp <;> with_reducible rfl)
                    try simp only [Act.put, List.setIfInBounds_toArray, List.set_cons_zero, List.set_cons_succ, List.getElem_toArray, List.getElem_cons_zero, List.getElem_cons_succ]
                    refine wpAnyH_take (i := 9) (v := ?_) rfl (by kernel_rfl) (by kernel_rfl) (by kernel_rfl) (fun _ _ _ h => h) (Or.inl ⟨by rfl, ?_⟩) (by assumption) ?_
                    rotate_left
                    · (intro W hSw; (try dsimp only at hSw); go_simp <;> with_reducible rfl)
                    try simp only [Act.put, List.setIfInBounds_toArray, List.set_cons_zero, List.set_cons_succ, List.getElem_toArray, List.getElem_cons_zero, List.getElem_cons_succ]
                    refine wpAnyH_take (i := 10) (v := ?_) rfl (by kernel_rfl) (by kernel_rfl) (by kernel_rfl) (fun _ _ _ h => h) (Or.inl ⟨by rfl, ?_⟩) (by assumption) ?_
                    rotate_left
                    · (intro W hSw; (try dsimp only at hSw); go_simp <;> with_reducible rfl)
                    try simp only [Act.put, List.setIfInBounds_toArray, List.set_cons_zero, List.set_cons_succ, List.getElem_toArray, List.getElem_cons_zero, List.getElem_cons_succ]
                    refine wpAnyH_take (i := 11) (v := ?_) rfl (by kernel_rfl) (by kernel_rfl) (by kernel_rfl) (fun _ _ _ h => h) (Or.inl ⟨by rfl, ?_⟩) (by assumption) ?_
                    rotate_left
                    · (intro W hSw; (try dsimp only at hSw); go_simp <;> with_reducible rfl)
                    try simp only [Act.put, List.setIfInBounds_toArray, List.set_cons_zero, List.set_cons_succ, List.getElem_toArray, List.getElem_cons_zero, List.getElem_cons_succ]
                    refine wpAnyH_take (i := 12) (v := ?_) rfl (by kernel_rfl) (by kernel_rfl) (by kernel_rfl) (fun _ _ _ h => h) (Or.inl ⟨by rfl, ?_⟩) (by assumption) ?_
                    rotate_left
                    · (intro W hSw; (try dsimp only at hSw); go_simp <;> with_reducible rfl)
                    try simp only [Act.put, List.setIfInBounds_toArray, List.set_cons_zero, List.set_cons_succ, List.getElem_toArray, List.getElem_cons_zero, List.getElem_cons_succ]
                    refine wpAnyH_done (by kernel_rfl) ?_ _
                    have R8 := hid (R7.out.keepN kk)
                    have K8 := hid (K7.out.trans kk)
                    clear kk
                    cases z1 with
                    | false =>
                      go_wp2_with fail
                      go_roundw
                      case rel => exact ⟨k + 1, by omega, by go_num, hid ⟨V, τ1, _, _, _, R8.out, HV.out, HG1.out, K8.out⟩⟩
                      case measure => simp only [intOf]; omega
                    | true =>
                      cases hq : (u1 == u0) with
                      | true =>
                        exfalso
                        have e : u1 = u0 := by simpa using hq
                        have h1 := HBAR.out.one rfl
                        rw [e] at h1
                        rw [h1] at hu
                        cases hu
                      | false =>
                        go_wp2_with fail
                        go_roundw
                        case rel => exact ⟨k + 1, by omega, by go_num, hid ⟨V, τ1, _, _, _, R8.out, HV.out, HG1.out, K8.out⟩⟩
                        case measure => simp only [intOf]; omega
          | false =>
            as_aux_lemma =>
              cases z0 with
              | false =>
                go_wp2_with fail
                go_roundw
                case rel => exact ⟨k + 1, by omega, by go_num, hid ⟨V, τ1, _, _, _, R6.out, HV.out, HG1.out, K6.out⟩⟩
                case measure => simp only [intOf]; omega
              | true =>
                by_cases hsd : x.f.src.a = x.f.dst.a ∧ x.f.src.b = x.f.dst.b ∧ x.f.src.c = x.f.dst.c ∧ x.f.src.d = x.f.dst.d ∧ x.f.src.e = x.f.dst.e ∧ x.f.src.f = x.f.dst.f
                · have hE : ∀ W, (binOp .neq 31 (.agg #[.int .u8 x.f.src.a, .int .u8 x.f.src.b, .int .u8 x.f.src.c, .int .u8 x.f.src.d, .int .u8 x.f.src.e, .int .u8 x.f.src.f]) (.agg #[.int .u8 x.f.dst.a, .int .u8 x.f.dst.b, .int .u8 x.f.dst.c, .int .u8 x.f.dst.d, .int .u8 x.f.dst.e, .int .u8 x.f.dst.f])).run Try.prog W = .ok (.bool false) W := fun W => neq25 x.f.src.a x.f.src.b x.f.src.c x.f.src.d x.f.src.e x.f.src.f x.f.dst.a x.f.dst.b x.f.dst.c x.f.dst.d x.f.dst.e x.f.dst.f true (decide_eq_true hsd) W
                  clear hsd
                  go_wp2_with fail
                  go_roundw
                  case rel => exact ⟨k + 1, by omega, by go_num, hid ⟨V, τ1, _, _, _, R6.out, HV.out, HG1.out, K6.out⟩⟩
                  case measure => simp only [intOf]; omega
                · have hE : ∀ W, (binOp .neq 31 (.agg #[.int .u8 x.f.src.a, .int .u8 x.f.src.b, .int .u8 x.f.src.c, .int .u8 x.f.src.d, .int .u8 x.f.src.e, .int .u8 x.f.src.f]) (.agg #[.int .u8 x.f.dst.a, .int .u8 x.f.dst.b, .int .u8 x.f.dst.c, .int .u8 x.f.dst.d, .int .u8 x.f.dst.e, .int .u8 x.f.dst.f])).run Try.prog W = .ok (.bool true) W := fun W => neq25 x.f.src.a x.f.src.b x.f.src.c x.f.src.d x.f.src.e x.f.src.f x.f.dst.a x.f.dst.b x.f.dst.c x.f.dst.d x.f.dst.e x.f.dst.f false (decide_eq_false hsd) W
                  clear hsd
                  cases hu : (bits BinOp.andNot .u8 O u0 != 0) with
                  | false =>
                    go_wp2_with fail
                    go_roundw
                    case rel => exact ⟨k + 1, by omega, by go_num, hid ⟨V, τ1, _, _, _, R6.out, HV.out, HG1.out, K6.out⟩⟩
                    case measure => simp only [intOf]; omega
                  | true =>
                    have hn32 : m6 ≤ 32 := by have h1 := R6.out.2.2.1.2.1.1; have := HG1.out.L; omega
                    have hd32 : decide ((m6 : Int) ≤ 32) = true := by simp; omega
                    go_wp2_with (go_at_call 11; refine (base_any _ R6.out).mono ?_; rintro ee wq ⟨rfl, rfl⟩)
                    refine (list_any _ _ _ _ _ _ _ _ R6.out.2.2.1 (by omega)).mono ?_
                    rintro ee w7 ⟨⟨p7, c7, rfl, _⟩, k7⟩
                    have R7 := hid (R6.out.keepN k7)
                    have K7 := hid (K6.out.trans k7)
                    have A7 := hid (k7.lies A6.out)
                    have kk : Keeps Nil w7 w7 := Keeps.refl _ _
                    have HA : Hid (∀ X, Keeps Nil w7 X → (fun X : World => (X.cell? ⟨bA, 0, Option.none⟩ = some (.int .u8 x.d) ∧ X.cell? ⟨bA, 1, Option.none⟩ = some (.int .u16 x.m.v) ∧ X.cell? ⟨bA, 2, Option.none⟩ = some (.int .u8 x.set) ∧ X.cell? ⟨bA, 3, Option.none⟩ = some (.int .u8 x.som) ∧ X.cell? ⟨bA, 4, Option.none⟩ = some (.int .u8 x.m.a) ∧ X.cell? ⟨bA, 5, Option.none⟩ = some (.int .u8 x.m.b) ∧ X.cell? ⟨bA, 6, Option.none⟩ = some (.int .u8 x.m.c) ∧ X.cell? ⟨bA, 7, Option.none⟩ = some (.int .u8 x.m.d) ∧ X.cell? ⟨bA, 8, Option.none⟩ = some (.int .u8 x.m.e) ∧ X.cell? ⟨bA, 9, Option.none⟩ = some (.int .u8 x.m.f) ∧ X.cell? ⟨bA, 10, Option.none⟩ = some (.int .i64 x.inn) ∧ X.cell? ⟨bA, 11, Option.none⟩ = some (.int .u8 x.f.dst.a) ∧ X.cell? ⟨bA, 12, Option.none⟩ = some (.int .u8 x.f.dst.b) ∧ X.cell? ⟨bA, 13, Option.none⟩ = some (.int .u8 x.f.dst.c) ∧ X.cell? ⟨bA, 14, Option.none⟩ = some (.int .u8 x.f.dst.d) ∧ X.cell? ⟨bA, 15, Option.none⟩ = some (.int .u8 x.f.dst.e) ∧ X.cell? ⟨bA, 16, Option.none⟩ = some (.int .u8 x.f.dst.f) ∧ X.cell? ⟨bA, 17, Option.none⟩ = some (.int .u8 x.f.src.a) ∧ X.cell? ⟨bA, 18, Option.none⟩ = some (.int .u8 x.f.src.b) ∧ X.cell? ⟨bA, 19, Option.none⟩ = some (.int .u8 x.f.src.c) ∧ X.cell? ⟨bA, 20, Option.none⟩ = some (.int .u8 x.f.src.d) ∧ X.cell? ⟨bA, 21, Option.none⟩ = some (.int .u8 x.f.src.e) ∧ X.cell? ⟨bA, 22, Option.none⟩ = some (.int .u8 x.f.src.f))) X) := hid (fun X kX => act_cells (kX.lies A7.out))
                    clear k7 g0 g1 g2 g3 g4 g5 g6 g7 g8 g9 g10 g11 g12 g13 g14 g15 g16 g17 g18 g19 g20 g21 g22
                    obtain ⟨g0, g1, g2, g3, g4, g5, g6, g7, g8, g9, g10, g11, g12, g13, g14, g15, g16, g17, g18, g19, g20, g21, g22⟩ := act_cells A7.out
                    go_wp2_with fail
                    have RD := hid (R7.out.keepN kk.drew)
                    have C15 := hid (p_look RD.out.2.2.1 HG1.out x.f.dst HXO.out.2.2.2.2.2.1.1)
                    rw [HDV.out, HLK1.out] at C15
                    refine wp_region_held_drew (S := (fun X : World => (X.cell? ⟨bA, 0, Option.none⟩ = some (.int .u8 x.d) ∧ X.cell? ⟨bA, 1, Option.none⟩ = some (.int .u16 x.m.v) ∧ X.cell? ⟨bA, 2, Option.none⟩ = some (.int .u8 x.set) ∧ X.cell? ⟨bA, 3, Option.none⟩ = some (.int .u8 x.som) ∧ X.cell? ⟨bA, 4, Option.none⟩ = some (.int .u8 x.m.a) ∧ X.cell? ⟨bA, 5, Option.none⟩ = some (.int .u8 x.m.b) ∧ X.cell? ⟨bA, 6, Option.none⟩ = some (.int .u8 x.m.c) ∧ X.cell? ⟨bA, 7, Option.none⟩ = some (.int .u8 x.m.d) ∧ X.cell? ⟨bA, 8, Option.none⟩ = some (.int .u8 x.m.e) ∧ X.cell? ⟨bA, 9, Option.none⟩ = some (.int .u8 x.m.f) ∧ X.cell? ⟨bA, 10, Option.none⟩ = some (.int .i64 x.inn) ∧ X.cell? ⟨bA, 11, Option.none⟩ = some (.int .u8 x.f.dst.a) ∧ X.cell? ⟨bA, 12, Option.none⟩ = some (.int .u8 x.f.dst.b) ∧ X.cell? ⟨bA, 13, Option.none⟩ = some (.int .u8 x.f.dst.c) ∧ X.cell? ⟨bA, 14, Option.none⟩ = some (.int .u8 x.f.dst.d) ∧ X.cell? ⟨bA, 15, Option.none⟩ = some (.int .u8 x.f.dst.e) ∧ X.cell? ⟨bA, 16, Option.none⟩ = some (.int .u8 x.f.dst.f) ∧ X.cell? ⟨bA, 17, Option.none⟩ = some (.int .u8 x.f.src.a) ∧ X.cell? ⟨bA, 18, Option.none⟩ = some (.int .u8 x.f.src.b) ∧ X.cell? ⟨bA, 19, Option.none⟩ = some (.int .u8 x.f.src.c) ∧ X.cell? ⟨bA, 20, Option.none⟩ = some (.int .u8 x.f.src.d) ∧ X.cell? ⟨bA, 21, Option.none⟩ = some (.int .u8 x.f.src.e) ∧ X.cell? ⟨bA, 22, Option.none⟩ = some (.int .u8 x.f.src.f)))) (by kernel_rfl) ?_ (fun hHeld => ?_)
                    · (try dsimp only); (first | exact HA.out _ kk | exact HA.out _ kk.drew | exact HS9)
                    refine wpAnyH_take (i := 0) (v := ?_) rfl (by kernel_rfl) (by kernel_rfl) (by kernel_rfl) (fun _ _ _ h => h) (Or.inl ⟨by rfl, ?_⟩) (by assumption) ?_
                    rotate_left
                    · (intro W hSw; (try dsimp only at hSw); go_simp <;> with_reducible rfl)
                    try simp only [Act.put, List.setIfInBounds_toArray, List.set_cons_zero, List.set_cons_succ, List.getElem_toArray, List.getElem_cons_zero, List.getElem_cons_succ]
                    refine wpAnyH_take (i := 2) (v := ?_) rfl (by kernel_rfl) (by kernel_rfl) (by kernel_rfl) (fun _ _ _ h => h) (Or.inl ⟨by rfl, ?_⟩) (by assumption) ?_
                    rotate_left
                    · (intro W hSw; (try dsimp only at hSw); go_simp <;> with_reducible rfl)
                    try simp only [Act.put, List.setIfInBounds_toArray, List.set_cons_zero, List.set_cons_succ, List.getElem_toArray, List.getElem_cons_zero, List.getElem_cons_succ]
                    refine wpAnyH_take (i := 3) (v := ?_) rfl (by kernel_rfl) (by kernel_rfl) (by kernel_rfl) (fun _ _ _ h => h) (Or.inl ⟨by rfl, ?_⟩) (by assumption) ?_
                    rotate_left
                    · (intro W hSw; (try dsimp only at hSw); go_simp <;> with_reducible rfl)
                    try simp only [Act.put, List.setIfInBounds_toArray, List.set_cons_zero, List.set_cons_succ, List.getElem_toArray, List.getElem_cons_zero, List.getElem_cons_succ]
                    refine wpAnyH_take (i := 4) (v := ?_) rfl (by kernel_rfl) (by kernel_rfl) (by kernel_rfl) (fun _ _ _ h => h) (Or.inl ⟨by rfl, ?_⟩) (by assumption) ?_
                    rotate_left
                    · (intro W hSw; (try dsimp only at hSw); go_simp <;> with_reducible rfl)
                    try simp only [Act.put, List.setIfInBounds_toArray, List.set_cons_zero, List.set_cons_succ, List.getElem_toArray, List.getElem_cons_zero, List.getElem_cons_succ]
                    refine wpAnyH_take (i := 5) (v := ?_) rfl (by kernel_rfl) (by kernel_rfl) (by kernel_rfl) (fun _ _ _ h => h) (Or.inl ⟨by rfl, ?_⟩) (by assumption) ?_
                    rotate_left
                    · (intro W hSw; (try dsimp only at hSw); go_simp <;> with_reducible rfl)
                    try simp only [Act.put, List.setIfInBounds_toArray, List.set_cons_zero, List.set_cons_succ, List.getElem_toArray, List.getElem_cons_zero, List.getElem_cons_succ]
                    refine wpAnyH_take (i := 6) (v := ?_) rfl (by kernel_rfl) (by kernel_rfl) (by kernel_rfl) (fun _ _ _ h => h) (Or.inl ⟨by rfl, ?_⟩) (by assumption) ?_
                    rotate_left
                    · (intro W hSw; (try dsimp only at hSw); go_simp <;> with_reducible rfl)
                    try simp only [Act.put, List.setIfInBounds_toArray, List.set_cons_zero, List.set_cons_succ, List.getElem_toArray, List.getElem_cons_zero, List.getElem_cons_succ]
                    refine wpAnyH_ready (rs := [1]) (by kernel_rfl) (by simp) ?_
                    refine AllReadyH.cons rfl (fun K hK => ?_) AllReadyH.nil
                    try simp only [Act.put, List.setIfInBounds_toArray, List.set_cons_zero, List.set_cons_succ, List.getElem_toArray, List.getElem_cons_zero, List.getElem_cons_succ]
                    go_simp
                    (go_at_call 11; refine (base_any _ RD.out).mono ?_; rintro ee wq ⟨rfl, rfl⟩)
                    (try go_wp2_with fail)
                    refine hK.out _ _ ?_ (fun hHeld => ?_)
                    · (try dsimp only); (first | exact HA.out _ kk | exact HA.out _ kk.drew | exact HS9)
                    clear hK K
                    try simp only [Act.put, List.setIfInBounds_toArray, List.set_cons_zero, List.set_cons_succ, List.getElem_toArray, List.getElem_cons_zero, List.getElem_cons_succ]
                    refine wpAnyH_ready (rs := [7]) (by kernel_rfl) (by simp) ?_
                    refine AllReadyH.cons rfl (fun K hK => ?_) AllReadyH.nil
                    try simp only [Act.put, List.setIfInBounds_toArray, List.set_cons_zero, List.set_cons_succ, List.getElem_toArray, List.getElem_cons_zero, List.getElem_cons_succ]
                    go_simp
                    (go_at_call 15; refine C15.out.mono ?_; rintro ee wv ⟨rfl, kz⟩; have kk : Keeps Nil w7 wv := by first | exact kk.trans kz | exact kk.drew.trans kz | exact kk.drew.drew.trans kz)
                    (try go_wp2_with fail)
                    refine hK.out _ _ ?_ (fun hHeld => ?_)
                    · (try dsimp only); (first | exact HA.out _ kk | exact HA.out _ kk.drew | exact HS9)
                    clear hK K
                    try simp only [Act.put, List.setIfInBounds_toArray, List.set_cons_zero, List.set_cons_succ, List.getElem_toArray, List.getElem_cons_zero, List.getElem_cons_succ]
                    refine wpAnyH_take (i := 8) (v := ?_) rfl (by kernel_rfl) (by kernel_rfl) (by kernel_rfl) (fun _ _ _ h => h) (Or.inl ⟨by rfl, ?_⟩) (by assumption) ?_
                    rotate_left
                    · (intro W hSw; (try dsimp only at hSw); go_simp <;> with_reducible rfl)
                    try simp only [Act.put, List.setIfInBounds_toArray, List.set_cons_zero, List.set_cons_succ, List.getElem_toArray, List.getElem_cons_zero, List.getElem_cons_succ]
                    refine wpAnyH_take (i := 9) (v := ?_) rfl (by kernel_rfl) (by kernel_rfl) (by kernel_rfl) (fun _ _ _ h => h) (Or.inl ⟨by rfl, ?_⟩) (by assumption) ?_
                    rotate_left
                    · (intro W hSw; (try dsimp only at hSw); go_simp <;> with_reducible rfl)
                    try simp only [Act.put, List.setIfInBounds_toArray, List.set_cons_zero, List.set_cons_succ, List.getElem_toArray, List.getElem_cons_zero, List.getElem_cons_succ]
                    refine wpAnyH_take (i := 10) (v := ?_) rfl (by kernel_rfl) (by kernel_rfl) (by kernel_rfl) (fun _ _ _ h => h) (Or.inl ⟨by rfl, ?_⟩) (by assumption) ?_
                    rotate_left
                    · (intro W hSw; (try dsimp only at hSw); go_simp <;> with_reducible rfl)
                    try simp only [Act.put, List.setIfInBounds_toArray, List.set_cons_zero, List.set_cons_succ, List.getElem_toArray, List.getElem_cons_zero, List.getElem_cons_succ]
                    refine wpAnyH_take (i := 11) (v := ?_) rfl (by kernel_rfl) (by kernel_rfl) (by kernel_rfl) (fun _ _ _ h => h) (Or.inl ⟨by rfl, ?_⟩) (by assumption) ?_
                    rotate_left
                    · (intro W hSw; (try dsimp only at hSw); go_simp <;> with_reducible rfl)
                    try simp only [Act.put, List.setIfInBounds_toArray, List.set_cons_zero, List.set_cons_succ, List.getElem_toArray, List.getElem_cons_zero, List.getElem_cons_succ]
                    refine wpAnyH_take (i := 12) (v := ?_) rfl (by kernel_rfl) (by kernel_rfl) (by kernel_rfl) (fun _ _ _ h => h) (Or.inl ⟨by rfl, ?_⟩) (by assumption) ?_
                    rotate_left
                    · (intro W hSw; (try dsimp only at hSw); go_simp <;> with_reducible rfl)
                    try simp only [Act.put, List.setIfInBounds_toArray, List.set_cons_zero, List.set_cons_succ, List.getElem_toArray, List.getElem_cons_zero, List.getElem_cons_succ]
                    refine wpAnyH_done (by kernel_rfl) ?_ _
                    have R8 := hid (R7.out.keepN kk)
                    have K8 := hid (K7.out.trans kk)
                    clear kk
                    cases z1 with
                    | false =>
                      go_wp2_with fail
                      go_roundw
                      case rel => exact ⟨k + 1, by omega, by go_num, hid ⟨V, τ1, _, _, _, R8.out, HV.out, HG1.out, K8.out⟩⟩
                      case measure => simp only [intOf]; omega
                    | true =>
                      cases hq : (u1 == u0) with
                      | true =>
                        exfalso
                        have e : u1 = u0 := by simpa using hq
                        have h1 := HBAR.out.one rfl
                        rw [e] at h1
                        rw [h1] at hu
                        cases hu
                      | false =>
                        go_wp2_with fail
                        go_roundw
                        case rel => exact ⟨k + 1, by omega, by go_num, hid ⟨V, τ1, _, _, _, R8.out, HV.out, HG1.out, K8.out⟩⟩
                        case measure => simp only [intOf]; omega
      · as_aux_lemma =>
          cases z0 with
          | false =>
            go_wp2_with fail
            go_roundw
            case rel => exact ⟨k + 1, by omega, by go_num, hid ⟨V, τ1, _, _, _, R6.out, HV.out, HG1.out, K6.out⟩⟩
            case measure => simp only [intOf]; omega
          | true =>
            by_cases hsd : x.f.src.a = x.f.dst.a ∧ x.f.src.b = x.f.dst.b ∧ x.f.src.c = x.f.dst.c ∧ x.f.src.d = x.f.dst.d ∧ x.f.src.e = x.f.dst.e ∧ x.f.src.f = x.f.dst.f
            · have hE : ∀ W, (binOp .neq 31 (.agg #[.int .u8 x.f.src.a, .int .u8 x.f.src.b, .int .u8 x.f.src.c, .int .u8 x.f.src.d, .int .u8 x.f.src.e, .int .u8 x.f.src.f]) (.agg #[.int .u8 x.f.dst.a, .int .u8 x.f.dst.b, .int .u8 x.f.dst.c, .int .u8 x.f.dst.d, .int .u8 x.f.dst.e, .int .u8 x.f.dst.f])).run Try.prog W = .ok (.bool false) W := fun W => neq25 x.f.src.a x.f.src.b x.f.src.c x.f.src.d x.f.src.e x.f.src.f x.f.dst.a x.f.dst.b x.f.dst.c x.f.dst.d x.f.dst.e x.f.dst.f true (decide_eq_true hsd) W
              clear hsd
              go_wp2_with fail
              go_roundw
              case rel => exact ⟨k + 1, by omega, by go_num, hid ⟨V, τ1, _, _, _, R6.out, HV.out, HG1.out, K6.out⟩⟩
              case measure => simp only [intOf]; omega
            · have hE : ∀ W, (binOp .neq 31 (.agg #[.int .u8 x.f.src.a, .int .u8 x.f.src.b, .int .u8 x.f.src.c, .int .u8 x.f.src.d, .int .u8 x.f.src.e, .int .u8 x.f.src.f]) (.agg #[.int .u8 x.f.dst.a, .int .u8 x.f.dst.b, .int .u8 x.f.dst.c, .int .u8 x.f.dst.d, .int .u8 x.f.dst.e, .int .u8 x.f.dst.f])).run Try.prog W = .ok (.bool true) W := fun W => neq25 x.f.src.a x.f.src.b x.f.src.c x.f.src.d x.f.src.e x.f.src.f x.f.dst.a x.f.dst.b x.f.dst.c x.f.dst.d x.f.dst.e x.f.dst.f false (decide_eq_false hsd) W
              clear hsd
              cases hu : (bits BinOp.andNot .u8 O u0 != 0) with
              | false =>
                go_wp2_with fail
                go_roundw
                case rel => exact ⟨k + 1, by omega, by go_num, hid ⟨V, τ1, _, _, _, R6.out, HV.out, HG1.out, K6.out⟩⟩
                case measure => simp only [intOf]; omega
              | true =>
                have hn32 : m6 ≤ 32 := by have h1 := R6.out.2.2.1.2.1.1; have := HG1.out.L; omega
                have hd32 : decide ((m6 : Int) ≤ 32) = true := by simp; omega
                go_wp2_with (go_at_call 11; refine (base_any _ R6.out).mono ?_; rintro ee wq ⟨rfl, rfl⟩)
                refine (list_any _ _ _ _ _ _ _ _ R6.out.2.2.1 (by omega)).mono ?_
                rintro ee w7 ⟨⟨p7, c7, rfl, _⟩, k7⟩
                have R7 := hid (R6.out.keepN k7)
                have K7 := hid (K6.out.trans k7)
                have A7 := hid (k7.lies A6.out)
                have kk : Keeps Nil w7 w7 := Keeps.refl _ _
                have HA : Hid (∀ X, Keeps Nil w7 X → (fun X : World => (X.cell? ⟨bA, 0, Option.none⟩ = some (.int .u8 x.d) ∧ X.cell? ⟨bA, 1, Option.none⟩ = some (.int .u16 x.m.v) ∧ X.cell? ⟨bA, 2, Option.none⟩ = some (.int .u8 x.set) ∧ X.cell? ⟨bA, 3, Option.none⟩ = some (.int .u8 x.som) ∧ X.cell? ⟨bA, 4, Option.none⟩ = some (.int .u8 x.m.a) ∧ X.cell? ⟨bA, 5, Option.none⟩ = some (.int .u8 x.m.b) ∧ X.cell? ⟨bA, 6, Option.none⟩ = some (.int .u8 x.m.c) ∧ X.cell? ⟨bA, 7, Option.none⟩ = some (.int .u8 x.m.d) ∧ X.cell? ⟨bA, 8, Option.none⟩ = some (.int .u8 x.m.e) ∧ X.cell? ⟨bA, 9, Option.none⟩ = some (.int .u8 x.m.f) ∧ X.cell? ⟨bA, 10, Option.none⟩ = some (.int .i64 x.inn) ∧ X.cell? ⟨bA, 11, Option.none⟩ = some (.int .u8 x.f.dst.a) ∧ X.cell? ⟨bA, 12, Option.none⟩ = some (.int .u8 x.f.dst.b) ∧ X.cell? ⟨bA, 13, Option.none⟩ = some (.int .u8 x.f.dst.c) ∧ X.cell? ⟨bA, 14, Option.none⟩ = some (.int .u8 x.f.dst.d) ∧ X.cell? ⟨bA, 15, Option.none⟩ = some (.int .u8 x.f.dst.e) ∧ X.cell? ⟨bA, 16, Option.none⟩ = some (.int .u8 x.f.dst.f) ∧ X.cell? ⟨bA, 17, Option.none⟩ = some (.int .u8 x.f.src.a) ∧ X.cell? ⟨bA, 18, Option.none⟩ = some (.int .u8 x.f.src.b) ∧ X.cell? ⟨bA, 19, Option.none⟩ = some (.int .u8 x.f.src.c) ∧ X.cell? ⟨bA, 20, Option.none⟩ = some (.int .u8 x.f.src.d) ∧ X.cell? ⟨bA, 21, Option.none⟩ = some (.int .u8 x.f.src.e) ∧ X.cell? ⟨bA, 22, Option.none⟩ = some (.int .u8 x.f.src.f))) X) := hid (fun X kX => act_cells (kX.lies A7.out))
                clear k7 g0 g1 g2 g3 g4 g5 g6 g7 g8 g9 g10 g11 g12 g13 g14 g15 g16 g17 g18 g19 g20 g21 g22
                obtain ⟨g0, g1, g2, g3, g4, g5, g6, g7, g8, g9, g10, g11, g12, g13, g14, g15, g16, g17, g18, g19, g20, g21, g22⟩ := act_cells A7.out
                go_wp2_with fail
                have RD := hid (R7.out.keepN kk.drew)
                have C15 := hid (p_look RD.out.2.2.1 HG1.out x.f.dst HXO.out.2.2.2.2.2.1.1)
                rw [HDV.out, HLK1.out] at C15
                refine wp_region_held_drew (S := (fun X : World => (X.cell? ⟨bA, 0, Option.none⟩ = some (.int .u8 x.d) ∧ X.cell? ⟨bA, 1, Option.none⟩ = some (.int .u16 x.m.v) ∧ X.cell? ⟨bA, 2, Option.none⟩ = some (.int .u8 x.set) ∧ X.cell? ⟨bA, 3, Option.none⟩ = some (.int .u8 x.som) ∧ X.cell? ⟨bA, 4, Option.none⟩ = some (.int .u8 x.m.a) ∧ X.cell? ⟨bA, 5, Option.none⟩ = some (.int .u8 x.m.b) ∧ X.cell? ⟨bA, 6, Option.none⟩ = some (.int .u8 x.m.c) ∧ X.cell? ⟨bA, 7, Option.none⟩ = some (.int .u8 x.m.d) ∧ X.cell? ⟨bA, 8, Option.none⟩ = some (.int .u8 x.m.e) ∧ X.cell? ⟨bA, 9, Option.none⟩ = some (.int .u8 x.m.f) ∧ X.cell? ⟨bA, 10, Option.none⟩ = some (.int .i64 x.inn) ∧ X.cell? ⟨bA, 11, Option.none⟩ = some (.int .u8 x.f.dst.a) ∧ X.cell? ⟨bA, 12, Option.none⟩ = some (.int .u8 x.f.dst.b) ∧ X.cell? ⟨bA, 13, Option.none⟩ = some (.int .u8 x.f.dst.c) ∧ X.cell? ⟨bA, 14, Option.none⟩ = some (.int .u8 x.f.dst.d) ∧ X.cell? ⟨bA, 15, Option.none⟩ = some (.int .u8 x.f.dst.e) ∧ X.cell? ⟨bA, 16, Option.none⟩ = some (.int .u8 x.f.dst.f) ∧ X.cell? ⟨bA, 17, Option.none⟩ = some (.int .u8 x.f.src.a) ∧ X.cell? ⟨bA, 18, Option.none⟩ = some (.int .u8 x.f.src.b) ∧ X.cell? ⟨bA, 19, Option.none⟩ = some (.int .u8 x.f.src.c) ∧ X.cell? ⟨bA, 20, Option.none⟩ = some (.int .u8 x.f.src.d) ∧ X.cell? ⟨bA, 21, Option.none⟩ = some (.int .u8 x.f.src.e) ∧ X.cell? ⟨bA, 22, Option.none⟩ = some (.int .u8 x.f.src.f)))) (by kernel_rfl) ?_ (fun hHeld => ?_)
                · (try dsimp only); (first | exact HA.out _ kk | exact HA.out _ kk.drew | exact HS9)
                refine wpAnyH_take (i := 0) (v := ?_) rfl (by kernel_rfl) (by kernel_rfl) (by kernel_rfl) (fun _ _ _ h => h) (Or.inl ⟨by rfl, ?_⟩) (by assumption) ?_
                rotate_left
                · (intro W hSw; (try dsimp only at hSw); go_simp <;> with_reducible rfl)
                try simp only [Act.put, List.setIfInBounds_toArray, List.set_cons_zero, List.set_cons_succ, List.getElem_toArray, List.getElem_cons_zero, List.getElem_cons_succ]
                refine wpAnyH_take (i := 2) (v := ?_) rfl (by kernel_rfl) (by kernel_rfl) (by kernel_rfl) (fun _ _ _ h => h) (Or.inl ⟨by rfl, ?_⟩) (by assumption) ?_
                rotate_left
                · (intro W hSw; (try dsimp only at hSw); go_simp <;> with_reducible rfl)
                try simp only [Act.put, List.setIfInBounds_toArray, List.set_cons_zero, List.set_cons_succ, List.getElem_toArray, List.getElem_cons_zero, List.getElem_cons_succ]
                refine wpAnyH_take (i := 3) (v := ?_) rfl (by kernel_rfl) (by kernel_rfl) (by kernel_rfl) (fun _ _ _ h => h) (Or.inl ⟨by rfl, ?_⟩) (by assumption) ?_
                rotate_left
                · (intro W hSw; (try dsimp only at hSw); go_simp <;> with_reducible rfl)
                try simp only [Act.put, List.setIfInBounds_toArray, List.set_cons_zero, List.set_cons_succ, List.getElem_toArray, List.getElem_cons_zero, List.getElem_cons_succ]
                refine wpAnyH_take (i := 4) (v := ?_) rfl (by kernel_rfl) (by kernel_rfl) (by kernel_rfl) (fun _ _ _ h => h) (Or.inl ⟨by rfl, ?_⟩) (by assumption) ?_
                rotate_left
                · (intro W hSw; (try dsimp only at hSw); go_simp <;> with_reducible rfl)
                try simp only [Act.put, List.setIfInBounds_toArray, List.set_cons_zero, List.set_cons_succ, List.getElem_toArray, List.getElem_cons_zero, List.getElem_cons_succ]
                refine wpAnyH_take (i := 5) (v := ?_) rfl (by kernel_rfl) (by kernel_rfl) (by kernel_rfl) (fun _ _ _ h => h) (Or.inl ⟨by rfl, ?_⟩) (by assumption) ?_
                rotate_left
                · (intro W hSw; (try dsimp only at hSw); go_simp <;> with_reducible rfl)
                try simp only [Act.put, List.setIfInBounds_toArray, List.set_cons_zero, List.set_cons_succ, List.getElem_toArray, List.getElem_cons_zero, List.getElem_cons_succ]
                refine wpAnyH_take (i := 6) (v := ?_) rfl (by kernel_rfl) (by kernel_rfl) (by kernel_rfl) (fun _ _ _ h => h) (Or.inl ⟨by rfl, ?_⟩) (by assumption) ?_
                rotate_left
                · (intro W hSw; (try dsimp only at hSw); go_simp <;> with_reducible rfl)
                try simp only [Act.put, List.setIfInBounds_toArray, List.set_cons_zero, List.set_cons_succ, List.getElem_toArray, List.getElem_cons_zero, List.getElem_cons_succ]
                refine wpAnyH_ready (rs := [1]) (by kernel_rfl) (by simp) ?_
                refine AllReadyH.cons rfl (fun K hK => ?_) AllReadyH.nil
                try simp only [Act.put, List.setIfInBounds_toArray, List.set_cons_zero, List.set_cons_succ, List.getElem_toArray, List.getElem_cons_zero, List.getElem_cons_succ]
                go_simp
                (go_at_call 11; refine (base_any _ RD.out).mono ?_; rintro ee wq ⟨rfl, rfl⟩)
                (try go_wp2_with fail)
                refine hK.out _ _ ?_ (fun hHeld => ?_)
                · (try dsimp only); (first | exact HA.out _ kk | exact HA.out _ kk.drew | exact HS9)
                clear hK K
                try simp only [Act.put, List.setIfInBounds_toArray, List.set_cons_zero, List.set_cons_succ, List.getElem_toArray, List.getElem_cons_zero, List.getElem_cons_succ]
                refine wpAnyH_ready (rs := [7]) (by kernel_rfl) (by simp) ?_
                refine AllReadyH.cons rfl (fun K hK => ?_) AllReadyH.nil
                try simp only [Act.put, List.setIfInBounds_toArray, List.set_cons_zero, List.set_cons_succ, List.getElem_toArray, List.getElem_cons_zero, List.getElem_cons_succ]
                go_simp
                (go_at_call 15; refine C15.out.mono ?_; rintro ee wv ⟨rfl, kz⟩; have kk : Keeps Nil w7 wv := by first | exact kk.trans kz | exact kk.drew.trans kz | exact kk.drew.drew.trans kz)
                (try go_wp2_with fail)
                refine hK.out _ _ ?_ (fun hHeld => ?_)
                · (try dsimp only); (first | exact HA.out _ kk | exact HA.out _ kk.drew | exact HS9)
                clear hK K
                try simp only [Act.put, List.setIfInBounds_toArray, List.set_cons_zero, List.set_cons_succ, List.getElem_toArray, List.getElem_cons_zero, List.getElem_cons_succ]
                refine wpAnyH_take (i := 8) (v := ?_) rfl (by kernel_rfl) (by kernel_rfl) (by kernel_rfl) (fun _ _ _ h => h) (Or.inl ⟨by rfl, ?_⟩) (by assumption) ?_
                rotate_left
                · (intro W hSw; (try dsimp only at hSw); go_simp <;> with_reducible rfl)
                try simp only [Act.put, List.setIfInBounds_toArray, List.set_cons_zero, List.set_cons_succ, List.getElem_toArray, List.getElem_cons_zero, List.getElem_cons_succ]
                refine wpAnyH_take (i := 9) (v := ?_) rfl (by kernel_rfl) (by kernel_rfl) (by kernel_rfl) (fun _ _ _ h => h) (Or.inl ⟨by rfl, ?_⟩) (by assumption) ?_
                rotate_left
                · (intro W hSw; (try dsimp only at hSw); go_simp <;> with_reducible rfl)
                try simp only [Act.put, List.setIfInBounds_toArray, List.set_cons_zero, List.set_cons_succ, List.getElem_toArray, List.getElem_cons_zero, List.getElem_cons_succ]
                refine wpAnyH_take (i := 10) (v := ?_) rfl (by kernel_rfl) (by kernel_rfl) (by kernel_rfl) (fun _ _ _ h => h) (Or.inl ⟨by rfl, ?_⟩) (by assumption) ?_
                rotate_left
                · (intro W hSw; (try dsimp only at hSw); go_simp <;> with_reducible rfl)
                try simp only [Act.put, List.setIfInBounds_toArray, List.set_cons_zero, List.set_cons_succ, List.getElem_toArray, List.getElem_cons_zero, List.getElem_cons_succ]
                refine wpAnyH_take (i := 11) (v := ?_) rfl (by kernel_rfl) (by kernel_rfl) (by kernel_rfl) (fun _ _ _ h => h) (Or.inl ⟨by rfl, ?_⟩) (by assumption) ?_
                rotate_left
                · (intro W hSw; (try dsimp only at hSw); go_simp <;> with_reducible rfl)
                try simp only [Act.put, List.setIfInBounds_toArray, List.set_cons_zero, List.set_cons_succ, List.getElem_toArray, List.getElem_cons_zero, List.getElem_cons_succ]
                refine wpAnyH_take (i := 12) (v := ?_) rfl (by kernel_rfl) (by kernel_rfl) (by kernel_rfl) (fun _ _ _ h => h) (Or.inl ⟨by rfl, ?_⟩) (by assumption) ?_
                rotate_left
                · (intro W hSw; (try dsimp only at hSw); go_simp <;> with_reducible rfl)
                try simp only [Act.put, List.setIfInBounds_toArray, List.set_cons_zero, List.set_cons_succ, List.getElem_toArray, List.getElem_cons_zero, List.getElem_cons_succ]
                refine wpAnyH_done (by kernel_rfl) ?_ _
                have R8 := hid (R7.out.keepN kk)
                have K8 := hid (K7.out.trans kk)
                clear kk
                cases z1 with
                | false =>
                  go_wp2_with fail
                  go_roundw
                  case rel => exact ⟨k + 1, by omega, by go_num, hid ⟨V, τ1, _, _, _, R8.out, HV.out, HG1.out, K8.out⟩⟩
                  case measure => simp only [intOf]; omega
                | true =>
                  cases hq : (u1 == u0) with
                  | true =>
                    exfalso
                    have e : u1 = u0 := by simpa using hq
                    have h1 := HBAR.out.one rfl
                    rw [e] at h1
                    rw [h1] at hu
                    cases hu
                  | false =>
                    go_wp2_with fail
                    go_roundw
                    case rel => exact ⟨k + 1, by omega, by go_num, hid ⟨V, τ1, _, _, _, R8.out, HV.out, HG1.out, K8.out⟩⟩
                    case measure => simp only [intOf]; omega
    · obtain rfl : k = n := by omega
      obtain ⟨V, τ, p, m, c, hR, hV, hG, hK⟩ := hh.out
      have K2 := hid hK
      clear hh hR hV hG hK
      go_wp2_with (go_at_call 7; refine (HW _).out.mono ?_; rintro ee w4 ⟨rfl, k4⟩)
      go_ret
      exact ⟨rfl, (K0.out.trans K2.out).trans k4⟩
end Go.Proofs.Ytcplmdgnldmhbaa
