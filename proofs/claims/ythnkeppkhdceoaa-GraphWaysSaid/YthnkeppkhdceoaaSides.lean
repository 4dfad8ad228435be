/-
  Graphs: the links of a graph from both ends (graph.sides: its iterator). Conditions: the links lie so.
-/
import Derived.Test.YthnkeppkhdceoaaGr
import Derived.Test.YthnkeppkhdceoaaChecked
import Derived.Test.YthnkeppkhdceoaaKit
import Derived.RangeFuncNested
import Derived.RangeFuncBound
import Derived.RangeFuncCalls
import Derived.RangeFuncLeaves
import Derived.RangeFuncBox
import Derived.Shelf.Abstract
import Derived.Shelf.RegionOpen
import Derived.WalkKit
import Derived.OwnWalkIn
import Derived.TacticsInMore
import Derived.LoopNIn
import Derived.LoopIn
import Derived.Maps.AppendAt
namespace Go.Proofs.Ythnkeppkhdceoaa
set_option linter.unusedSimpArgs false
open Go.RowKit Go.Shelf
set_option linter.unusedVariables false
attribute [local go_sem] Oper.semAt_some

/-- A link from one end, with its number. -/
structure Sd where
  k : Int
  n : En
  f : En
abbrev sdv (s : Sd) : Value := .agg #[.int .i64 s.k, .int .i64 s.n.b, .int .u8 s.n.p, .int .u32 s.n.c, .int .i64 s.f.b, .int .u8 s.f.p, .int .u32 s.f.c]
abbrev lcells (l : Lk) : List Value := [.int .i64 l.a.b, .int .u8 l.a.p, .int .u32 l.a.c, .int .i64 l.z.b, .int .u8 l.z.p, .int .u32 l.z.c, .bool l.up]
def flatL (L : List Lk) : List Value := L.flatMap lcells
def sdk (k : Nat) (l : Lk) : List Sd := if l.up = true ∧ l.a.b ≠ l.z.b then [⟨k, l.a, l.z⟩, ⟨k, l.z, l.a⟩] else []
def sidesFrom (k : Nat) : List Lk → List Sd
  | [] => []
  | l :: L => sdk k l ++ sidesFrom (k + 1) L
def sidesOf (L : List Lk) : List Sd := sidesFrom 0 L
theorem sidesFrom_append (A B : List Lk) : ∀ k, sidesFrom k (A ++ B) = sidesFrom k A ++ sidesFrom (k + A.length) B := by
  induction A with
  | nil => intro k; simp [sidesFrom]
  | cons a A ih => intro k; simp only [List.cons_append, sidesFrom, ih, List.append_assoc, List.length_cons]; rw [show k + 1 + A.length = k + (A.length + 1) by omega]
/-- So many sides have the first i links. -/
def upto (L : List Lk) (i : Nat) : Nat := (sidesFrom 0 (L.take i)).length
theorem upto_zero (L : List Lk) : upto L 0 = 0 := by simp [upto, sidesFrom]
theorem sides_at {L : List Lk} {i : Nat} {l : Lk} (h : L[i]? = some l) : sidesOf L = sidesFrom 0 (L.take i) ++ (sdk i l ++ sidesFrom (i + 1) (L.drop (i + 1))) := by
  have hlt : i < L.length := (List.getElem?_eq_some_iff.1 h).1
  have hl : L[i] = l := (List.getElem?_eq_some_iff.1 h).2
  have e : L = L.take i ++ (l :: L.drop (i + 1)) := by rw [← hl, List.getElem_cons_drop, List.take_append_drop]
  have := sidesFrom_append (L.take i) (l :: L.drop (i + 1)) 0
  rw [← e] at this
  rw [sidesOf, this, List.length_take, Nat.min_eq_left (Nat.le_of_lt hlt), Nat.zero_add]
  rfl
theorem upto_succ {L : List Lk} {i : Nat} {l : Lk} (h : L[i]? = some l) : upto L (i + 1) = upto L i + (sdk i l).length := by
  have hlt : i < L.length := (List.getElem?_eq_some_iff.1 h).1
  have hl : L[i] = l := (List.getElem?_eq_some_iff.1 h).2
  unfold upto
  rw [List.take_succ_eq_append_getElem hlt, sidesFrom_append, List.length_append, List.length_take, Nat.min_eq_left (Nat.le_of_lt hlt), hl, Nat.zero_add]
  simp [sidesFrom]
theorem upto_all (L : List Lk) : upto L L.length = (sidesOf L).length := by simp [upto, sidesOf]
theorem upto_le {L : List Lk} {i : Nat} {l : Lk} (h : L[i]? = some l) : upto L i + (sdk i l).length ≤ (sidesOf L).length := by
  rw [sides_at h]; simp [upto]
theorem side_first {L : List Lk} {i : Nat} {l : Lk} (h : L[i]? = some l) (hon : l.up = true ∧ l.a.b ≠ l.z.b) : (sidesOf L)[upto L i]? = some ⟨i, l.a, l.z⟩ := by
  rw [sides_at h, List.getElem?_append_right (by simp [upto])]
  simp [upto, sdk, hon]
theorem side_second {L : List Lk} {i : Nat} {l : Lk} (h : L[i]? = some l) (hon : l.up = true ∧ l.a.b ≠ l.z.b) : (sidesOf L)[upto L i + 1]? = some ⟨i, l.z, l.a⟩ := by
  rw [sides_at h, List.getElem?_append_right (by simp [upto])]
  simp [upto, sdk, hon]
/-- A side of these links. -/
abbrev Sx (L : List Lk) : Type := { s : Sd // s ∈ sidesOf L }
def sidesT (L : List Lk) : List (Sx L) := (sidesOf L).attach
theorem sidesT_len (L : List Lk) : (sidesT L).length = (sidesOf L).length := by simp [sidesT]
theorem sidesT_take {L : List Lk} {m : Nat} {s : Sd} (h : (sidesOf L)[m]? = some s) : ∃ x : Sx L, x.1 = s ∧ (sidesT L).take m ++ [x] = (sidesT L).take (m + 1) := by
  have hlt : m < (sidesOf L).length := (List.getElem?_eq_some_iff.1 h).1
  have hlt' : m < (sidesT L).length := by rw [sidesT_len]; exact hlt
  refine ⟨(sidesT L)[m], ?_, (List.take_succ_eq_append_getElem hlt').symm⟩
  have : (sidesT L)[m].1 = (sidesOf L)[m] := by simp [sidesT]
  rw [this]
  exact (List.getElem?_eq_some_iff.1 h).2
/-- Links in a row of cells. -/
def RowL (w : World) (b off : Nat) (L : List Lk) : Prop := ∀ j x, L[j]? = some x →
  w.cell? ⟨b, off + j * 7, Option.none⟩ = some (.int .i64 x.a.b) ∧ w.cell? ⟨b, off + j * 7 + 1, Option.none⟩ = some (.int .u8 x.a.p) ∧ w.cell? ⟨b, off + j * 7 + 2, Option.none⟩ = some (.int .u32 x.a.c) ∧
  w.cell? ⟨b, off + j * 7 + 3, Option.none⟩ = some (.int .i64 x.z.b) ∧ w.cell? ⟨b, off + j * 7 + 4, Option.none⟩ = some (.int .u8 x.z.p) ∧ w.cell? ⟨b, off + j * 7 + 5, Option.none⟩ = some (.int .u32 x.z.c) ∧
  w.cell? ⟨b, off + j * 7 + 6, Option.none⟩ = some (.bool x.up)
theorem RowL.below {n₀ b off : Nat} {L : List Lk} {A B : World} (h : RowL A b off L) (k : Below n₀ A B) (hb : b < n₀) : RowL B b off L := fun j x hx => by
  obtain ⟨h0, h1, h2, h3, h4, h5, h6⟩ := h j x hx
  have c : ∀ q, B.cell? ⟨b, q, Option.none⟩ = A.cell? ⟨b, q, Option.none⟩ := fun q => k.cell (p := ⟨b, q, Option.none⟩) hb
  exact ⟨(c _).trans h0, (c _).trans h1, (c _).trans h2, (c _).trans h3, (c _).trans h4, (c _).trans h5, (c _).trans h6⟩
/-- What lay below n₀ lies as it lay, and so does each link in a box. -/
structure K61 (n₀ : Nat) (W W' : World) : Prop where
  below : Below n₀ W W'
  box : ∀ (k : Nat) (cs : Array Value) (fz : Nat × Nat), W.heap[k]? = some (Obj.cells cs 61 fz) → W'.heap[k]? = some (Obj.cells cs 61 fz)
theorem K61.refl (n₀ : Nat) (W : World) : K61 n₀ W W := ⟨Below.refl _ _, fun _ _ _ h => h⟩
theorem K61.trans {n₀ : Nat} {A B C : World} (h : K61 n₀ A B) (k : K61 n₀ B C) : K61 n₀ A C := ⟨h.below.trans k.below, fun i cs fz hi => k.box i cs fz (h.box i cs fz hi)⟩
theorem K61.keeps {n₀ : Nat} {S : Nat → Prop} {A B : World} (k : Keeps S A B) (hn : n₀ ≤ A.heap.size) (hS : ∀ g, g < n₀ → ¬ S g) (h61 : ∀ g cs fz, S g → A.heap[g]? ≠ some (.cells cs 61 fz)) : K61 n₀ A B :=
  ⟨k.belowN hn hS, fun i cs fz hi => by
    by_cases hs : S i
    · exact absurd hi (h61 i cs fz hs)
    · exact (k.block i (lt_of_block hi) hs).trans hi⟩
theorem K61.nil {n₀ : Nat} {A B : World} (k : Keeps Nil A B) (hn : n₀ ≤ A.heap.size) : K61 n₀ A B := .keeps k hn (fun _ _ e => e) (fun _ _ _ e => e.elim)
theorem K61.alloc {n₀ : Nat} {A B : World} (h : K61 n₀ A B) (hn : n₀ ≤ B.heap.size) (o : Obj) : K61 n₀ A (B.alloc o) := h.trans (.nil ((Keeps.refl Nil B).alloc o) hn)
theorem K61.set {n₀ : Nat} {A B : World} (h : K61 n₀ A B) {b : Nat} (i : Nat) (u : Value) {cs : Array Value} {T : TypeId} {fz : Nat × Nat} (hb : B.heap[b]? = some (.cells cs T fz)) (hT : T ≠ 61) (hn : n₀ ≤ b) : K61 n₀ A (B.setCell ⟨b, i, Option.none⟩ u) :=
  h.trans (.keeps (S := At b) ((Keeps.refl (At b) B).set b i (at_self b) u) (Nat.le_trans hn (Nat.le_of_lt (lt_of_block hb))) (fun g hg e => by have : g = b := e; omega) (fun g cs' fz' e h' => by
    have : g = b := e
    subst this
    rw [hb] at h'
    injection h' with h'; injection h' with _ h' _
    exact hT h'))
theorem K61.put {n₀ : Nat} {w : World} (hn : n₀ ≤ w.heap.size) : ∀ (W : World) (l : Nat) (o o' : Obj), w.heap.size ≤ l → W.heap[l]? = some o → o.isCells = false → o.isWalk = false → K61 n₀ W (W.putObj l o') := fun W l o o' hl ho hc hw =>
  ⟨belowK_b hn W l o o' hl ho hc hw, fun k cs fz hk => by
    by_cases e : k = l
    · subst e; rw [ho] at hk; cases hk; cases hc
    · exact (World.putObj_heap_other e).trans hk⟩
@[go_sem] theorem index59_0 (x0 x1 x2 x3 x4 x5 : Value) (W : World) : (Instr.index 59 (.agg #[x0, x1, x2, x3, x4, x5]) (.int .i64 0)).run Try.prog W = .ok (.agg #[x0, x1, x2]) W := by
  simp [go_sem, Instr.index]
@[go_sem] theorem index59_1 (x0 x1 x2 x3 x4 x5 : Value) (W : World) : (Instr.index 59 (.agg #[x0, x1, x2, x3, x4, x5]) (.int .i64 1)).run Try.prog W = .ok (.agg #[x3, x4, x5]) W := by
  simp [go_sem, Instr.index]
set_option maxRecDepth 100000 in
set_option maxHeartbeats 8000000 in
theorem sides1_in (F : Fence) (n : Nat) (h30 : F.fn 30) (hro : F.round = Option.none) (hn : 1 ≤ n) (l Bg n₀ b off cap : Nat) (L : List Lk) (hreach : L.length ≤ 1000) (hb : b < n₀) (hcap : L.length ≤ cap) (J Jx : List (Sx L) → World → Prop)
    (W : World) (hn₀ : n₀ ≤ W.heap.size) (hJ : AbidesFrom W.heap.size J)
    (hY : ∀ pre x W, J pre W → pre.length < (sidesOf L).length → YieldAt F (n - 1) Try.prog l #[sdv x.1] W fun e W' =>
      (e = .returned (.bool true) ∧ J (pre ++ [x]) W' ∧ K61 n₀ W W') ∨ (e = .returned (.bool false) ∧ Jx (pre ++ [x]) W'))
    (hBg : W.cell? ⟨Bg, 1, Option.none⟩ = some (.slice (some ⟨b, off, Option.none⟩) L.length cap)) (hc : RowL W b off L) (h0 : J [] W) :
    CallsIn F n Try.prog 30 #[.func (.yield l) #[] #[], .pointer (some ⟨Bg, 0, Option.none⟩)] W fun e W' => (∃ v, e = .returned v) ∧
      ((∃ ys, ys = sidesT L ∧ J ys W') ∨ (∃ pre, Jx pre W')) := by
  refine callsIn_of_wp Try.func30 rfl h30 ?_ hro
  simp only [Try.ntmps30, List.size_toArray, List.length_cons, List.length_nil, Nat.reduceAdd, Nat.reduceSub, Array.replicate_succ, Array.replicate_zero, List.push_toArray, List.append_toArray, List.nil_append, List.cons_append]
  gi_wp2
  gi_loopw [11] (fun i wr => ∃ k : Nat, k ≤ L.length ∧ i = .int .i64 k ∧ J ((sidesT L).take (upto L k)) wr ∧ Below n₀ W wr)
    (fun i _ => L.length - (intOf i).toNat)
  case atStart => exact ⟨0, Nat.zero_le _, rfl, by rw [upto_zero]; exact h0, Below.refl _ _⟩
  case round =>
    obtain ⟨k, hk, rfl, hJs, hnx⟩ := hrel
    by_cases hlt : k < L.length
    · obtain ⟨x, hx⟩ : ∃ x, L[k]? = some x := ⟨_, List.getElem?_eq_getElem hlt⟩
      have hbl : b < wr.heap.size := Nat.lt_of_lt_of_le hb (Nat.le_trans hn₀ hnx.size)
      obtain ⟨c0, c1, c2, c3, c4, c5, c6⟩ := (hc.below hnx hb) k x hx
      have hJ2 : J ((sidesT L).take (upto L k)) (wr.alloc (.cells #[.int .i64 x.a.b, .int .u8 x.a.p, .int .u32 x.a.c, .int .i64 x.z.b, .int .u8 x.z.p, .int .u32 x.z.c, .bool x.up] 61 (0, 0))) := hJ _ wr _ Option.none hJs (World.grownBy_alloc wr _ Option.none) (fun r e => by cases e)
      have hk2 : Below n₀ W (wr.alloc (.cells #[.int .i64 x.a.b, .int .u8 x.a.p, .int .u32 x.a.c, .int .i64 x.z.b, .int .u8 x.z.p, .int .u32 x.z.c, .bool x.up] 61 (0, 0))) := hnx.alloc (Nat.le_trans hn₀ hnx.size) _
      have HX := hid hx
      have HSZ := hid hnx.size
      have HJ2 := hid hJ2
      have HK2 := hid hk2
      clear hJ2 hk2 hnx hJs hx
      gi_wp2
      obtain ⟨W2, hW2⟩ : ∃ W2, wr.alloc (.cells #[.int .i64 x.a.b, .int .u8 x.a.p, .int .u32 x.a.c, .int .i64 x.z.b, .int .u8 x.z.p, .int .u32 x.z.c, .bool x.up] 61 (0, 0)) = W2 := ⟨_, rfl⟩
      have hbox : W2.heap[wr.heap.size]? = some (.cells #[.int .i64 x.a.b, .int .u8 x.a.p, .int .u32 x.a.c, .int .i64 x.z.b, .int .u8 x.z.p, .int .u32 x.z.c, .bool x.up] 61 (0, 0)) := by rw [← hW2]; exact alloc_block _ _
      have hn2 : n₀ ≤ wr.heap.size := Nat.le_trans hn₀ HSZ.out
      have hs2 : wr.heap.size + 1 = W2.heap.size := by rw [← hW2]; simp
      rw [hW2] at HJ2 HK2 ⊢
      generalize wr.heap.size = B4 at *
      clear hW2 c0 c1 c2 c3 c4 c5 c6
      gi_loopw [18] (fun j wq => ∃ q : Nat, q ≤ 2 ∧ j = .int .i64 q ∧ J ((sidesT L).take (upto L k + (if q = 0 then 0 else if q = 1 then (sdk k x).length / 2 else (sdk k x).length))) wq ∧ Below n₀ W wq ∧ wq.heap[B4]? = some (.cells #[.int .i64 x.a.b, .int .u8 x.a.p, .int .u32 x.a.c, .int .i64 x.z.b, .int .u8 x.z.p, .int .u32 x.z.c, .bool x.up] 61 (0, 0)))
        (fun j _ => 2 - (intOf j).toNat)
      case atStart => exact ⟨0, by omega, rfl, HJ2.out, HK2.out, hbox⟩
      case round =>
        obtain ⟨q, hq, rfl, hJq, hnq, hbq⟩ := hrel
        have hB4 : B4 + 1 ≤ wr.heap.size := by have := lt_of_block hbq; omega
        have hB4l : B4 < wr.heap.size := hB4
        obtain rfl | rfl | rfl : q = 0 ∨ q = 1 ∨ q = 2 := by omega
        · -- round 0
          have hcl : ∀ (X : World), Below (B4 + 1) wr X → X.cell? ⟨B4, 0, Option.none⟩ = some (.int .i64 x.a.b) ∧ X.cell? ⟨B4, 1, Option.none⟩ = some (.int .u8 x.a.p) ∧ X.cell? ⟨B4, 2, Option.none⟩ = some (.int .u32 x.a.c) ∧ X.cell? ⟨B4, 3, Option.none⟩ = some (.int .i64 x.z.b) ∧ X.cell? ⟨B4, 4, Option.none⟩ = some (.int .u8 x.z.p) ∧ X.cell? ⟨B4, 5, Option.none⟩ = some (.int .u32 x.z.c) ∧ X.cell? ⟨B4, 6, Option.none⟩ = some (.bool x.up) := fun X kX => by
            have := (kX.block B4 (Nat.lt_succ_self _)).trans hbq
            simp [World.cell?, this]
          obtain ⟨d0, d1, d2, d3, d4, d5, d6⟩ := hcl wr (Below.refl _ _)
          have hk3 : Below (B4 + 1) wr ((wr.alloc (.cells #[.int .i64 x.a.b, .int .u8 x.a.p, .int .u32 x.a.c] 58 (0, 0))).alloc (.cells #[.int .i64 x.z.b, .int .u8 x.z.p, .int .u32 x.z.c] 58 (0, 0))) := ((Below.refl (B4 + 1) wr).alloc hB4 _).alloc (by simp; omega) _
          have hJ3 := hJ _ _ _ Option.none (hJ _ _ (wr.alloc (.cells #[.int .i64 x.a.b, .int .u8 x.a.p, .int .u32 x.a.c] 58 (0, 0))) Option.none hJq (World.grownBy_alloc wr _ Option.none) (fun r e => by cases e)) (World.grownBy_alloc _ (.cells #[.int .i64 x.z.b, .int .u8 x.z.p, .int .u32 x.z.c] 58 (0, 0)) Option.none) (fun r e => by cases e)
          by_cases hon : x.up = true ∧ x.a.b ≠ x.z.b
          · have hl2 : (sdk k x).length = 2 := by simp [sdk, hon]
            obtain ⟨s, hs, hts⟩ := sidesT_take (side_first HX.out hon)
            have hle := upto_le HX.out
            obtain ⟨fn, tmps, assign, body, hy, hR⟩ := hY _ s _ hJ3 (by rw [List.length_take, sidesT_len]; simp [hl2] at hle ⊢; omega)
            rw [hs] at hy
            have HTS := hid hts
            have HNQ := hid hnq
            have HK3 := hid hk3
            have HBQ := hid hbq
            obtain ⟨hu, hne⟩ := hon
            have hne' : x.z.b ≠ x.a.b := fun e => hne e.symm
            have HNE := hid (show x.up = true ∧ x.a.b ≠ x.z.b from ⟨hu, hne⟩)
            rw [hu] at d6
            clear hu
            simp only [hl2] at hy hR
            clear hts hnq hk3 hbq hJ3 hJq hs hle
            gi_wp2
            refine hR.mono ?_
            rintro e W5 (⟨rfl, hJ5, hk5⟩ | ⟨rfl, hJx5⟩)
            · gi_wp2
              go_roundw
              case rel => exact ⟨0+1, by omega, by simp, by simp only [hl2]; change J ((sidesT L).take (upto L k) ++ [s]) W5 at hJ5; rw [HTS.out] at hJ5; exact hJ5, HNQ.out.trans ((HK3.out.mono (by omega)).trans hk5.below), hk5.box _ _ _ ((HK3.out.block B4 (by omega)).trans HBQ.out)⟩
              case measure => simp [intOf]
            · gi_wp2
              refine bodyPost_ret (results_none rfl _ _ _) rfl ?_
              exact ⟨⟨_, rfl⟩, .inr ⟨_, hJx5⟩⟩
          · have hl0 : (sdk k x).length = 0 := by simp [sdk, hon]
            have HNQ := hid hnq
            have HK3 := hid hk3
            have HBQ := hid hbq
            have HJ3 := hid hJ3
            have hud : x.up = false ∨ x.up = true ∧ x.a.b = x.z.b := by
              cases hu : x.up with
              | false => exact .inl rfl
              | true => exact .inr ⟨rfl, Classical.byContradiction fun e => hon ⟨hu, e⟩⟩
            clear hnq hk3 hbq hJ3 hJq hon
            rcases hud with hu | ⟨hu, heq⟩
            · rw [hu] at d6
              clear hu
              gi_wp2
              refine ⟨fun _ h => (by cases h), ?_⟩
              gi_wp2
              go_roundw
              case rel => exact ⟨0+1, by omega, by simp, by have := HJ3.out; simp only [hl0] at this ⊢; simpa using this, HNQ.out.trans (HK3.out.mono (by omega)), (HK3.out.block B4 (by omega)).trans HBQ.out⟩
              case measure => simp [intOf]
            · rw [hu] at d6
              clear hu
              have hE1 : (x.a.b != x.z.b) = false := by simp [heq]
              have hE2 : (x.z.b != x.a.b) = false := by simp [heq]
              clear heq
              gi_wp2
              refine ⟨fun _ h => (by cases h), ?_⟩
              gi_wp2
              go_roundw
              case rel => exact ⟨0+1, by omega, by simp, by have := HJ3.out; simp only [hl0] at this ⊢; simpa using this, HNQ.out.trans (HK3.out.mono (by omega)), (HK3.out.block B4 (by omega)).trans HBQ.out⟩
              case measure => simp [intOf]
        · -- round 1
          have hcl : ∀ (X : World), Below (B4 + 1) wr X → X.cell? ⟨B4, 0, Option.none⟩ = some (.int .i64 x.a.b) ∧ X.cell? ⟨B4, 1, Option.none⟩ = some (.int .u8 x.a.p) ∧ X.cell? ⟨B4, 2, Option.none⟩ = some (.int .u32 x.a.c) ∧ X.cell? ⟨B4, 3, Option.none⟩ = some (.int .i64 x.z.b) ∧ X.cell? ⟨B4, 4, Option.none⟩ = some (.int .u8 x.z.p) ∧ X.cell? ⟨B4, 5, Option.none⟩ = some (.int .u32 x.z.c) ∧ X.cell? ⟨B4, 6, Option.none⟩ = some (.bool x.up) := fun X kX => by
            have := (kX.block B4 (Nat.lt_succ_self _)).trans hbq
            simp [World.cell?, this]
          obtain ⟨d0, d1, d2, d3, d4, d5, d6⟩ := hcl wr (Below.refl _ _)
          have hk3 : Below (B4 + 1) wr ((wr.alloc (.cells #[.int .i64 x.z.b, .int .u8 x.z.p, .int .u32 x.z.c] 58 (0, 0))).alloc (.cells #[.int .i64 x.a.b, .int .u8 x.a.p, .int .u32 x.a.c] 58 (0, 0))) := ((Below.refl (B4 + 1) wr).alloc hB4 _).alloc (by simp; omega) _
          have hJ3 := hJ _ _ _ Option.none (hJ _ _ (wr.alloc (.cells #[.int .i64 x.z.b, .int .u8 x.z.p, .int .u32 x.z.c] 58 (0, 0))) Option.none hJq (World.grownBy_alloc wr _ Option.none) (fun r e => by cases e)) (World.grownBy_alloc _ (.cells #[.int .i64 x.a.b, .int .u8 x.a.p, .int .u32 x.a.c] 58 (0, 0)) Option.none) (fun r e => by cases e)
          by_cases hon : x.up = true ∧ x.a.b ≠ x.z.b
          · have hl2 : (sdk k x).length = 2 := by simp [sdk, hon]
            obtain ⟨s, hs, hts⟩ := sidesT_take (side_second HX.out hon)
            have hle := upto_le HX.out
            obtain ⟨fn, tmps, assign, body, hy, hR⟩ := hY _ s _ hJ3 (by rw [List.length_take, sidesT_len]; simp [hl2] at hle ⊢; omega)
            rw [hs] at hy
            have HTS := hid hts
            have HNQ := hid hnq
            have HK3 := hid hk3
            have HBQ := hid hbq
            obtain ⟨hu, hne⟩ := hon
            have hne' : x.z.b ≠ x.a.b := fun e => hne e.symm
            have HNE := hid (show x.up = true ∧ x.a.b ≠ x.z.b from ⟨hu, hne⟩)
            rw [hu] at d6
            clear hu
            simp only [hl2] at hy hR
            clear hts hnq hk3 hbq hJ3 hJq hs hle
            gi_wp2
            refine hR.mono ?_
            rintro e W5 (⟨rfl, hJ5, hk5⟩ | ⟨rfl, hJx5⟩)
            · gi_wp2
              go_roundw
              case rel => exact ⟨1+1, by omega, by simp, by simp only [hl2]; change J ((sidesT L).take (upto L k + 1) ++ [s]) W5 at hJ5; rw [HTS.out] at hJ5; exact hJ5, HNQ.out.trans ((HK3.out.mono (by omega)).trans hk5.below), hk5.box _ _ _ ((HK3.out.block B4 (by omega)).trans HBQ.out)⟩
              case measure => simp [intOf]
            · gi_wp2
              refine bodyPost_ret (results_none rfl _ _ _) rfl ?_
              exact ⟨⟨_, rfl⟩, .inr ⟨_, hJx5⟩⟩
          · have hl0 : (sdk k x).length = 0 := by simp [sdk, hon]
            have HNQ := hid hnq
            have HK3 := hid hk3
            have HBQ := hid hbq
            have HJ3 := hid hJ3
            have hud : x.up = false ∨ x.up = true ∧ x.a.b = x.z.b := by
              cases hu : x.up with
              | false => exact .inl rfl
              | true => exact .inr ⟨rfl, Classical.byContradiction fun e => hon ⟨hu, e⟩⟩
            clear hnq hk3 hbq hJ3 hJq hon
            rcases hud with hu | ⟨hu, heq⟩
            · rw [hu] at d6
              clear hu
              gi_wp2
              refine ⟨fun _ h => (by cases h), ?_⟩
              gi_wp2
              go_roundw
              case rel => exact ⟨1+1, by omega, by simp, by have := HJ3.out; simp only [hl0] at this ⊢; simpa using this, HNQ.out.trans (HK3.out.mono (by omega)), (HK3.out.block B4 (by omega)).trans HBQ.out⟩
              case measure => simp [intOf]
            · rw [hu] at d6
              clear hu
              have hE1 : (x.a.b != x.z.b) = false := by simp [heq]
              have hE2 : (x.z.b != x.a.b) = false := by simp [heq]
              clear heq
              gi_wp2
              refine ⟨fun _ h => (by cases h), ?_⟩
              gi_wp2
              go_roundw
              case rel => exact ⟨1+1, by omega, by simp, by have := HJ3.out; simp only [hl0] at this ⊢; simpa using this, HNQ.out.trans (HK3.out.mono (by omega)), (HK3.out.block B4 (by omega)).trans HBQ.out⟩
              case measure => simp [intOf]
        · -- both are over
          have HJQ := hid hJq
          have HNQ := hid hnq
          clear hJq hnq
          gi_wp2
          go_roundw
          case rel => exact ⟨k + 1, by omega, by simp, by rw [upto_succ HX.out]; have := HJQ.out; simpa using this, HNQ.out⟩
          case measure => simp [intOf]; omega
    · obtain rfl : k = L.length := by omega
      gi_wp2
      go_end0
      exact ⟨⟨_, rfl⟩, .inl ⟨_, by rw [upto_all, ← sidesT_len, List.take_length], hJs⟩⟩

set_option maxRecDepth 100000 in
set_option maxHeartbeats 1000000 in
theorem sides1_nil_in (F : Fence) (n : Nat) (h30 : F.fn 30) (hro : F.round = Option.none) (l Bg cap : Nat) (p : Option Addr) (J : List (Sx []) → World → Prop) (W : World) (hBg : W.cell? ⟨Bg, 1, Option.none⟩ = some (.slice p 0 cap)) (h0 : J [] W) :
    CallsIn F n Try.prog 30 #[.func (.yield l) #[] #[], .pointer (some ⟨Bg, 0, Option.none⟩)] W fun e W' => (∃ v, e = .returned v) ∧ J [] W' := by
  refine callsIn_of_wp Try.func30 rfl h30 ?_ hro
  simp only [Try.ntmps30, List.size_toArray, List.length_cons, List.length_nil, Nat.reduceAdd, Nat.reduceSub, Array.replicate_succ, Array.replicate_zero, List.push_toArray, List.append_toArray, List.nil_append, List.cons_append]
  gi_wp2
  gi_loopw [11] (fun i wr => i = .int .i64 0 ∧ J [] wr) (fun _ _ => 0)
  case atStart => exact ⟨rfl, h0⟩
  case round =>
    obtain ⟨rfl, hJs⟩ := hrel
    gi_wp2
    go_end0
    exact ⟨⟨_, rfl⟩, hJs⟩
set_option maxHeartbeats 1000000 in
theorem sides_in (F : Fence) (n : Nat) (h25 : F.fn 25) (hro : F.round = Option.none) (i l : Value) (w : World) :
    CallsIn F n Try.prog 25 #[.agg #[i, l]] w fun e w' => e = .returned (.func (.func 30) #[] #[.pointer (some ⟨w.heap.size, 0, Option.none⟩)]) ∧ w' = w.alloc (.cells #[i, l] 51) := by
  refine callsIn_of_wp Try.func25 rfl h25 ?_ hro
  simp only [Try.ntmps25, List.size_toArray, List.length_cons, List.length_nil, Nat.reduceAdd, Nat.reduceSub, Array.replicate_succ, Array.replicate_zero, List.push_toArray, List.append_toArray, List.nil_append, List.cons_append]
  gi_wp2
  go_ret
  exact ⟨rfl, rfl⟩
/-- A slice of links, below n₀. -/
def LSl (n₀ : Nat) (W : World) (p : Option Addr) (cap : Nat) (L : List Lk) : Prop := L.length ≤ cap ∧ (L ≠ [] → ∃ b off, p = some ⟨b, off, Option.none⟩ ∧ b < n₀ ∧ RowL W b off L)
theorem LSl.below {n₀ n₁ cap : Nat} {W W' : World} {p : Option Addr} {L : List Lk} (h : LSl n₀ W p cap L) (k : Below n₁ W W') (hn : n₀ ≤ n₁) : LSl n₀ W' p cap L :=
  ⟨h.1, fun hL => by
    obtain ⟨b, off, e, hb, hr⟩ := h.2 hL
    exact ⟨b, off, e, hb, hr.below k (Nat.lt_of_lt_of_le hb hn)⟩⟩
theorem LSl.mono {n₀ n₁ cap : Nat} {W : World} {p : Option Addr} {L : List Lk} (h : LSl n₀ W p cap L) (hn : n₀ ≤ n₁) : LSl n₁ W p cap L :=
  ⟨h.1, fun hL => by
    obtain ⟨b, off, e, hb, hr⟩ := h.2 hL
    exact ⟨b, off, e, Nat.lt_of_lt_of_le hb hn, hr⟩⟩
theorem sides_stops (F : Fence) (n : Nat) (h30 : F.fn 30) (hro : F.round = Option.none) (hn : 1 ≤ n) (Bg n₀ cap : Nat) (p : Option Addr) (L : List Lk) (hreach : L.length ≤ 1000) (w : World) (hBg : Bg < w.heap.size) (hn₀ : n₀ ≤ w.heap.size)
    (hc : w.cell? ⟨Bg, 1, Option.none⟩ = some (.slice p L.length cap)) (hI : LSl n₀ w p cap L) :
    SeqStopsK F n Try.prog 30 #[.pointer (some ⟨Bg, 0, Option.none⟩)] (fun x : Sx L => #[sdv x.1]) (K61 n₀) (fun ys => ys = sidesT L) (fun _ => True) (sidesOf L).length w := fun l J Jx W hW hJ hJx hY h0 => by
  have hc' := (hW.cell (p := ⟨Bg, 1, Option.none⟩) hBg).trans hc
  by_cases hL : L = []
  · subst hL
    exact (sides1_nil_in F n h30 hro l Bg cap p J W hc' h0).mono fun e W' ⟨he, hj⟩ => ⟨he, .inl ⟨[], rfl, hj⟩⟩
  · obtain ⟨b, off, rfl, hb, hr⟩ := hI.2 hL
    refine (sides1_in F n h30 hro hn l Bg n₀ b off cap L hreach hb hI.1 J Jx W (Nat.le_trans hn₀ hW.size) hJ hY hc' (hr.below (hW.mono hn₀) hb) h0).mono ?_
    rintro e W' ⟨he, ⟨ys, rfl, hj⟩ | ⟨pre, hj⟩⟩
    · exact ⟨he, .inl ⟨_, rfl, hj⟩⟩
    · exact ⟨he, .inr ⟨_, trivial, hj⟩⟩
end Go.Proofs.Ythnkeppkhdceoaa
