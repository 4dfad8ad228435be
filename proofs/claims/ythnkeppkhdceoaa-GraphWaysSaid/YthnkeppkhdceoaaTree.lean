/-
  Graphs: each bridge's part and which links are in the tree (graph.tree). Conditions: the graph may be; the rows lie so.
-/
import Derived.Test.YthnkeppkhdceoaaPorts
namespace Go.Proofs.Ythnkeppkhdceoaa
open Go.RowKit Go.Shelf
set_option linter.unusedVariables false
set_option linter.unusedSimpArgs false
attribute [local go_sem] Oper.semAt_some

theorem side_link {L : List Lk} : ∀ {j : Nat} {s : Sd}, s ∈ sidesFrom j L → ∃ i l, L[i]? = some l ∧ s.k = ((j + i : Nat) : Int) ∧ l.up = true ∧ l.a.b ≠ l.z.b ∧ (s = ⟨((j + i : Nat) : Int), l.a, l.z⟩ ∨ s = ⟨((j + i : Nat) : Int), l.z, l.a⟩) := by
  induction L with
  | nil => intro j s h; simp [sidesFrom] at h
  | cons l L ih =>
    intro j s h
    rcases List.mem_append.1 h with h | h
    · unfold sdk at h
      split at h
      · rename_i hon
        refine ⟨0, l, rfl, ?_, hon.1, hon.2, ?_⟩
        · simp at h; rcases h with rfl | rfl <;> rfl
        · simpa using h
      · simp at h
    · obtain ⟨i, x, hx, hk, hu, hb, hs⟩ := ih h
      refine ⟨i + 1, x, by simpa using hx, ?_, hu, hb, ?_⟩
      · rw [hk]; congr 1; omega
      · rw [show j + (i + 1) = j + 1 + i by omega]; exact hs
/-- A bridge's root port. -/
def qOf (N : List Nd) (x : Int) : Int := match N[x.toNat]? with | some nd => nd.q | Option.none => -1
/-- Has one of these sides its link in the tree? -/
def inB (N : List Nd) (l : List Sd) (k : Nat) : Bool := l.any (fun s => decide (s.k = (k : Int)) && decide (qOf N s.n.b = s.n.p))
def inRow (N : List Nd) (l : List Sd) (n : Nat) : List Value := (List.range n).map (fun k => Value.bool (inB N l k))
theorem inRow_snoc_no {N : List Nd} {l : List Sd} {s : Sd} {n : Nat} (h : ¬ qOf N s.n.b = s.n.p) : inRow N (l ++ [s]) n = inRow N l n := by
  simp [inRow, inB, h]
theorem inRow_snoc_yes {N : List Nd} {l : List Sd} {s : Sd} {n k : Nat} (hk : s.k = (k : Int)) (h : qOf N s.n.b = s.n.p) : inRow N (l ++ [s]) n = (inRow N l n).set k (.bool true) := by
  apply List.ext_getElem?
  intro i
  by_cases e : i = k
  · subst e
    by_cases hi : i < n
    · rw [List.getElem?_set_self (by simp [inRow, hi])]
      simp [inRow, inB, h, hk, hi]
    · rw [List.getElem?_eq_none (by simp [inRow]; omega), List.getElem?_eq_none (by simp [inRow]; omega)]
  · rw [List.getElem?_set_ne (fun h => e h.symm)]
    have : ¬ (k : Int) = (i : Int) := by omega
    by_cases hi : i < n
    · simp [inRow, inB, h, hk, this, hi]
    · simp [inRow, hi]
theorem inRow_nil (N : List Nd) (n : Nat) : inRow N [] n = (List.replicate n (Value.bool false)) := by
  apply List.ext_getElem?
  intro i
  by_cases hi : i < n
  · simp [inRow, inB, hi]
  · simp [inRow, inB, hi]
theorem info4 : (Try.prog.info? 4).map (fun i => (i.zero, i.size, i.bytes)) = some (some (.bool false), 1, 1) := by kernel_rfl
theorem made27 (n : Nat) : madeCells (Value.bool false).cells (n * 1) = Array.replicate n (Value.bool false) := by
  apply Array.ext
  · simp [madeCells]
  · intro j h1 h2
    simp [madeCells, Value.cells, Nat.mod_one]
theorem make27 (n : Nat) (h : n ≤ 50) (W : World) : (Instr.makeSlice 27 (.int .i64 (n : Int)) (.int .i64 (n : Int))).run Try.prog W = .ok (.slice (some ⟨W.heap.size, 0, Option.none⟩) n n) (W.alloc (.cells (Array.replicate n (Value.bool false)) 4 (0, 0))) := by
  obtain ⟨i0, hi, hz0, hz1, hz2⟩ := info_parts info4
  have hr := run_makeSlice (P := Try.prog) W 27 4 i0 (.bool false) Try.underlying27 hi hz0 .i64 .i64 n n (by omega) (Int.le_refl _) (by rw [hz1]; simp; omega) (by rw [hz2]; simp; omega) (by omega)
  rw [hz1] at hr
  simp only [Int.toNat_natCast, made27] at hr
  exact hr
/-- The tree of a graph, as it lies. -/
structure TreeAt (w : World) (B : Nat) (ids : List Int) (n nl : Nat) (L : List Lk) (gN c3 gI : Nat) (N : List Nd) : Prop where
  row : Row w gN c3 (ported (portOf ids N (sidesOf L)) n N)
  blk : w.heap[gI]? = some (.cells (inRow (ported (portOf ids N (sidesOf L)) n N) (sidesOf L) nl).toArray 4 (0, 0))
  put : Put ids n L N
  geN : B ≤ gN
  geI : B ≤ gI

set_option maxRecDepth 100000 in
set_option maxHeartbeats 8000000 in
theorem tree_any {w : World} {BI n ci nl cl : Nat} {pi pl : Option Addr} {ids : List Int} {L : List Lk}
    (hI : WV w BI 1 pi n ci (idc ids)) (hL : LSl w.heap.size w pl cl L) (hnl : L.length = nl) (hl : nl ≤ 50) (hok : GOk ids n (sidesOf L)) :
    Calls Try.prog 15 #[.agg #[.slice pi n ci, .slice pl nl cl]] w fun e w' => ∃ gN c3 gI N, e = .returned (.tuple #[.slice (some ⟨gN, 0, Option.none⟩) n c3, .slice (some ⟨gI, 0, Option.none⟩) nl nl]) ∧ TreeAt w' w.heap.size ids n nl L gN c3 gI N ∧ Keeps Nil w w' := by
  have hn8 := hok.n8
  have hlen : ids.length = n := hok.len
  have hncl : nl ≤ cl := by have := hL.1; omega
  refine (callsIn_wide (n := 9)).1 ?_
  refine callsIn_of_wp_marks Try.func15 rfl trivial ?_ rfl
  simp only [Try.ntmps15, List.size_toArray, List.length_cons, List.length_nil, Nat.reduceAdd, Nat.reduceSub, Array.replicate_succ, Array.replicate_zero, List.push_toArray, List.append_toArray, List.nil_append, List.cons_append]
  have k0 : Keeps Nil w (w.alloc (.cells #[.slice pi n ci, .slice pl nl cl] 51 (0, 0))) := (Keeps.refl Nil w).alloc _
  have NA := hid (nodes_any (hI.keepN k0) ((hL.below (k0.below (fun _ _ e => e)) (Nat.le_refl _)).mono k0.size) hnl (by omega) hok)
  gi_wp2_with (refine ⟨trivial, ?_⟩; gi_at_call 23; refine (callsIn_wide.2 NA.out).mono ?_; rintro e w1 ⟨v, N, rfl, hrow, k1, hput⟩; have HROW := hid hrow; have K1 := hid k1; have HPUT := hid hput; clear hrow k1 hput; obtain ⟨p3, c3, rfl⟩ := own_shape HROW.out; have hbA := (K1.out.block _ (by simp) (fun e => e)).trans (alloc_block w (.cells #[.slice pi n ci, .slice pl nl cl] 51 (0, 0))); have fA0 := cellOf (i := 0) (v := .slice pi n ci) hbA rfl; have fA1 := cellOf (i := 1) (v := .slice pl nl cl) hbA rfl; have hwl : w.heap.size < w1.heap.size := lt_of_block hbA; have HBA := hid hbA; clear hbA)
  obtain ⟨hlenN, ⟨_, hz, _⟩ | ⟨gN, rfl, hgN, hrow⟩⟩ := Row.of_own HROW.out
  · have := hok.n1; omega
  have kw1 : Keeps Nil w w1 := k0.trans K1.out
  have hgN1 : gN < w1.heap.size := hrow.lt
  have hgN2 : w.heap.size < gN := by simp at hgN; omega
  have hcost : ∀ x ∈ N, 0 ≤ x.c ∧ x.c ≤ 458745 := fun x hx => by
    obtain ⟨i, hi⟩ := List.mem_iff_getElem?.1 hx
    have hin : i < N.length := (List.getElem?_eq_some_iff.1 hi).1
    have := HPUT.out.inv.cost hok.within hok.pos hn8 (x := (i : Int)) (by omega) (by omega)
    rw [valOf_at hi] at this
    exact this
  have hpi : ∀ g off, pi = some ⟨g, off, Option.none⟩ → g ≠ gN := fun g off e => by
    obtain ⟨g', off', e', _, hl', _⟩ := hI.2.2 (by have := hok.n1; omega)
    rw [e] at e'; cases e'; omega
  have kB : Keeps Nil w1 (w1.alloc (.cells #[.slice (some ⟨gN, 0, Option.none⟩) n c3] 26 (0, 0))) := (Keeps.refl Nil w1).alloc _
  have PA := hid (ports_any (hI.keepN (kw1.trans kB)) ((hL.below ((kw1.trans kB).below (fun _ _ e => e)) (Nat.le_refl _)).mono (kw1.trans kB).size) hnl hl hok (hrow.keep kB (fun e => e)) hlenN hcost hpi)
  refine ⟨trivial, ?_⟩
  refine (callsIn_wide.2 PA.out).mono ?_
  rintro e w2 ⟨⟨v, rfl⟩, hrow2, k2⟩
  have hbA2 : w2.heap[w.heap.size]? = some (.cells #[.slice pi n ci, .slice pl nl cl] 51 (0, 0)) := (k2.block _ (by simp; omega) (fun e => by have : w.heap.size = gN := e; omega)).trans (alloc_other HBA.out _)
  have hbN2 : w2.heap[w1.heap.size]? = some (.cells #[.slice (some ⟨gN, 0, Option.none⟩) n c3] 26 (0, 0)) := (k2.block _ (by simp) (fun e => by have : w1.heap.size = gN := e; omega)).trans (alloc_block w1 _)
  have kw2 : Keeps (At gN) w1 w2 := kB.ofNil.trans k2
  have gA0 := cellOf (i := 0) (v := .slice pi n ci) hbA2 rfl
  have gA1 := cellOf (i := 1) (v := .slice pl nl cl) hbA2 rfl
  have gN0 := cellOf (i := 0) (v := .slice (some ⟨gN, 0, Option.none⟩) n c3) hbN2 rfl
  have hwl2 : w.heap.size < w2.heap.size := lt_of_block hbA2
  have hwl3 : w1.heap.size < w2.heap.size := lt_of_block hbN2
  have hwl4 : w.heap.size < w2.heap.size + 1 := by omega
  have hwl5 : w.heap.size < w2.heap.size + 1 + 1 := by omega
  have HROW2 := hid hrow2
  have KW2 := hid kw2
  have HBA2 := hid hbA2
  have HBN2 := hid hbN2
  clear k2 hrow2 kw2 hbA2 hbN2 fA0 fA1 hrow
  have MK := make27 nl hl
  gi_wp2_with (refine ⟨trivial, ?_⟩; gi_at_call 25; refine (sides_in Fence.wide _ trivial rfl _ _ _).mono ?_; rintro e w' ⟨rfl, rfl⟩)
  obtain ⟨W3, hW3⟩ : ∃ W3, (((w2.alloc (.cells (Array.replicate nl (Value.bool false)) 4 (0, 0))).alloc (.cells #[.slice (some ⟨w2.heap.size, 0, Option.none⟩) nl nl] 27 (0, 0))).alloc (.cells #[.slice pi n ci, .slice pl nl cl] 51 (0, 0))) = W3 := ⟨_, rfl⟩
  have hI0 : W3.heap[w2.heap.size]? = some (.cells (Array.replicate nl (Value.bool false)) 4 (0, 0)) := by rw [← hW3]; exact alloc_other (alloc_other (alloc_block _ _) _) _
  have hI1 : W3.heap[w2.heap.size + 1]? = some (.cells #[.slice (some ⟨w2.heap.size, 0, Option.none⟩) nl nl] 27 (0, 0)) := by
    rw [← hW3]; refine alloc_other ?_ _
    have := alloc_block (w2.alloc (.cells (Array.replicate nl (Value.bool false)) 4 (0, 0))) (.cells #[.slice (some ⟨w2.heap.size, 0, Option.none⟩) nl nl] 27 (0, 0))
    simpa only [World.size_alloc] using this
  have hI2 : W3.heap[w2.heap.size + 1 + 1]? = some (.cells #[.slice pi n ci, .slice pl nl cl] 51 (0, 0)) := by
    rw [← hW3]
    have := alloc_block ((w2.alloc (.cells (Array.replicate nl (Value.bool false)) 4 (0, 0))).alloc (.cells #[.slice (some ⟨w2.heap.size, 0, Option.none⟩) nl nl] 27 (0, 0))) (.cells #[.slice pi n ci, .slice pl nl cl] 51 (0, 0))
    simpa only [World.size_alloc] using this
  have k3 : Keeps Nil w2 W3 := by rw [← hW3]; exact (((Keeps.refl Nil w2).alloc _).alloc _).alloc _
  have hsz : w2.heap.size + 1 + 1 + 1 ≤ W3.heap.size := by rw [← hW3]; simp
  rw [hW3]
  clear hW3
  have kw2n : Keeps Nil w w2 := kw1.trans' KW2.out (fun x hx e => by have : x = gN := e; omega)
  have hn0 : w.heap.size ≤ W3.heap.size := by omega
  have hcl := cellOf (i := 1) (v := .slice pl L.length cl) hI2 (by rw [hnl]; rfl)
  refine wpIn_rangeFunc_ownH rfl (by omega) (gf := 30) (lb := #[.pointer (some ⟨w2.heap.size + 1 + 1, 0, Option.none⟩)]) rfl trivial (enters_of Try.func30 (by kernel_rfl) rfl)
    (sides_stops Fence.wide _ trivial rfl (by omega) (w2.heap.size + 1 + 1) w.heap.size cl pl L (by omega) W3 (by omega) hn0 hcl (hL.below ((kw2n.trans k3).below (fun _ _ e => e)) (Nat.le_refl _)))
    (fun h k => h.trans k) (K61.put hn0) (Below.refl _ _) (fun _ => rfl)
    (fun pre X => X.heap[w2.heap.size]? = some (.cells (inRow (ported (portOf ids N (sidesOf L)) n N) pre.unattach nl).toArray 4 (0, 0)) ∧ Keeps (At w2.heap.size) W3 X)
    (fun _ _ _ => False)
    ?hI (fun _ _ _ _ _ hs _ _ => hs) ⟨by rw [show ([] : List (Sx L)).unattach = [] from rfl, inRow_nil]; simpa using hI0, Keeps.refl _ _⟩
    (fun x a' X => ∃ Bx, W3.heap.size ≤ Bx ∧ X.heap[Bx]? = some (.cells #[.int .i64 x.1.k, .int .i64 x.1.n.b, .int .u8 x.1.n.p, .int .u32 x.1.n.c, .int .i64 x.1.f.b, .int .u8 x.1.f.p, .int .u32 x.1.f.c] 86 (0, 0)) ∧ a' = { tmps := #[(.agg #[.slice pi n ci, .slice pl nl cl]), (.pointer (some ⟨w.heap.size, 0, Option.none⟩)), (.slice Option.none 0 0), (.slice Option.none 0 0), (.pointer (some ⟨w1.heap.size, 0, Option.none⟩)), (.pointer (some ⟨w2.heap.size + 1, 0, Option.none⟩)), (.pointer (some ⟨Bx, 0, Option.none⟩)), (.agg #[.slice pi n ci, .slice pl nl cl]), (.slice (some ⟨gN, 0, Option.none⟩) n c3), (.agg #[.slice pi n ci, .slice pl nl cl]), (.slice (some ⟨gN, 0, Option.none⟩) n c3), v, (.pointer (some ⟨w.heap.size, 1, Option.none⟩)), (.slice pl nl cl), (.int .i64 (nl : Int)), (.slice (some ⟨w2.heap.size, 0, Option.none⟩) nl nl), (.agg #[.slice pi n ci, .slice pl nl cl]), (.func (.func 30) #[] #[.pointer (some ⟨w2.heap.size + 1 + 1, 0, Option.none⟩)]), (sdv x.1), undef, undef, undef, undef, undef, undef, undef, undef, undef, undef, undef, undef, undef, undef, undef, undef, undef, undef], defers := [] })
    ?hAx ?assign ?body ?done ?stop
  case hI =>
    refine OwnFrom.and (fun s X Y row hs hg hr => (hg.block _ (lt_of_block hs) (fun e => ?_)).trans hs) (fun s => OwnFrom.keeps (Nat.le_refl _) ())
    obtain ⟨_, o, ho, hc⟩ := hr _ e.symm
    rw [hs] at ho; cases ho; cases hc
  case hAx =>
    intro x a' s X Y row ⟨Bx, h1, h2, h3⟩ hg hr
    refine ⟨Bx, h1, (hg.block Bx (lt_of_block h2) (fun e => ?_)).trans h2, h3⟩
    obtain ⟨_, o, ho, hc⟩ := hr Bx e.symm
    rw [h2] at ho; cases ho; cases hc
  case assign =>
    rintro l pre x X K hi hK
    gi_wp2
    exact hK _ _ ((KeepsOthers.alloc _ _).from _) ((K61.refl _ _).alloc (by have := hi.2.size; omega) _) ⟨alloc_other hi.1 _, hi.2.alloc _⟩
      ⟨X.heap.size, hi.2.size, alloc_block X _, rfl⟩
  case body =>
    rintro l pre x a' X hl0 hr0 ⟨hrowI, hkX⟩ ⟨Bx, hBx, hbx, rfl⟩ hlt
    have hsx := hok.side x.1 x.2
    obtain ⟨i, hi0⟩ : ∃ i : Nat, x.1.n.b = (i : Int) := ⟨x.1.n.b.toNat, by omega⟩
    obtain ⟨kk, lk, hlk, hkk, _⟩ := side_link (j := 0) x.2
    rw [Nat.zero_add] at hkk
    have hkl : kk < nl := by have := (List.getElem?_eq_some_iff.1 hlk).1; omega
    obtain ⟨nd, hnd⟩ : ∃ nd, (ported (portOf ids N (sidesOf L)) n N)[i]? = some nd := ⟨_, List.getElem?_eq_getElem (by rw [ported_len]; omega)⟩
    have hqo : qOf (ported (portOf ids N (sidesOf L)) n N) x.1.n.b = nd.q := by rw [hi0]; simp [qOf, hnd]
    have hrowX : Row X gN c3 (ported (portOf ids N (sidesOf L)) n N) := (HROW2.out.keep k3 (fun e => e)).keep hkX (fun e => by have : gN = w2.heap.size := e; omega)
    have HSN := hid (show (pre ++ [x]).unattach = pre.unattach ++ [x.1] by rw [List.unattach_append]; rfl)
    have hbN : X.heap[w1.heap.size]? = some (.cells #[.slice (some ⟨gN, 0, Option.none⟩) n c3] 26 (0, 0)) := (hkX.block _ (by omega) (fun e => by have : w1.heap.size = w2.heap.size := e; omega)).trans ((k3.block _ (by omega) (fun e => e)).trans HBN2.out)
    have hbI : X.heap[w2.heap.size + 1]? = some (.cells #[.slice (some ⟨w2.heap.size, 0, Option.none⟩) nl nl] 27 (0, 0)) := (hkX.block _ (by omega) (fun e => by have : w2.heap.size + 1 = w2.heap.size := e; omega)).trans hI1
    have HYES := hid (fun h => inRow_snoc_yes (N := (ported (portOf ids N (sidesOf L)) n N)) (l := pre.unattach) (n := nl) hkk h)
    have HNO := hid (fun h => inRow_snoc_no (N := (ported (portOf ids N (sidesOf L)) n N)) (l := pre.unattach) (s := x.1) (n := nl) h)
    rw [hqo] at HYES HNO
    obtain ⟨⟨sk, ⟨nb, np, nc⟩, ⟨fb, fp, fc⟩⟩, hsmem⟩ := x
    obtain ⟨xr, xc, xq⟩ := nd
    dsimp only at *
    subst hi0 hkk
    have q0 := cellOf (i := 0) (v := .slice (some ⟨gN, 0, Option.none⟩) n c3) hbN rfl
    have q1 := cellOf (i := 1) (v := .int .i64 (i : Int)) hbx rfl
    have q2 := cellOf (i := 2) (v := .int .u8 np) hbx rfl
    obtain ⟨⟨n0, n1, q3⟩, nfz⟩ := hrowX.read hnd
    have e0 := cellOf (i := 0) (v := .int .i64 (kk : Int)) hbx rfl
    have eI := cellOf (i := 0) (v := .slice (some ⟨w2.heap.size, 0, Option.none⟩) nl nl) hbI rfl
    have hq : 0 ≤ np ∧ np < 8 := hsx.2.2.2.1
    have hwr : IntKind.i64.wrap np = np := by rw [IntKind.wrap_i64]; omega
    have hin : i < n := by omega
    have hnc3 : n ≤ c3 := by obtain ⟨cur, _, _, _, h, _⟩ := hrowX; rw [ported_len] at h; omega
    have hfz : X.frozen? ⟨w2.heap.size, kk, Option.none⟩ = false := by simp [World.frozen?, hrowI]
    obtain ⟨u, hu⟩ : ∃ u, X.cell? ⟨w2.heap.size, kk, Option.none⟩ = some u := ⟨_, cellOf hrowI (Array.getElem?_eq_getElem (by simp [inRow]; exact hkl))⟩
    have HRI := hid hrowI
    have HKX := hid hkX
    clear hbx hbN hbI hrowX hnd hqo hrowI hkX hlk n0 n1
    by_cases hxq : xq = np
    · subst hxq
      gi_wp2
      refine region_round (S := (fun W => W.cell? ⟨w1.heap.size, 0, Option.none⟩ = some (.slice (some ⟨gN, 0, Option.none⟩) n c3) ∧ W.cell? ⟨Bx, 1, Option.none⟩ = some (.int .i64 (i : Int)) ∧ W.cell? ⟨Bx, 2, Option.none⟩ = some (.int .u8 xq) ∧ W.cell? ⟨gN, i * 3 + 2, Option.none⟩ = some (.int .i64 xq))) (by kernel_rfl) (by kernel_rfl) (by rintro ⟨a, w, h⟩; exact h) ?_ (fun hHeld => ?_)
      · (try dsimp only); exact ⟨q0, q1, q2, q3⟩
      refine wpAnyH_take (i := 0) (v := ?_) rfl (by kernel_rfl) (by kernel_rfl) (by kernel_rfl) (fun _ _ _ h => h) (Or.inl ⟨by rfl, ?_⟩) (by assumption) ?_
      rotate_left
      · (intro W hSw; (try dsimp only at hSw); go_simp <;> with_reducible rfl)
      try simp only [Act.put, List.setIfInBounds_toArray, List.set_cons_zero, List.set_cons_succ, List.getElem_toArray, List.getElem_cons_zero, List.getElem_cons_succ]
      refine wpAnyH_take (i := 1) (v := ?_) rfl (by kernel_rfl) (by kernel_rfl) (by kernel_rfl) (fun _ _ _ h => h) (Or.inl ⟨by rfl, ?_⟩) (by assumption) ?_
      rotate_left
      · (intro W hSw; (try dsimp only at hSw); go_simp <;> with_reducible rfl)
      try simp only [Act.put, List.setIfInBounds_toArray, List.set_cons_zero, List.set_cons_succ, List.getElem_toArray, List.getElem_cons_zero, List.getElem_cons_succ]
      refine wpAnyH_take (i := 2) (v := ?_) rfl (by kernel_rfl) (by kernel_rfl) (by kernel_rfl) (fun _ _ _ h => h) (Or.inl ⟨by rfl, ?_⟩) (by assumption) ?_
      rotate_left
      · (intro W hSw; (try dsimp only at hSw); go_simp <;> with_reducible rfl)
      try simp only [Act.put, List.setIfInBounds_toArray, List.set_cons_zero, List.set_cons_succ, List.getElem_toArray, List.getElem_cons_zero, List.getElem_cons_succ]
      refine wpAnyH_take (i := 3) (v := ?_) rfl (by kernel_rfl) (by kernel_rfl) (by kernel_rfl) (fun _ _ _ h => h) (Or.inl ⟨by rfl, ?_⟩) (by assumption) ?_
      rotate_left
      · (intro W hSw; (try dsimp only at hSw); go_simp <;> with_reducible rfl)
      try simp only [Act.put, List.setIfInBounds_toArray, List.set_cons_zero, List.set_cons_succ, List.getElem_toArray, List.getElem_cons_zero, List.getElem_cons_succ]
      refine wpAnyH_take (i := 4) (v := ?_) rfl (by kernel_rfl) (by kernel_rfl) (by kernel_rfl) (fun _ _ _ h => h) (Or.inl ⟨by rfl, ?_⟩) (by assumption) ?_
      rotate_left
      · (intro W hSw; (try dsimp only at hSw); go_simp <;> with_reducible rfl)
      try simp only [Act.put, List.setIfInBounds_toArray, List.set_cons_zero, List.set_cons_succ, List.getElem_toArray, List.getElem_cons_zero, List.getElem_cons_succ]
      refine wpAnyH_take (i := 5) (v := ?_) rfl (by kernel_rfl) (by kernel_rfl) (by kernel_rfl) (fun _ _ _ h => h) (Or.inl ⟨by rfl, ?_⟩) (by assumption) ?_
      rotate_left
      · (intro W hSw; (try dsimp only at hSw); go_simp <;> with_reducible rfl)
      try simp only [Act.put, List.setIfInBounds_toArray, List.set_cons_zero, List.set_cons_succ, List.getElem_toArray, List.getElem_cons_zero, List.getElem_cons_succ]
      refine wpAnyH_take (i := 6) (v := ?_) rfl (by kernel_rfl) (by kernel_rfl) (by kernel_rfl) (fun _ _ _ h => h) (Or.inl ⟨by rfl, ?_⟩) (by assumption) ?_
      rotate_left
      · (intro W hSw; (try dsimp only at hSw); go_simp <;> with_reducible rfl)
      try simp only [Act.put, List.setIfInBounds_toArray, List.set_cons_zero, List.set_cons_succ, List.getElem_toArray, List.getElem_cons_zero, List.getElem_cons_succ]
      refine wpAnyH_take (i := 7) (v := ?_) rfl (by kernel_rfl) (by kernel_rfl) (by kernel_rfl) (fun _ _ _ h => h) (Or.inl ⟨by rfl, ?_⟩) (by assumption) ?_
      rotate_left
      · (intro W hSw; (try dsimp only at hSw); go_simp <;> with_reducible rfl)
      try simp only [Act.put, List.setIfInBounds_toArray, List.set_cons_zero, List.set_cons_succ, List.getElem_toArray, List.getElem_cons_zero, List.getElem_cons_succ]
      refine wpAnyH_take (i := 8) (v := ?_) rfl (by kernel_rfl) (by kernel_rfl) (by kernel_rfl) (fun _ _ _ h => h) (Or.inl ⟨by rfl, ?_⟩) (by assumption) ?_
      rotate_left
      · (intro W hSw; (try dsimp only at hSw); go_simp <;> with_reducible rfl)
      try simp only [Act.put, List.setIfInBounds_toArray, List.set_cons_zero, List.set_cons_succ, List.getElem_toArray, List.getElem_cons_zero, List.getElem_cons_succ]
      refine wpAnyH_take (i := 9) (v := ?_) rfl (by kernel_rfl) (by kernel_rfl) (by kernel_rfl) (fun _ _ _ h => h) (Or.inl ⟨by rfl, ?_⟩) (by assumption) ?_
      rotate_left
      · (intro W hSw; (try dsimp only at hSw); go_simp <;> with_reducible rfl)
      try simp only [Act.put, List.setIfInBounds_toArray, List.set_cons_zero, List.set_cons_succ, List.getElem_toArray, List.getElem_cons_zero, List.getElem_cons_succ]
      refine wpAnyH_take (i := 10) (v := ?_) rfl (by kernel_rfl) (by kernel_rfl) (by kernel_rfl) (fun _ _ _ h => h) (Or.inl ⟨by rfl, ?_⟩) (by assumption) ?_
      rotate_left
      · (intro W hSw; (try dsimp only at hSw); go_simp <;> with_reducible rfl)
      try simp only [Act.put, List.setIfInBounds_toArray, List.set_cons_zero, List.set_cons_succ, List.getElem_toArray, List.getElem_cons_zero, List.getElem_cons_succ]
      refine wpAnyH_take (i := 11) (v := ?_) rfl (by kernel_rfl) (by kernel_rfl) (by kernel_rfl) (fun _ _ _ h => h) (Or.inl ⟨by rfl, ?_⟩) (by assumption) ?_
      rotate_left
      · (intro W hSw; (try dsimp only at hSw); go_simp <;> with_reducible rfl)
      try simp only [Act.put, List.setIfInBounds_toArray, List.set_cons_zero, List.set_cons_succ, List.getElem_toArray, List.getElem_cons_zero, List.getElem_cons_succ]
      refine wpAnyH_done (by kernel_rfl) ?_ _
      gi_wp2
      have kS : Keeps (At w2.heap.size) X (X.drew.setCell ⟨w2.heap.size, kk, Option.none⟩ (.bool true)) := ((Keeps.refl (At w2.heap.size) X).drew).set _ _ (at_self _) _
      have hb2 := setCell_block (w := X.drew) HRI.out kk (.bool true)
      refine ⟨kf_of kS (fun g e _ => by have e : g = w2.heap.size := e; subst e; exact ⟨_, _, _, HRI.out⟩) _, k61_of kS (by have := HKX.out.size; omega) (fun g e _ => by have e : g = w2.heap.size := e; subst e; exact ⟨by omega, _, _, _, HRI.out, by decide⟩), ?_, HKX.out.trans kS⟩
      rw [HSN.out, HYES.out (by trivial)]
      rw [List.setIfInBounds_toArray] at hb2
      exact hb2
    · have hxq' : (xq == np) = false := by simp [hxq]
      gi_wp2
      refine region_round (S := (fun W => W.cell? ⟨w1.heap.size, 0, Option.none⟩ = some (.slice (some ⟨gN, 0, Option.none⟩) n c3) ∧ W.cell? ⟨Bx, 1, Option.none⟩ = some (.int .i64 (i : Int)) ∧ W.cell? ⟨Bx, 2, Option.none⟩ = some (.int .u8 np) ∧ W.cell? ⟨gN, i * 3 + 2, Option.none⟩ = some (.int .i64 xq))) (by kernel_rfl) (by kernel_rfl) (by rintro ⟨a, w, h⟩; exact h) ?_ (fun hHeld => ?_)
      · (try dsimp only); exact ⟨q0, q1, q2, q3⟩
      refine wpAnyH_take (i := 0) (v := ?_) rfl (by kernel_rfl) (by kernel_rfl) (by kernel_rfl) (fun _ _ _ h => h) (Or.inl ⟨by rfl, ?_⟩) (by assumption) ?_
      rotate_left
      · (intro W hSw; (try dsimp only at hSw); go_simp <;> with_reducible rfl)
      try simp only [Act.put, List.setIfInBounds_toArray, List.set_cons_zero, List.set_cons_succ, List.getElem_toArray, List.getElem_cons_zero, List.getElem_cons_succ]
      refine wpAnyH_take (i := 1) (v := ?_) rfl (by kernel_rfl) (by kernel_rfl) (by kernel_rfl) (fun _ _ _ h => h) (Or.inl ⟨by rfl, ?_⟩) (by assumption) ?_
      rotate_left
      · (intro W hSw; (try dsimp only at hSw); go_simp <;> with_reducible rfl)
      try simp only [Act.put, List.setIfInBounds_toArray, List.set_cons_zero, List.set_cons_succ, List.getElem_toArray, List.getElem_cons_zero, List.getElem_cons_succ]
      refine wpAnyH_take (i := 2) (v := ?_) rfl (by kernel_rfl) (by kernel_rfl) (by kernel_rfl) (fun _ _ _ h => h) (Or.inl ⟨by rfl, ?_⟩) (by assumption) ?_
      rotate_left
      · (intro W hSw; (try dsimp only at hSw); go_simp <;> with_reducible rfl)
      try simp only [Act.put, List.setIfInBounds_toArray, List.set_cons_zero, List.set_cons_succ, List.getElem_toArray, List.getElem_cons_zero, List.getElem_cons_succ]
      refine wpAnyH_take (i := 3) (v := ?_) rfl (by kernel_rfl) (by kernel_rfl) (by kernel_rfl) (fun _ _ _ h => h) (Or.inl ⟨by rfl, ?_⟩) (by assumption) ?_
      rotate_left
      · (intro W hSw; (try dsimp only at hSw); go_simp <;> with_reducible rfl)
      try simp only [Act.put, List.setIfInBounds_toArray, List.set_cons_zero, List.set_cons_succ, List.getElem_toArray, List.getElem_cons_zero, List.getElem_cons_succ]
      refine wpAnyH_take (i := 4) (v := ?_) rfl (by kernel_rfl) (by kernel_rfl) (by kernel_rfl) (fun _ _ _ h => h) (Or.inl ⟨by rfl, ?_⟩) (by assumption) ?_
      rotate_left
      · (intro W hSw; (try dsimp only at hSw); go_simp <;> with_reducible rfl)
      try simp only [Act.put, List.setIfInBounds_toArray, List.set_cons_zero, List.set_cons_succ, List.getElem_toArray, List.getElem_cons_zero, List.getElem_cons_succ]
      refine wpAnyH_take (i := 5) (v := ?_) rfl (by kernel_rfl) (by kernel_rfl) (by kernel_rfl) (fun _ _ _ h => h) (Or.inl ⟨by rfl, ?_⟩) (by assumption) ?_
      rotate_left
      · (intro W hSw; (try dsimp only at hSw); go_simp <;> with_reducible rfl)
      try simp only [Act.put, List.setIfInBounds_toArray, List.set_cons_zero, List.set_cons_succ, List.getElem_toArray, List.getElem_cons_zero, List.getElem_cons_succ]
      refine wpAnyH_take (i := 6) (v := ?_) rfl (by kernel_rfl) (by kernel_rfl) (by kernel_rfl) (fun _ _ _ h => h) (Or.inl ⟨by rfl, ?_⟩) (by assumption) ?_
      rotate_left
      · (intro W hSw; (try dsimp only at hSw); go_simp <;> with_reducible rfl)
      try simp only [Act.put, List.setIfInBounds_toArray, List.set_cons_zero, List.set_cons_succ, List.getElem_toArray, List.getElem_cons_zero, List.getElem_cons_succ]
      refine wpAnyH_take (i := 7) (v := ?_) rfl (by kernel_rfl) (by kernel_rfl) (by kernel_rfl) (fun _ _ _ h => h) (Or.inl ⟨by rfl, ?_⟩) (by assumption) ?_
      rotate_left
      · (intro W hSw; (try dsimp only at hSw); go_simp <;> with_reducible rfl)
      try simp only [Act.put, List.setIfInBounds_toArray, List.set_cons_zero, List.set_cons_succ, List.getElem_toArray, List.getElem_cons_zero, List.getElem_cons_succ]
      refine wpAnyH_take (i := 8) (v := ?_) rfl (by kernel_rfl) (by kernel_rfl) (by kernel_rfl) (fun _ _ _ h => h) (Or.inl ⟨by rfl, ?_⟩) (by assumption) ?_
      rotate_left
      · (intro W hSw; (try dsimp only at hSw); go_simp <;> with_reducible rfl)
      try simp only [Act.put, List.setIfInBounds_toArray, List.set_cons_zero, List.set_cons_succ, List.getElem_toArray, List.getElem_cons_zero, List.getElem_cons_succ]
      refine wpAnyH_take (i := 9) (v := ?_) rfl (by kernel_rfl) (by kernel_rfl) (by kernel_rfl) (fun _ _ _ h => h) (Or.inl ⟨by rfl, ?_⟩) (by assumption) ?_
      rotate_left
      · (intro W hSw; (try dsimp only at hSw); go_simp <;> with_reducible rfl)
      try simp only [Act.put, List.setIfInBounds_toArray, List.set_cons_zero, List.set_cons_succ, List.getElem_toArray, List.getElem_cons_zero, List.getElem_cons_succ]
      refine wpAnyH_take (i := 10) (v := ?_) rfl (by kernel_rfl) (by kernel_rfl) (by kernel_rfl) (fun _ _ _ h => h) (Or.inl ⟨by rfl, ?_⟩) (by assumption) ?_
      rotate_left
      · (intro W hSw; (try dsimp only at hSw); go_simp <;> with_reducible rfl)
      try simp only [Act.put, List.setIfInBounds_toArray, List.set_cons_zero, List.set_cons_succ, List.getElem_toArray, List.getElem_cons_zero, List.getElem_cons_succ]
      refine wpAnyH_take (i := 11) (v := ?_) rfl (by kernel_rfl) (by kernel_rfl) (by kernel_rfl) (fun _ _ _ h => h) (Or.inl ⟨by rfl, ?_⟩) (by assumption) ?_
      rotate_left
      · (intro W hSw; (try dsimp only at hSw); go_simp <;> with_reducible rfl)
      try simp only [Act.put, List.setIfInBounds_toArray, List.set_cons_zero, List.set_cons_succ, List.getElem_toArray, List.getElem_cons_zero, List.getElem_cons_succ]
      refine wpAnyH_done (by kernel_rfl) ?_ _
      gi_wp2
      have kS : Keeps Nil X X.drew := (Keeps.refl _ _).drew
      refine ⟨kf_of kS (fun g e _ => e.elim) _, K61.nil kS (by have := HKX.out.size; omega), ?_, HKX.out.thenNil kS⟩
      rw [HSN.out, HNO.out hxq]
      exact HRI.out
  case done =>
    rintro D ys X hD rfl ⟨hrowI, hkX⟩ hDd
    rw [show (sidesT L).unattach = sidesOf L from List.unattach_attach] at hrowI
    have hbN : X.heap[w1.heap.size]? = some (.cells #[.slice (some ⟨gN, 0, Option.none⟩) n c3] 26 (0, 0)) := (hkX.block _ (by omega) (fun e => by have : w1.heap.size = w2.heap.size := e; omega)).trans ((k3.block _ (by omega) (fun e => e)).trans HBN2.out)
    have hbI : X.heap[w2.heap.size + 1]? = some (.cells #[.slice (some ⟨w2.heap.size, 0, Option.none⟩) nl nl] 27 (0, 0)) := (hkX.block _ (by omega) (fun e => by have : w2.heap.size + 1 = w2.heap.size := e; omega)).trans hI1
    have q0 := cellOf (i := 0) (v := .slice (some ⟨gN, 0, Option.none⟩) n c3) hbN rfl
    have q1 := cellOf (i := 0) (v := .slice (some ⟨w2.heap.size, 0, Option.none⟩) nl nl) hbI rfl
    have hrowX : Row X gN c3 (ported (portOf ids N (sidesOf L)) n N) := (HROW2.out.keep k3 (fun e => e)).keep hkX (fun e => by have : gN = w2.heap.size := e; omega)
    have kX : Keeps Nil w X := (kw2n.trans k3).trans' hkX (fun x hx e => by have : x = w2.heap.size := e; omega)
    gi_wp2
    refine wpIn_wide.2 (wp_region_noPanic ?_)
    refine wp_region_held_drew (S := (fun W => W.cell? ⟨w1.heap.size, 0, Option.none⟩ = some (.slice (some ⟨gN, 0, Option.none⟩) n c3) ∧ W.cell? ⟨w2.heap.size + 1, 0, Option.none⟩ = some (.slice (some ⟨w2.heap.size, 0, Option.none⟩) nl nl))) (by kernel_rfl) ?_ (fun hHeld => ?_)
    · (try dsimp only); exact ⟨q0, q1⟩
    refine wpAnyH_take (i := 0) (v := ?_) rfl (by kernel_rfl) (by kernel_rfl) (by kernel_rfl) (fun _ _ _ h => h) (Or.inl ⟨by rfl, ?_⟩) (by assumption) ?_
    rotate_left
    · (intro W hSw; (try dsimp only at hSw); go_simp <;> with_reducible rfl)
    try simp only [Act.put, List.setIfInBounds_toArray, List.set_cons_zero, List.set_cons_succ, List.getElem_toArray, List.getElem_cons_zero, List.getElem_cons_succ]
    refine wpAnyH_take (i := 1) (v := ?_) rfl (by kernel_rfl) (by kernel_rfl) (by kernel_rfl) (fun _ _ _ h => h) (Or.inl ⟨by rfl, ?_⟩) (by assumption) ?_
    rotate_left
    · (intro W hSw; (try dsimp only at hSw); go_simp <;> with_reducible rfl)
    try simp only [Act.put, List.setIfInBounds_toArray, List.set_cons_zero, List.set_cons_succ, List.getElem_toArray, List.getElem_cons_zero, List.getElem_cons_succ]
    refine wpAnyH_take (i := 2) (v := ?_) rfl (by kernel_rfl) (by kernel_rfl) (by kernel_rfl) (fun _ _ _ h => h) (Or.inl ⟨by rfl, ?_⟩) (by assumption) ?_
    rotate_left
    · (intro W hSw; (try dsimp only at hSw); go_simp <;> with_reducible rfl)
    try simp only [Act.put, List.setIfInBounds_toArray, List.set_cons_zero, List.set_cons_succ, List.getElem_toArray, List.getElem_cons_zero, List.getElem_cons_succ]
    refine wpAnyH_take (i := 3) (v := ?_) rfl (by kernel_rfl) (by kernel_rfl) (by kernel_rfl) (fun _ _ _ h => h) (Or.inl ⟨by rfl, ?_⟩) (by assumption) ?_
    rotate_left
    · (intro W hSw; (try dsimp only at hSw); go_simp <;> with_reducible rfl)
    try simp only [Act.put, List.setIfInBounds_toArray, List.set_cons_zero, List.set_cons_succ, List.getElem_toArray, List.getElem_cons_zero, List.getElem_cons_succ]
    refine wpAnyH_done (by kernel_rfl) ?_ _
    refine NoPanic.normal ?_
    gi_wp2
    refine (show LeavesInM Fence.wide 9 Try.prog Try.f15 _ _ _ .returning X.drew from ?_)
    have hmk : Marks w.heap.size [{ target := .collected D, args := #[] }] X.drew := ⟨[D], rfl, by simp, fun D' h => by simp at h; subst h; exact ⟨by omega, hDd⟩⟩
    refine hmk.leave (I := fun Y => TreeAt Y w.heap.size ids n nl L gN c3 w2.heap.size N ∧ Keeps Nil w Y) (fun s X Y row hs hg hr => ⟨⟨Own.row () X Y row hs.1.row hg (fun r e => (hr r e).2), (hg.block _ (lt_of_block hs.1.blk) (fun e => ?_)).trans hs.1.blk, hs.1.put, hs.1.geN, hs.1.geI⟩, OwnFrom.keeps (B := w.heap.size) (Nat.le_refl _) () X Y row hs.2 hg hr⟩) (fun Y hY => ?_) ⟨⟨hrowX.keep ((Keeps.refl Nil X).drew) (fun e => e), hrowI, HPUT.out, by omega, by omega⟩, kX.drew⟩
    · obtain ⟨_, o, ho, hc⟩ := hr _ e.symm
      rw [hs.1.blk] at ho; cases ho; cases hc
    · exact ⟨_, by simp [results, Try.results15, go_sem], gN, c3, w2.heap.size, N, rfl, hY⟩
  case stop =>
    rintro D c pre X hD _ h _
    exact h.elim
end Go.Proofs.Ythnkeppkhdceoaa
