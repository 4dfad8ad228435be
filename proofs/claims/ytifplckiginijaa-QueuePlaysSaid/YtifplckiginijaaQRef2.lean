/-
  The contracts of the reference of layer 6, the rest: Pop; Push of a full and of an empty queue. Conditions: the numbers lie in the slice's cells.
-/
import Derived.Test.YtifplckiginijaaQRef
import Derived.StillTailTactics
namespace Go.Proofs.Ytifplckiginijaa
open Go.RowKit Go.Conc
set_option linter.unusedVariables false
attribute [local go_sem ↓] Go.wp_at_zero Go.wp_at_succ

theorem Keeps.mono' {c : Nat} {w w' : World} (k : Keeps (At c) w w') (hc : w.heap.size ≤ c) : Keeps Nil w w' := (Keeps.refl Nil w).thenAt k hc

def QIE (R : Int) (B : Nat) (xs : List Value) (x err : Int) (e : Ending) (w' : World) : Prop :=
  ∃ p n c, e = .returned (.tuple #[.agg #[.int .i64 R, .slice p n c], .int .i64 x, .int .i64 err]) ∧ View w' B p n c xs

set_option maxRecDepth 100000 in
set_option maxHeartbeats 1000000 in
theorem rpop_none (R : Int) (B c : Nat) (p : Option Addr) (w : World) :
    Calls Try.prog 16 #[.agg #[.int .i64 R, .slice p 0 c]] w fun e w' => QIE R B [] 0 7 e w' ∧ Keeps Nil w w' := by
  go_enter Try.func16, Try.ntmps16
  go_wp2
  refine bodyPost_ret (v := .tuple #[.agg #[.int .i64 R, .slice p 0 c], .int .i64 0, .int .i64 7]) (by simp [results, Try.results16, go_sem]) rfl ?_
  refine ⟨⟨p, 0, c, rfl, rfl, Nat.zero_le _, fun h => by omega⟩, ?_⟩
  exact ((Keeps.refl _ _).alloc _).alloc _

set_option maxRecDepth 100000 in
set_option maxHeartbeats 1000000 in
theorem rpop_some (R : Int) (B g off n c : Nat) (x : Int) (l : List Int) (w : World) (hv : View w B (some ⟨g, off, Option.none⟩) (n + 1) c (ints (x :: l))) (hm : n ≤ 100000) :
    Calls Try.prog 16 #[.agg #[.int .i64 R, .slice (some ⟨g, off, Option.none⟩) (n + 1) c]] w fun e w' => QIE R B (ints l) x 0 e w' ∧ Keeps Nil w w' := by
  have hc : w.cell? ⟨g, off, Option.none⟩ = some (.int .i64 x) ∧ g < w.heap.size := by
    obtain ⟨g', off', e, hb, hl, hc⟩ := hv.2.2 (by omega)
    injection e with e; injection e with e1 e2; subst e1 e2
    exact ⟨by simpa using hc 0 (.int .i64 x) (by simp [ints]), hl⟩
  obtain ⟨hc, hg⟩ := hc
  have hc' : n + 1 ≤ c := hv.2.1
  have HV := hid hv
  clear hv
  have b1 : (1 : Int) ≤ (n : Int) + 1 := by omega
  have b2 : (n : Int) + 1 ≤ (c : Int) := by omega
  have b3 : ((n : Int) + 1 == 0) = false := by rw [beq_eq_false_iff_ne]; omega
  have HL := hid hg
  by_cases h1 : c = 1
  · obtain rfl : n = 0 := by omega
    subst h1
    go_enter Try.func16, Try.ntmps16
    go_wp2_with fail
    go_region_held3 (fun w' => w'.cell? ⟨w.heap.size, 0, Option.none⟩ = some (.int .i64 R) ∧ w'.cell? ⟨w.heap.size, 1, Option.none⟩ = some (.slice (some ⟨g, off, Option.none⟩) 1 1) ∧ w'.cell? ⟨g, off, Option.none⟩ = some (.int .i64 x)) (go_keep) ((fail))
    go_wp2
    refine bodyPost_ret (v := .tuple #[.agg #[.int .i64 R, .slice (some ⟨g, off, Option.none⟩) 0 0], .int .i64 x, .int .i64 0]) (by simp [results, Try.results16, go_sem]) rfl ?_
    refine ⟨⟨_, _, _, rfl, by have := HV.out.1; simp [ints] at this ⊢; exact this, Nat.le_refl _, fun h => by omega⟩, ?_⟩
    exact (((Keeps.refl _ _).alloc _).alloc _).drew
  · go_enter Try.func16, Try.ntmps16
    go_wp2_with fail
    go_region_held3 (fun w' => w'.cell? ⟨w.heap.size, 0, Option.none⟩ = some (.int .i64 R) ∧ w'.cell? ⟨w.heap.size, 1, Option.none⟩ = some (.slice (some ⟨g, off, Option.none⟩) (n + 1) c) ∧ w'.cell? ⟨g, off, Option.none⟩ = some (.int .i64 x)) (go_keep) ((fail))
    go_wp2
    refine bodyPost_ret (v := .tuple #[.agg #[.int .i64 R, .slice (some ⟨g, off + 1, Option.none⟩) n (c - 1)], .int .i64 x, .int .i64 0]) (by simp [results, Try.results16, go_sem]) rfl ?_
    have hk : Keeps Nil w _ := (((Keeps.refl Nil w).alloc (.cells #[.int .i64 R, .slice (some ⟨g, off, Option.none⟩) (n + 1) c] 41)).alloc (.cells #[.int .i64 R, .slice (some ⟨g, off + 1, Option.none⟩) n (c - 1)] 41)).drew
    exact ⟨⟨_, _, _, rfl, HV.out.tail.keep hk (fun g _ _ h => h)⟩, hk⟩

set_option maxRecDepth 100000 in
set_option maxHeartbeats 1000000 in
theorem rpush_full (R : Int) (n c : Nat) (p : Option Addr) (x : Int) (w : World) (hR : R ≤ (n : Int)) :
    Calls Try.prog 18 #[.agg #[.int .i64 R, .slice p n c], .int .i64 x] w fun e w' => e = .returned (.tuple #[.agg #[.int .i64 R, .slice p n c], .int .i64 6]) ∧ Keeps Nil w w' := by
  go_enter Try.func18, Try.ntmps18
  go_wp2
  refine bodyPost_ret (v := .tuple #[.agg #[.int .i64 R, .slice p n c], .int .i64 6]) (by simp [results, Try.results18, go_sem]) rfl ?_
  exact ⟨rfl, ((Keeps.refl Nil w).alloc (.cells #[.int .i64 R, .slice p n c] 41)).alloc (.cells #[.int .i64 R, .slice p n c] 41)⟩

theorem append_none (p : Option Addr) (c : Nat) (W : World) : (Builtin.append_ #[39, 39] 39 #[.slice Option.none 0 0, .slice p 0 c]).run Try.prog W = .ok (.slice Option.none 0 0) W := by
  obtain ⟨i0, hi, hz0, hz1, hz2⟩ := info_parts Qi.info
  cases p <;> simp [Builtin.append_, run_underlying Try.underlying39, sizeOf, typeInfo, hi, Builtin.lenOf, Builtin.firstCells, loadCells, loadCellsFrom]

theorem step_append_run {P : Program} {ops : Array Oper} {o : Oper} {a : Act} {w w' : World} {K : Act → World → Prop} {Q : Exit → Act → World → Prop} {E : Prop} {v vs vx : Value} (s x : Operand) (t : TypeId) (hgd : o.guard = Option.none)
    (ho : o.op = .call { callee := .builtin .append, args := #[s, x], argTypes := #[t, t] }) (hs : a.eval s = vs) (hx : a.eval x = vx)
    (hr : (Builtin.append_ #[t, t] o.type #[vs, vx]).run P w = .ok v w') (h : K (a.put o.dst v) w') :
    if Region.wanted o (yielded ops a.tmps) = true then Oper.wp P o a w K Q else E := by
  have hw : Region.wanted o (yielded ops a.tmps) = true := by simp [Region.wanted, hgd]
  rw [if_pos hw]
  unfold Oper.wp execOp
  simp only [ho, resolve, invoke, builtin, Sem.run_bind, Sem.run_pure, Result.andThen_ok, List.map_toArray, List.map_cons, List.map_nil, hs, hx, hr]
  exact h

set_option maxRecDepth 100000 in
set_option maxHeartbeats 4000000 in
theorem rpush_none (R : Int) (B : Nat) (x : Int) (p : Option Addr) (c : Nat) (w : World) (hR : 0 < R) (hB : B ≤ w.heap.size) :
    Calls Try.prog 18 #[.agg #[.int .i64 R, .slice p 0 c], .int .i64 x] w fun e w' => QE R B (ints ([] ++ [x])) 0 e w' ∧ Keeps Nil w w' := by
  obtain ⟨i0, hi, hz0, hz1, hz2⟩ := info_parts Qi.info
  have HI := hid (And.intro hi (And.intro hz0 (And.intro hz1 hz2)))
  clear hi hz0 hz1 hz2
  have HAP := hid (append_none p c)
  go_enter Try.func18, Try.ntmps18
  go_wp2_with fail
  have hz2 : w.heap.size + 2 = ((w.alloc (.cells #[.int .i64 R, .slice p 0 c] 41)).alloc (.cells #[.int .i64 0, .slice Option.none 0 0] 41)).heap.size := by simp
  have hb0 : ((w.alloc (.cells #[.int .i64 R, .slice p 0 c] 41)).alloc (.cells #[.int .i64 0, .slice Option.none 0 0] 41)).heap[w.heap.size]? = some (.cells #[.int .i64 R, .slice p 0 c] 41 (0, 0)) := by
    rw [Below.heap_alloc _ _ _ (by simp)]; exact alloc_block _ _
  have hb1 : ((w.alloc (.cells #[.int .i64 R, .slice p 0 c] 41)).alloc (.cells #[.int .i64 0, .slice Option.none 0 0] 41)).heap[w.heap.size + 1]? = some (.cells #[.int .i64 0, .slice Option.none 0 0] 41 (0, 0)) := by
    have := alloc_block (w.alloc (.cells #[.int .i64 R, .slice p 0 c] 41)) (.cells #[.int .i64 0, .slice Option.none 0 0] 41)
    simpa using this
  have HB0 := hid hb0
  have HB1 := hid hb1
  have HZ2 := hid hz2
  have hkw : Keeps Nil w ((w.alloc (.cells #[.int .i64 R, .slice p 0 c] 41)).alloc (.cells #[.int .i64 0, .slice Option.none 0 0] 41)) := ((Keeps.refl _ _).alloc _).alloc _
  have HKW := hid hkw
  clear hz2 hb0 hb1 hkw
  generalize (w.alloc (.cells #[.int .i64 R, .slice p 0 c] 41)).alloc (.cells #[.int .i64 0, .slice Option.none 0 0] 41) = W2 at *
  obtain ⟨hc0, hc1⟩ := two_cells HB0.out
  go_region_held3 (fun w' => w'.cell? ⟨w.heap.size, 0, Option.none⟩ = some (.int .i64 R) ∧ w'.cell? ⟨w.heap.size, 1, Option.none⟩ = some (.slice p 0 c)) (first | go_keep | (go_split_ands; refine ⟨?_, ?_⟩ <;> assumption))
    ((first | (refine step_append_run (o := ⟨some 17, _, _, _, _, _⟩) _ _ 39 (by rfl) (by rfl) (by rfl) (by rfl) (HAP.out _) ?_) | (refine step_append_lies (o := ⟨some 20, _, _, _, _, _⟩) _ (by rfl) _ _ 39 (by rfl) (w.heap.size + 2) 3 i0 (.int .i64 0) 1 8 Try.underlying39 HI.out.1 HI.out.2.1 HI.out.2.2.1 HI.out.2.2.2 rfl (by decide) (.slice Option.none 0 0) 0 [] (by rfl) (World.ownsRow_nil _ _ _ _) ⟨W2.heap.size, 0, Option.none⟩ 1 1 [.int .i64 x] (by rfl) (by rfl) (World.news_of_block (cs := #[.int .i64 x]) (t := 3) (fr := (0, 0)) (heap_alloc_new W2 _)) (by simp [Value.oneCell']) (by decide) (by decide) (by decide) (Nat.le_trans (Nat.le_of_eq HZ2.out) (((Keeps.refl Nil W2).alloc _).size)) _ rfl ?_; intro g2 cap2 w2 own2 hgrow2 hat2 hlt2; have kw2 := hid (((((Keeps.refl Nil W2).alloc _).drew)).grown hgrow2 (fun k hk => by simp [Value.ownBlock] at hk)); obtain ⟨hc0, hc1⟩ := two_cells (kw2.out.lies HB0.out); obtain ⟨hd0, hd1⟩ := two_cells (kw2.out.lies HB1.out); obtain ⟨he0, he1⟩ := two_free (kw2.out.lies HB1.out))))
  all_goals go_wp2
  all_goals go_tidy
  all_goals (refine bodyPost_ret (v := .tuple #[.agg #[.int .i64 R, .slice (some ⟨g2, 0, Option.none⟩) (0 + 1) cap2], .int .i64 0]) (by simp [results, Try.results18, go_sem, hd0, hd1, he0, he1]) rfl ?_)
  all_goals exact push_close (l := []) (x := x) (n := 0) HZ2.out HKW.out kw2.out own2 hB
end Go.Proofs.Ytifplckiginijaa
