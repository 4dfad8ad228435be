/-
  The contracts of the reference of layer 6: May, Pop, Push. Conditions: the numbers lie in the slice's cells.
-/
import Derived.Test.YtifplckiginijaaQOpen
import Derived.Deep.RegionHeld3
import Derived.Deep.AppendLies
import Derived.Deep.DrawnRows
namespace Go.Proofs.Ytifplckiginijaa
open Go.RowKit Go.Conc
set_option linter.unusedVariables false
attribute [local go_sem ↓] Go.wp_at_zero Go.wp_at_succ

/-- A slice that reads as these cells (one each), in a block from B on. -/
def View (w : World) (B : Nat) (p : Option Addr) (n c : Nat) (xs : List Value) : Prop :=
  xs.length = n ∧ n ≤ c ∧ (0 < n → ∃ g off, p = some ⟨g, off, Option.none⟩ ∧ B ≤ g ∧ g < w.heap.size ∧ ∀ j u, xs[j]? = some u → w.cell? ⟨g, off + j, Option.none⟩ = some u)
theorem View.keep {S : Nat → Prop} {w w' : World} {B : Nat} {p : Option Addr} {n c : Nat} {xs : List Value} (h : View w B p n c xs) (k : Keeps S w w') (hS : ∀ g, B ≤ g → g < w.heap.size → ¬ S g) : View w' B p n c xs :=
  ⟨h.1, h.2.1, fun hn => by
    obtain ⟨g, off, e, hb, hl, hc⟩ := h.2.2 hn
    exact ⟨g, off, e, hb, Nat.lt_of_lt_of_le hl k.size, fun j u hu => by rw [k.cell (p := ⟨g, off + j, Option.none⟩) hl (hS g hb hl)]; exact hc j u hu⟩⟩
theorem View.mono {w : World} {B B' : Nat} {p : Option Addr} {n c : Nat} {xs : List Value} (h : View w B p n c xs) (hB : B' ≤ B) : View w B' p n c xs :=
  ⟨h.1, h.2.1, fun hn => by
    obtain ⟨g, off, e, hb, hl, hc⟩ := h.2.2 hn
    exact ⟨g, off, e, Nat.le_trans hB hb, hl, hc⟩⟩
theorem View.of_own {w : World} {B : Nat} {e : TypeId} {p : Option Addr} {n c : Nat} {xs : List Value} (h : w.ownsRow B e 1 (.slice p n c) n xs) : View w B p n c xs := by
  rcases ownsRow_read h with ⟨h1, rfl, rfl⟩ | ⟨g, cap, hv, hb, hl, hn, hx, hc⟩
  · injection h1 with h1 h2 h3
    subst h3
    exact ⟨rfl, Nat.le_refl _, fun h => by omega⟩
  · injection hv with h1 h2 h3
    subst h3
    exact ⟨hx, hn, fun _ => ⟨g, 0, h1, hb, hl, fun j u hu => by rw [Nat.zero_add]; exact hc j u hu⟩⟩
theorem View.tail {w : World} {B : Nat} {g off n c : Nat} {x : Value} {xs : List Value} (h : View w B (some ⟨g, off, Option.none⟩) (n + 1) c (x :: xs)) : View w B (some ⟨g, off + 1, Option.none⟩) n (c - 1) xs :=
  ⟨by have := h.1; simp at this; omega, by have := h.2.1; omega, fun _ => by
    obtain ⟨g', off', e, hb, hl, hc⟩ := h.2.2 (by omega)
    injection e with e; injection e with e1 e2; subst e1 e2
    exact ⟨_, _, rfl, hb, hl, fun j u hu => by rw [show off + 1 + j = off + (j + 1) from by omega]; exact hc (j + 1) u (by simpa using hu)⟩⟩

set_option maxHeartbeats 400000 in
theorem may_any (n : Int) (w : World) : Calls Try.prog 14 #[.int .i64 n] w fun e w' => e = .returned (.bool (decide (0 < n) && decide (n < 1025))) ∧ w = w' := by
  by_cases h0 : 0 < n
  · go_enter Try.func14, Try.ntmps14
    go_wp2
    go_ret
    exact ⟨by simp [h0], rfl⟩
  · go_enter Try.func14, Try.ntmps14
    go_wp2
    go_ret
    have h1 : decide (0 < n) = false := decide_eq_false (fun h => by omega)
    exact ⟨by rw [h1]; rfl, rfl⟩

theorem Keeps.lies {S : Nat → Prop} {w w' : World} (k : Keeps S w w') {b : Nat} {o : Obj} (h : w.heap[b]? = some o) (hs : ¬ S b := by exact fun h => h) : w'.heap[b]? = some o := (k.block b (lt_of_block h) hs).trans h
theorem two_cells {w : World} {b : Nat} {x y : Value} {t : TypeId} (h : w.heap[b]? = some (.cells #[x, y] t (0, 0))) : w.cell? ⟨b, 0, Option.none⟩ = some x ∧ w.cell? ⟨b, 1, Option.none⟩ = some y := by
  simp [World.cell?, h]
theorem two_free {w : World} {b : Nat} {x y : Value} {t : TypeId} (h : w.heap[b]? = some (.cells #[x, y] t (0, 0))) : w.frozen? ⟨b, 0, Option.none⟩ = false ∧ w.frozen? ⟨b, 1, Option.none⟩ = false := by
  simp [World.frozen?, h]

theorem news_kept {W w1 : World} {x : Value} {t : TypeId} (h : ((W.alloc (.cells #[x] t)).drew).grownBy w1 (Value.slice Option.none 0 0).ownBlock) :
    ∀ j u, ([x] : List Value)[j]? = some u → w1.cell? ((⟨W.heap.size, 0, Option.none⟩ : Addr).add j) = some u := by
  have hb : w1.heap[W.heap.size]? = some (.cells #[x] t (0, 0)) := by
    rw [h.block W.heap.size (by simp) (by simp [Value.ownBlock])]; exact alloc_block _ _
  exact World.news_of_block (cs := #[x]) (t := t) (fr := (0, 0)) hb

/-- A result that is a pair of a queue and an error. -/
def QE (R : Int) (B : Nat) (xs : List Value) (err : Int) (e : Ending) (w' : World) : Prop :=
  ∃ p n c, e = .returned (.tuple #[.agg #[.int .i64 R, .slice p n c], .int .i64 err]) ∧ View w' B p n c xs

theorem push_close {R x : Int} {B n g2 cap2 : Nat} {l : List Int} {w W2 w2 : World} {u v : Value} (hz : w.heap.size + 2 = W2.heap.size) (hk : Keeps Nil w W2) (k2 : Keeps Nil W2 w2)
    (ho : w2.ownsRow (w.heap.size + 2) 3 1 (.slice (some ⟨g2, 0, Option.none⟩) (n + 1) cap2) (n + 1) (ints l ++ [.int .i64 x])) (hB : B ≤ w.heap.size) :
    QE R B (ints (l ++ [x])) 0 (.returned (.tuple #[.agg #[.int .i64 R, .slice (some ⟨g2, 0, Option.none⟩) (n + 1) cap2], .int .i64 0])) ((w2.setCell ⟨w.heap.size + 1, 0, Option.none⟩ u).setCell ⟨w.heap.size + 1, 1, Option.none⟩ v) ∧
      Keeps Nil w ((w2.setCell ⟨w.heap.size + 1, 0, Option.none⟩ u).setCell ⟨w.heap.size + 1, 1, Option.none⟩ v) := by
  have k3 : Keeps (At (w.heap.size + 1)) w2 ((w2.setCell ⟨w.heap.size + 1, 0, Option.none⟩ u).setCell ⟨w.heap.size + 1, 1, Option.none⟩ v) :=
    ((Keeps.refl _ _).set _ 0 (at_self _) _).set _ 1 (at_self _) _
  have o3 := ownsRow_keep ho k3 (fun g hg h => by rw [At] at h; omega)
  refine ⟨⟨_, _, _, rfl, ?_⟩, (hk.trans k2).thenAt k3 (by omega)⟩
  have := (View.of_own o3).mono (B' := B) (by omega)
  simpa [ints] using this

set_option maxRecDepth 100000 in
set_option maxHeartbeats 4000000 in
theorem push_some {B0 : Nat} (R : Int) (B : Nat) (x : Int) (g off n c : Nat) (l : List Int) (w : World) (hv : View w B0 (some ⟨g, off, Option.none⟩) n c (ints l)) (hn : 0 < n) (hR : (n : Int) < R) (hB : B ≤ w.heap.size) (hm : n ≤ 100000) :
    Calls Try.prog 18 #[.agg #[.int .i64 R, .slice (some ⟨g, off, Option.none⟩) n c], .int .i64 x] w fun e w' => QE R B (ints (l ++ [x])) 0 e w' ∧ Keeps Nil w w' := by
  obtain ⟨i0, hi, hz0, hz1, hz2⟩ := info_parts Qi.info
  have HI := hid (And.intro hi (And.intro hz0 (And.intro hz1 hz2)))
  have HV := hid hv
  clear hi hz0 hz1 hz2 hv
  go_enter Try.func18, Try.ntmps18
  go_wp2_with fail
  have hnew : ∀ (W : World), Keeps Nil w W → ∀ j u, (ints l)[j]? = some u → W.cell? ((⟨g, off, Option.none⟩ : Addr).add j) = some u := by
    intro W hW j u hu
    obtain ⟨g', off', e, hb, hlg, hc⟩ := HV.out.2.2 hn
    injection e with e; injection e with e1 e2; subst e1 e2
    rw [add_plain', hW.cell (p := ⟨g, off + j, Option.none⟩) hlg (fun h => h)]; exact hc j u hu
  have HN := hid hnew
  have hone : Hid (∀ u ∈ ints l, u.oneCell' = true) := by
    intro u hu; simp only [ints, List.mem_map] at hu; obtain ⟨a, _, rfl⟩ := hu; rfl
  clear hnew
  have hll : Hid ((ints l).length = n * 1) := by rw [HV.out.1, Nat.mul_one]; rfl
  have hz2 : w.heap.size + 2 = ((w.alloc (.cells #[.int .i64 R, .slice (some ⟨g, off, Option.none⟩) n c] 41)).alloc (.cells #[.int .i64 0, .slice Option.none 0 0] 41)).heap.size := by simp
  have hb0 : ((w.alloc (.cells #[.int .i64 R, .slice (some ⟨g, off, Option.none⟩) n c] 41)).alloc (.cells #[.int .i64 0, .slice Option.none 0 0] 41)).heap[w.heap.size]? = some (.cells #[.int .i64 R, .slice (some ⟨g, off, Option.none⟩) n c] 41 (0, 0)) := by
    rw [Below.heap_alloc _ _ _ (by simp)]; exact alloc_block _ _
  have hb1 : ((w.alloc (.cells #[.int .i64 R, .slice (some ⟨g, off, Option.none⟩) n c] 41)).alloc (.cells #[.int .i64 0, .slice Option.none 0 0] 41)).heap[w.heap.size + 1]? = some (.cells #[.int .i64 0, .slice Option.none 0 0] 41 (0, 0)) := by
    have := alloc_block (w.alloc (.cells #[.int .i64 R, .slice (some ⟨g, off, Option.none⟩) n c] 41)) (.cells #[.int .i64 0, .slice Option.none 0 0] 41)
    simpa using this
  have HB0 := hid hb0
  have HB1 := hid hb1
  have HZ2 := hid hz2
  have hkw : Keeps Nil w ((w.alloc (.cells #[.int .i64 R, .slice (some ⟨g, off, Option.none⟩) n c] 41)).alloc (.cells #[.int .i64 0, .slice Option.none 0 0] 41)) := ((Keeps.refl _ _).alloc _).alloc _
  have HKW := hid hkw
  clear hz2 hb0 hb1 hkw
  generalize (w.alloc (.cells #[.int .i64 R, .slice (some ⟨g, off, Option.none⟩) n c] 41)).alloc (.cells #[.int .i64 0, .slice Option.none 0 0] 41) = W2 at *
  have hc0 := two_cells HB0.out
  obtain ⟨hc0, hc1⟩ := hc0
  go_region_held3 (fun w' => w'.cell? ⟨w.heap.size, 0, Option.none⟩ = some (.int .i64 R) ∧ w'.cell? ⟨w.heap.size, 1, Option.none⟩ = some (.slice (some ⟨g, off, Option.none⟩) n c)) (first | go_keep | (go_split_ands; refine ⟨?_, ?_⟩ <;> assumption))
    ((first
      | (refine step_append_lies _ (by rfl) _ _ 39 (by rfl) (w.heap.size + 2) 3 i0 (.int .i64 0) 1 8 Try.underlying39 HI.out.1 HI.out.2.1 HI.out.2.2.1 HI.out.2.2.2 rfl (by decide) (.slice Option.none 0 0) 0 [] (by rfl) (World.ownsRow_nil _ _ _ _) ⟨g, off, Option.none⟩ n c (ints l) (by rfl) hll.out (HN.out _ (HKW.out.drew)) hone.out hn (by unfold maxLen; omega) (by omega) (Nat.le_of_eq HZ2.out) _ rfl ?_; intro g1 cap1 w1 own1 hgrow1 hat1 hlt1; simp only [Nat.zero_add, List.nil_append] at own1; have kw1 := hid (((Keeps.refl Nil W2).drew).grown hgrow1 (fun k hk => by simp [Value.ownBlock] at hk)); obtain ⟨hc0, hc1⟩ := two_cells (kw1.out.lies HB0.out))
      | (refine step_append_lies _ (by rfl) _ _ 39 (by rfl) (w.heap.size + 2) 3 i0 (.int .i64 0) 1 8 Try.underlying39 HI.out.1 HI.out.2.1 HI.out.2.2.1 HI.out.2.2.2 rfl (by decide) (.slice Option.none 0 0) 0 [] (by rfl) (World.ownsRow_nil _ _ _ _) ⟨g, off, Option.none⟩ n c (ints l) (by rfl) hll.out (HN.out _ ((HKW.out.alloc _).drew)) hone.out hn (by unfold maxLen; omega) (by omega) (Nat.le_trans (Nat.le_of_eq HZ2.out) (((Keeps.refl Nil W2).alloc _).size)) _ rfl ?_; intro g1 cap1 w1 own1 hgrow1 hat1 hlt1; have kw1 := hid (((((Keeps.refl Nil W2).alloc _).drew)).grown hgrow1 (fun k hk => by simp [Value.ownBlock] at hk)); obtain ⟨hc0, hc1⟩ := two_cells (kw1.out.lies HB0.out))
      | (have _g : W2.drew.grownBy w1 _ := hgrow1; refine step_append_lies _ (by rfl) _ _ 39 (by rfl) (w.heap.size + 2) 3 i0 (.int .i64 0) 1 8 Try.underlying39 HI.out.1 HI.out.2.1 HI.out.2.2.1 HI.out.2.2.2 rfl (by decide) _ _ _ (by rfl) (own1.alloc _) ⟨w1.heap.size, 0, Option.none⟩ 1 1 [.int .i64 x] (by rfl) (by rfl) (World.news_of_block (cs := #[.int .i64 x]) (t := 3) (fr := (0, 0)) (heap_alloc_new w1 _)) (by simp [Value.oneCell']) (by decide) (by unfold maxLen; omega) (by omega) (Nat.le_trans (Nat.le_of_eq HZ2.out) (kw1.out.alloc _).size) _ rfl ?_; intro g2 cap2 w2 own2 hgrow2 hat2 hlt2; have kw2 := hid ((kw1.out.alloc _).grown hgrow2 (fun k hk hlt => by have := (own1.lt k hk).1; have := HZ2.out; omega)); obtain ⟨hc0, hc1⟩ := two_cells (kw2.out.lies HB0.out); obtain ⟨hd0, hd1⟩ := two_cells (kw2.out.lies HB1.out); obtain ⟨he0, he1⟩ := two_free (kw2.out.lies HB1.out))
      | (have _g : (W2.alloc _).drew.grownBy w1 _ := hgrow1; have hnx := news_kept hgrow1; refine step_append_lies _ (by rfl) _ _ 39 (by rfl) (w.heap.size + 2) 3 i0 (.int .i64 0) 1 8 Try.underlying39 HI.out.1 HI.out.2.1 HI.out.2.2.1 HI.out.2.2.2 rfl (by decide) _ _ _ (by rfl) own1 ⟨W2.heap.size, 0, Option.none⟩ 1 1 [.int .i64 x] (by rfl) (by rfl) hnx (by simp [Value.oneCell']) (by decide) (by unfold maxLen; omega) (by omega) (Nat.le_trans (Nat.le_of_eq HZ2.out) kw1.out.size) _ rfl ?_; intro g2 cap2 w2 own2 hgrow2 hat2 hlt2; have kw2 := hid (kw1.out.grown hgrow2 (fun k hk hlt => by have := (own1.lt k hk).1; have := HZ2.out; omega)); obtain ⟨hc0, hc1⟩ := two_cells (kw2.out.lies HB0.out); obtain ⟨hd0, hd1⟩ := two_cells (kw2.out.lies HB1.out); obtain ⟨he0, he1⟩ := two_free (kw2.out.lies HB1.out))))
  all_goals go_wp2
  all_goals go_tidy
  all_goals (refine bodyPost_ret (v := .tuple #[.agg #[.int .i64 R, .slice (some ⟨g2, 0, Option.none⟩) (n + 1) cap2], .int .i64 0]) (by simp [results, Try.results18, go_sem, hd0, hd1, he0, he1]) rfl ?_)
  all_goals exact push_close HZ2.out HKW.out kw2.out (by simpa using own2) hB
end Go.Proofs.Ytifplckiginijaa
