/-
  Graphs: a way along the tree (graph.way). Conditions: the graph may be; the rows lie so; a walk that does not turn back comes to an end.
-/
import Derived.Test.YthnkeppkhdceoaaTree
namespace Go.Proofs.Ythnkeppkhdceoaa
open Go.RowKit Go.Shelf
set_option linter.unusedVariables false
set_option linter.unusedSimpArgs false
attribute [local go_sem] Oper.semAt_some

/-- A bridge on a way. -/
structure Hp where
  b : Int
  i : Int
  o : Int
abbrev hcells (x : Hp) : List Value := [.int .i64 x.b, .int .i64 x.i, .int .i64 x.o]
def flatH (l : List Hp) : List Value := l.flatMap hcells
theorem flatH_len (l : List Hp) : (flatH l).length = l.length * 3 := by
  induction l with
  | nil => rfl
  | cons x l ih => rw [show flatH (x :: l) = hcells x ++ flatH l from rfl, List.length_append, ih, List.length_cons]; simp; omega
/-- A walk along the links that are asked for, which does not turn back. -/
inductive Wk (S : List Sd) (In : Nat → Bool) (t : Int) : Int → Int → List Hp → Prop
  | nil (p : Int) : Wk S In t t p [⟨t, p, -1⟩]
  | cons (s : Sd) (p : Int) (l : List Hp) : s ∈ S → In s.k.toNat = true → s.n.p ≠ p → s.n.b ≠ t → Wk S In t s.f.b s.f.p l → Wk S In t s.n.b p (⟨s.n.b, p, s.n.p⟩ :: l)
theorem info45 : (Try.prog.info? 45).map (fun i => (i.zero, i.size, i.bytes)) = some (some (.agg #[.int .i64 0, .int .i64 0, .int .i64 0]), 3, 24) := by kernel_rfl
theorem own_new {w : World} {g e sz n : Nat} {cs : Array Value} (h : w.heap[g]? = some (.cells cs e (0, 0))) (hs : cs.size = n * sz) (hn : n ≤ maxLen) : w.ownsRow g e sz (.slice (some ⟨g, 0, Option.none⟩) n n) n cs.toList :=
  ⟨by simpa using hs, .inr ⟨g, n, cs, rfl, Nat.le_refl _, h, Nat.le_refl _, hn, hs, by rw [List.take_of_length_le (by simp [hs])]⟩⟩

theorem side_rev {L : List Lk} : ∀ {j : Nat} {s : Sd}, s ∈ sidesFrom j L → (⟨s.k, s.f, s.n⟩ : Sd) ∈ sidesFrom j L := by
  induction L with
  | nil => intro j s h; simp [sidesFrom] at h
  | cons l L ih =>
    intro j s h
    rcases List.mem_append.1 h with h | h
    · refine List.mem_append.2 (.inl ?_)
      unfold sdk at h ⊢
      split at h
      · rename_i hon
        rw [if_pos hon]
        simp at h
        rcases h with rfl | rfl <;> simp
      · simp at h
    · exact List.mem_append.2 (.inr (ih h))
theorem ret41 (tmps : Array Value) (W : World) (b : Nat) (q : Option Addr) (n c : Nat) (hp : tmps.getD 10 undef = .pointer (some ⟨b, 0, Option.none⟩)) (hc : W.cell? ⟨b, 0, Option.none⟩ = some (.slice q n c)) : (results Try.f21 tmps).run Try.prog W = .ok (.slice q n c) W := by
  have hp' : tmps[10]?.getD undef = .pointer (some ⟨b, 0, Option.none⟩) := by simpa using hp
  simp [results, Try.results21, go_sem, hp', hc]
set_option maxRecDepth 100000 in
set_option maxHeartbeats 8000000 in
theorem way_any {ids : List Int} {n nl cl gI : Nat} {pl : Option Addr} {L : List Lk} (iv : Value) (In : Nat → Bool) (mu : Int → Int → Nat) (t : Int) (hnl : L.length = nl) (hl : nl ≤ 50) (hok : GOk ids n (sidesOf L))
    (hmu : ∀ s ∈ sidesOf L, In s.k.toNat = true → ∀ p, s.n.p ≠ p → mu s.f.b s.f.p < mu s.n.b p) :
    ∀ (m : Nat) (a p : Int) (w : World), mu a p ≤ m → m ≤ 100000000 → LSl w.heap.size w pl cl L → w.heap[gI]? = some (.cells ((List.range nl).map (fun k => Value.bool (In k))).toArray 4 (0, 0)) →
    Calls Try.prog 21 #[.agg #[iv, .slice pl nl cl], .slice (some ⟨gI, 0, Option.none⟩) nl nl, .int .i64 a, .int .i64 p, .int .i64 t] w fun e w' => ∃ v l, e = .returned v ∧ w'.ownsRow w.heap.size 45 3 v l.length (flatH l) ∧ Keeps Nil w w' ∧ (l ≠ [] ∧ l.length ≤ m + 1 ∧ Wk (sidesOf L) In t a p l ∨ l = [] ∧ ∀ l', ¬ Wk (sidesOf L) In t a p l') := by
  intro m
  induction m using Nat.strongRecOn with
  | _ m ih =>
  intro a p w hm hm8 hL hI
  have IH := hid ih
  clear ih
  refine (callsIn_wide (n := 9)).1 ?_
  refine callsIn_of_wp_marks Try.func21 rfl trivial ?_ rfl
  simp only [Try.ntmps21, List.size_toArray, List.length_cons, List.length_nil, Nat.reduceAdd, Nat.reduceSub, Array.replicate_succ, Array.replicate_zero, List.push_toArray, List.append_toArray, List.nil_append, List.cons_append]
  by_cases hat : a = t
  · subst hat
    gi_wp2
    refine (show LeavesInM Fence.wide 9 Try.prog Try.f21 _ _ [] .returning _ from ?_)
    have hB : (((((((w.alloc (.cells #[iv, .slice pl nl cl] 51 (0, 0))).alloc (.cells #[.slice (some ⟨gI, 0, Option.none⟩) nl nl] 27 (0, 0))).alloc (.cells #[.int .i64 a] 3 (0, 0))).alloc (.cells #[.int .i64 p] 3 (0, 0))).alloc (.cells #[.int .i64 a] 3 (0, 0))).alloc (.cells #[.slice (some ⟨(w.heap.size + 1 + 1 + 1 + 1 + 1 + 1), 0, Option.none⟩) 1 1] 41 (0, 0))).alloc (.cells #[.int .i64 a, .int .i64 p, .int .i64 (-1)] 45 (0, 0))).heap[(w.heap.size + 1 + 1 + 1 + 1 + 1)]? = some (.cells #[.slice (some ⟨(w.heap.size + 1 + 1 + 1 + 1 + 1 + 1), 0, Option.none⟩) 1 1] 41 (0, 0)) := by
      refine alloc_other ?_ _
      have := alloc_block (((((w.alloc (.cells #[iv, .slice pl nl cl] 51 (0, 0))).alloc (.cells #[.slice (some ⟨gI, 0, Option.none⟩) nl nl] 27 (0, 0))).alloc (.cells #[.int .i64 a] 3 (0, 0))).alloc (.cells #[.int .i64 p] 3 (0, 0))).alloc (.cells #[.int .i64 a] 3 (0, 0))) (.cells #[.slice (some ⟨(w.heap.size + 1 + 1 + 1 + 1 + 1 + 1), 0, Option.none⟩) 1 1] 41 (0, 0))
      simpa only [World.size_alloc] using this
    have hR : (((((((w.alloc (.cells #[iv, .slice pl nl cl] 51 (0, 0))).alloc (.cells #[.slice (some ⟨gI, 0, Option.none⟩) nl nl] 27 (0, 0))).alloc (.cells #[.int .i64 a] 3 (0, 0))).alloc (.cells #[.int .i64 p] 3 (0, 0))).alloc (.cells #[.int .i64 a] 3 (0, 0))).alloc (.cells #[.slice (some ⟨(w.heap.size + 1 + 1 + 1 + 1 + 1 + 1), 0, Option.none⟩) 1 1] 41 (0, 0))).alloc (.cells #[.int .i64 a, .int .i64 p, .int .i64 (-1)] 45 (0, 0))).heap[(w.heap.size + 1 + 1 + 1 + 1 + 1 + 1)]? = some (.cells #[.int .i64 a, .int .i64 p, .int .i64 (-1)] 45 (0, 0)) := by
      have := alloc_block ((((((w.alloc (.cells #[iv, .slice pl nl cl] 51 (0, 0))).alloc (.cells #[.slice (some ⟨gI, 0, Option.none⟩) nl nl] 27 (0, 0))).alloc (.cells #[.int .i64 a] 3 (0, 0))).alloc (.cells #[.int .i64 p] 3 (0, 0))).alloc (.cells #[.int .i64 a] 3 (0, 0))).alloc (.cells #[.slice (some ⟨(w.heap.size + 1 + 1 + 1 + 1 + 1 + 1), 0, Option.none⟩) 1 1] 41 (0, 0))) (.cells #[.int .i64 a, .int .i64 p, .int .i64 (-1)] 45 (0, 0))
      simpa only [World.size_alloc] using this
    have kA : Keeps Nil w (((((((w.alloc (.cells #[iv, .slice pl nl cl] 51 (0, 0))).alloc (.cells #[.slice (some ⟨gI, 0, Option.none⟩) nl nl] 27 (0, 0))).alloc (.cells #[.int .i64 a] 3 (0, 0))).alloc (.cells #[.int .i64 p] 3 (0, 0))).alloc (.cells #[.int .i64 a] 3 (0, 0))).alloc (.cells #[.slice (some ⟨(w.heap.size + 1 + 1 + 1 + 1 + 1 + 1), 0, Option.none⟩) 1 1] 41 (0, 0))).alloc (.cells #[.int .i64 a, .int .i64 p, .int .i64 (-1)] 45 (0, 0))) := (((((((Keeps.refl Nil w).alloc _).alloc _).alloc _).alloc _).alloc _).alloc _).alloc _
    exact ⟨_, ret41 _ _ (w.heap.size + 1 + 1 + 1 + 1 + 1) _ _ _ rfl (cellOf hB rfl), _, [⟨a, p, -1⟩], rfl, own_mono (own_new (n := 1) hR rfl (by decide)) (by omega), kA, .inl ⟨by simp, by simp, .nil p⟩⟩
  · have hat' : (a == t) = false := by simp [hat]
    gi_wp2_with (refine ⟨trivial, ?_⟩; gi_at_call 25; refine (sides_in Fence.wide _ trivial rfl _ _ _).mono ?_; rintro e w' ⟨rfl, rfl⟩)
    obtain ⟨W2, hW2⟩ : ∃ W2, (((((((w.alloc (.cells #[iv, .slice pl nl cl] 51 (0, 0))).alloc (.cells #[.slice (some ⟨gI, 0, Option.none⟩) nl nl] 27 (0, 0))).alloc (.cells #[.int .i64 a] 3 (0, 0))).alloc (.cells #[.int .i64 p] 3 (0, 0))).alloc (.cells #[.int .i64 t] 3 (0, 0))).alloc (.cells #[.slice Option.none 0 0] 41 (0, 0))).alloc (.cells #[iv, .slice pl nl cl] 51 (0, 0))) = W2 := ⟨_, rfl⟩
    have hb0 : W2.heap[w.heap.size]? = some (.cells #[iv, .slice pl nl cl] 51 (0, 0)) := by
      rw [← hW2]
      refine alloc_other (alloc_other (alloc_other (alloc_other (alloc_other (alloc_other ?_ _) _) _) _) _) _
      have := alloc_block w (.cells #[iv, .slice pl nl cl] 51 (0, 0))
      simpa only [World.size_alloc] using this
    have hb1 : W2.heap[(w.heap.size + 1)]? = some (.cells #[.slice (some ⟨gI, 0, Option.none⟩) nl nl] 27 (0, 0)) := by
      rw [← hW2]
      refine alloc_other (alloc_other (alloc_other (alloc_other (alloc_other ?_ _) _) _) _) _
      have := alloc_block (w.alloc (.cells #[iv, .slice pl nl cl] 51 (0, 0))) (.cells #[.slice (some ⟨gI, 0, Option.none⟩) nl nl] 27 (0, 0))
      simpa only [World.size_alloc] using this
    have hb2 : W2.heap[(w.heap.size + 1 + 1)]? = some (.cells #[.int .i64 a] 3 (0, 0)) := by
      rw [← hW2]
      refine alloc_other (alloc_other (alloc_other (alloc_other ?_ _) _) _) _
      have := alloc_block ((w.alloc (.cells #[iv, .slice pl nl cl] 51 (0, 0))).alloc (.cells #[.slice (some ⟨gI, 0, Option.none⟩) nl nl] 27 (0, 0))) (.cells #[.int .i64 a] 3 (0, 0))
      simpa only [World.size_alloc] using this
    have hb3 : W2.heap[(w.heap.size + 1 + 1 + 1)]? = some (.cells #[.int .i64 p] 3 (0, 0)) := by
      rw [← hW2]
      refine alloc_other (alloc_other (alloc_other ?_ _) _) _
      have := alloc_block (((w.alloc (.cells #[iv, .slice pl nl cl] 51 (0, 0))).alloc (.cells #[.slice (some ⟨gI, 0, Option.none⟩) nl nl] 27 (0, 0))).alloc (.cells #[.int .i64 a] 3 (0, 0))) (.cells #[.int .i64 p] 3 (0, 0))
      simpa only [World.size_alloc] using this
    have hb4 : W2.heap[(w.heap.size + 1 + 1 + 1 + 1)]? = some (.cells #[.int .i64 t] 3 (0, 0)) := by
      rw [← hW2]
      refine alloc_other (alloc_other ?_ _) _
      have := alloc_block ((((w.alloc (.cells #[iv, .slice pl nl cl] 51 (0, 0))).alloc (.cells #[.slice (some ⟨gI, 0, Option.none⟩) nl nl] 27 (0, 0))).alloc (.cells #[.int .i64 a] 3 (0, 0))).alloc (.cells #[.int .i64 p] 3 (0, 0))) (.cells #[.int .i64 t] 3 (0, 0))
      simpa only [World.size_alloc] using this
    have hb5 : W2.heap[(w.heap.size + 1 + 1 + 1 + 1 + 1)]? = some (.cells #[.slice Option.none 0 0] 41 (0, 0)) := by
      rw [← hW2]
      refine alloc_other ?_ _
      have := alloc_block (((((w.alloc (.cells #[iv, .slice pl nl cl] 51 (0, 0))).alloc (.cells #[.slice (some ⟨gI, 0, Option.none⟩) nl nl] 27 (0, 0))).alloc (.cells #[.int .i64 a] 3 (0, 0))).alloc (.cells #[.int .i64 p] 3 (0, 0))).alloc (.cells #[.int .i64 t] 3 (0, 0))) (.cells #[.slice Option.none 0 0] 41 (0, 0))
      simpa only [World.size_alloc] using this
    have hb6 : W2.heap[(w.heap.size + 1 + 1 + 1 + 1 + 1 + 1)]? = some (.cells #[iv, .slice pl nl cl] 51 (0, 0)) := by
      rw [← hW2]
      skip
      have := alloc_block ((((((w.alloc (.cells #[iv, .slice pl nl cl] 51 (0, 0))).alloc (.cells #[.slice (some ⟨gI, 0, Option.none⟩) nl nl] 27 (0, 0))).alloc (.cells #[.int .i64 a] 3 (0, 0))).alloc (.cells #[.int .i64 p] 3 (0, 0))).alloc (.cells #[.int .i64 t] 3 (0, 0))).alloc (.cells #[.slice Option.none 0 0] 41 (0, 0))) (.cells #[iv, .slice pl nl cl] 51 (0, 0))
      simpa only [World.size_alloc] using this
    have k2 : Keeps Nil w W2 := by rw [← hW2]; exact (((((((Keeps.refl Nil w).alloc _).alloc _).alloc _).alloc _).alloc _).alloc _).alloc _
    have hsz : (w.heap.size + 1 + 1 + 1 + 1 + 1 + 1 + 1) ≤ W2.heap.size := by rw [← hW2]; simp
    rw [hW2]
    clear hW2
    have hgI : gI < w.heap.size := lt_of_block hI
    obtain ⟨i0, hi, hz0, hz1, hz2⟩ := info_parts info45
    have hn0 : w.heap.size ≤ W2.heap.size := by omega
    have hcl := cellOf (i := 1) (v := .slice pl L.length cl) hb6 (by rw [hnl]; rfl)
    refine wpIn_rangeFunc_ownH rfl (by omega) (gf := 30) (lb := #[.pointer (some ⟨(w.heap.size + 1 + 1 + 1 + 1 + 1 + 1), 0, Option.none⟩)]) rfl trivial (enters_of Try.func30 (by kernel_rfl) rfl)
      (sides_stops Fence.wide _ trivial rfl (by omega) (w.heap.size + 1 + 1 + 1 + 1 + 1 + 1) w.heap.size cl pl L (by omega) W2 (by omega) hn0 hcl (hL.below (k2.below (fun _ _ e => e)) (Nat.le_refl _)))
      (fun h k => h.trans k) (K61.put hn0) (Below.refl _ _) (fun _ => rfl)
      (fun pre X => (∀ s ∈ pre.unattach, In s.k.toNat = true → s.n.b = a → s.n.p ≠ p → ∀ l', ¬ Wk (sidesOf L) In t s.f.b s.f.p l') ∧ Keeps Nil W2 X)
      (fun c pre X => c = .ret ∧ ∃ q k c' l, Boxed X (w.heap.size + 1 + 1 + 1 + 1 + 1) 41 (.slice q k c') ∧ X.ownsRow w.heap.size 45 3 (.slice q k c') l.length (flatH l) ∧ (l ≠ [] ∧ l.length ≤ m + 1 ∧ Wk (sidesOf L) In t a p l) ∧ Keeps (At (w.heap.size + 1 + 1 + 1 + 1 + 1)) W2 X)
      ?hI ?hIx ⟨fun s hs => by simp at hs, Keeps.refl _ _⟩
      (fun x a' X => ∃ Bx, W2.heap.size ≤ Bx ∧ X.heap[Bx]? = some (.cells #[.int .i64 x.1.k, .int .i64 x.1.n.b, .int .u8 x.1.n.p, .int .u32 x.1.n.c, .int .i64 x.1.f.b, .int .u8 x.1.f.p, .int .u32 x.1.f.c] 86 (0, 0)) ∧ a' = { tmps := #[(.agg #[iv, .slice pl nl cl]), (.slice (some ⟨gI, 0, Option.none⟩) nl nl), (.int .i64 a), (.int .i64 p), (.int .i64 t), (.pointer (some ⟨w.heap.size, 0, Option.none⟩)), (.pointer (some ⟨(w.heap.size + 1), 0, Option.none⟩)), (.pointer (some ⟨(w.heap.size + 1 + 1), 0, Option.none⟩)), (.pointer (some ⟨(w.heap.size + 1 + 1 + 1), 0, Option.none⟩)), (.pointer (some ⟨(w.heap.size + 1 + 1 + 1 + 1), 0, Option.none⟩)), (.pointer (some ⟨(w.heap.size + 1 + 1 + 1 + 1 + 1), 0, Option.none⟩)), (.pointer (some ⟨Bx, 0, Option.none⟩)), undef, (.int .i64 a), (.int .i64 t), (.bool false), undef, undef, undef, undef, (.agg #[iv, .slice pl nl cl]), (.func (.func 30) #[] #[.pointer (some ⟨(w.heap.size + 1 + 1 + 1 + 1 + 1 + 1), 0, Option.none⟩)]), (sdv x.1), undef, undef, undef, undef, undef, undef, undef, undef, undef, undef, undef, undef, undef, undef, undef, undef, undef, undef, undef, undef, undef, undef, undef, undef, undef, undef, undef, undef, undef, undef, undef, undef, undef, undef, undef, undef, undef, undef, undef, undef, undef, undef, undef, undef, undef], defers := [] })
      ?hAx ?assign ?body ?done ?stop
    case hI =>
      exact OwnFrom.and (fun s X Y row hs _ _ => hs) (fun s => OwnFrom.keeps (Nat.le_refl _) ())
    case hIx =>
      intro c s X Y row ⟨hc, q, k, c', l, hbx, hown, hpl, hkk⟩ hg hr
      refine ⟨hc, q, k, c', l, (hg.block _ hbx.lt (fun e => ?_)).trans hbx, own_apartV (X := fun k => some k = row) hown ⟨hg.os, hg.tape, hg.output, hg.size, fun k hk h => hg.block k hk h⟩ (fun g hgb e => ?_), hpl, OwnFrom.keeps (B := W2.heap.size) (Nat.le_refl _) () X Y row hkk hg hr⟩
      · obtain ⟨_, o, ho, hc⟩ := hr _ e.symm
        rw [show X.heap[(w.heap.size + 1 + 1 + 1 + 1 + 1)]? = _ from hbx] at ho; cases ho; cases hc
      · obtain ⟨_, o, ho, hc⟩ := hr _ e.symm
        obtain ⟨_, cs, hcs⟩ := own_block hown hgb
        rw [hcs] at ho; cases ho; cases hc
    case hAx =>
      intro x a' s X Y row ⟨Bx, h1, h2, h3⟩ hg hr
      refine ⟨Bx, h1, (hg.block Bx (lt_of_block h2) (fun e => ?_)).trans h2, h3⟩
      obtain ⟨_, o, ho, hc⟩ := hr Bx e.symm
      rw [h2] at ho; cases ho; cases hc
    case assign =>
      rintro l pre x X K hi hK
      gi_wp2
      exact hK _ _ ((KeepsOthers.alloc _ _).from _) ((K61.refl _ _).alloc (by have := hi.2.size; omega) _) ⟨hi.1, hi.2.alloc _⟩
        ⟨X.heap.size, hi.2.size, alloc_block X _, rfl⟩
    case body =>
      rintro l pre x a' X hl0 hr0 ⟨hpre, hkX⟩ ⟨Bx, hBx, hbx, rfl⟩ hlt
      have hsx := hok.side x.1 x.2
      obtain ⟨kk, lk, hlk, hkk, _⟩ := side_link (j := 0) x.2
      rw [Nat.zero_add] at hkk
      have hkl : kk < nl := by have := (List.getElem?_eq_some_iff.1 hlk).1; omega
      have hmux := hmu x.1 x.2
      have HSN := hid (show (pre ++ [x]).unattach = pre.unattach ++ [x.1] by rw [List.unattach_append]; rfl)
      have kXw : Keeps Nil w X := k2.trans hkX
      have hIX : X.heap[gI]? = some (.cells ((List.range nl).map (fun k => Value.bool (In k))).toArray 4 (0, 0)) := (kXw.block _ hgI (fun e => e)).trans hI
      have eIn : X.cell? ⟨gI, kk, Option.none⟩ = some (.bool (In kk)) := cellOf hIX (by simp [hkl])
      have kb : ∀ (b : Nat) (o : Obj), W2.heap[b]? = some o → X.heap[b]? = some o := fun b o h => (hkX.block b (lt_of_block h) (fun e => e)).trans h
      have e0 := cellOf (i := 0) (v := iv) (kb _ _ hb0) rfl
      have e0' := cellOf (i := 1) (v := .slice pl nl cl) (kb _ _ hb0) rfl
      have e1 := cellOf (i := 0) (v := .slice (some ⟨gI, 0, Option.none⟩) nl nl) (kb _ _ hb1) rfl
      have e2 := cellOf (i := 0) (v := .int .i64 a) (kb _ _ hb2) rfl
      have e3 := cellOf (i := 0) (v := .int .i64 p) (kb _ _ hb3) rfl
      have e4 := cellOf (i := 0) (v := .int .i64 t) (kb _ _ hb4) rfl
      have HB5 := hid (kb _ _ hb5)
      have hLX : LSl X.heap.size X pl cl L := (hL.below (kXw.below (fun _ _ e => e)) (Nat.le_refl _)).mono kXw.size
      have hXS : (w.heap.size + 1 + 1 + 1 + 1 + 1 + 1 + 1) ≤ X.heap.size := Nat.le_trans hsz hkX.size
      have HKX := hid hkX
      have HPRE := hid hpre
      have HLX := hid hLX
      have HIX := hid hIX
      have HMX := hid hmux
      have HSM := hid x.2
      obtain ⟨⟨sk, ⟨nb, np, nc⟩, ⟨fb, fp, fc⟩⟩, hsmem⟩ := x
      dsimp only at *
      subst hkk
      have hq : 0 ≤ np ∧ np < 8 := hsx.2.2.2.1
      have hwr : IntKind.i64.wrap np = np := by rw [IntKind.wrap_i64]; omega
      have g0 := cellOf (i := 0) (v := .int .i64 (kk : Int)) hbx rfl
      have g1 := cellOf (i := 1) (v := .int .i64 nb) hbx rfl
      have g2 := cellOf (i := 2) (v := .int .u8 np) hbx rfl
      have g4 := cellOf (i := 4) (v := .int .i64 fb) hbx rfl
      have g5 := cellOf (i := 5) (v := .int .u8 fp) hbx rfl
      have hBxl : Bx < X.heap.size := lt_of_block hbx
      have KX := hid (Keeps.refl Nil X)
      have KF := hid (show ∀ B, KeepsFrom B X X from fun B => KeepsFrom.refl _ _)
      clear hbx hIX hkX hpre hLX hmux kXw hlk
      cases hIn : In kk with
      | false =>
        rw [hIn] at eIn
        gi_wp2
        refine ⟨KF.out _, K61.nil KX.out (by omega), ⟨fun s hs => ?_, HKX.out.trans KX.out⟩⟩
        rw [HSN.out] at hs
        rcases List.mem_append.1 hs with h | h
        · exact HPRE.out s h
        · simp at h; subst h
          dsimp only
          intro h1 h2 h3
          simp [hIn] at h1
      | true =>
        rw [hIn] at eIn
        by_cases hnb : nb = a
        · subst hnb
          by_cases hnp : np = p
          · subst hnp
            gi_wp2
            refine ⟨KF.out _, K61.nil KX.out (by omega), ⟨fun s hs => ?_, HKX.out.trans KX.out⟩⟩
            rw [HSN.out] at hs
            rcases List.mem_append.1 hs with h | h
            · exact HPRE.out s h
            · simp at h; subst h
              dsimp only
              intro h1 h2 h3
              exact absurd rfl h3
          · have hnp' : (np == p) = false := by simp [hnp]
            have hlt2 := HMX.out (by simpa using hIn) p hnp
            have hfp : 0 ≤ fp ∧ fp < 8 := (hok.side _ (side_rev HSM.out)).2.2.2.1
            have hwf : IntKind.i64.wrap fp = fp := by rw [IntKind.wrap_i64]; omega
            have REC := hid (IH.out (mu fb fp) (by omega) fb fp X (Nat.le_refl _) (by omega) HLX.out HIX.out)
            gi_wp2
            refine ⟨trivial, ?_⟩
            refine (CallsIn.inRound l (callsIn_wide.2 REC.out)).mono ?_
            rintro e w3 ⟨v, l3, rfl, hown3, k3, ⟨hne, hle, hwk⟩ | ⟨rfl, hno⟩⟩
            · obtain ⟨h0, tl, rfl⟩ : ∃ h tl, l3 = h :: tl := by cases l3 with
                | nil => exact absurd rfl hne
                | cons h tl => exact ⟨h, tl, rfl⟩
              rcases hown3.2 with ⟨_, hz⟩ | ⟨g3, cap3, cur3, rfl, hg30, hgg3, _⟩
              · simp at hz
              have hX2 : (w.heap.size + 1 + 1) < X.heap.size := by omega
              have hX3 : (w.heap.size + 1 + 1 + 1) < X.heap.size := by omega
              have f2 := (k3.cell (p := ⟨(w.heap.size + 1 + 1), 0, Option.none⟩) hX2 (fun e => e)).trans e2
              have f3 := (k3.cell (p := ⟨(w.heap.size + 1 + 1 + 1), 0, Option.none⟩) hX3 (fun e => e)).trans e3
              have fb2 := (k3.cell (p := ⟨Bx, 2, Option.none⟩) hBxl (fun e => e)).trans g2
              have fB := (k3.block _ (lt_of_block HB5.out) (fun e => e)).trans HB5.out
              have fc := cellOf (i := 0) (v := .slice Option.none 0 0) fB rfl
              have fz : w3.frozen? ⟨(w.heap.size + 1 + 1 + 1 + 1 + 1), 0, Option.none⟩ = false := by simp [World.frozen?, fB]
              have fl := lt_of_block fB
              have hl3 : (h0 :: tl).length ≤ 100000001 := by omega
              have hXS3 : (w.heap.size + 1 + 1 + 1 + 1 + 1 + 1 + 1) ≤ w3.heap.size := Nat.le_trans hXS k3.size
              have HOWN3 := hid hown3
              have K3 := hid k3
              have HWK := hid hwk
              have HLE := hid hle
              have HFB := hid fB
              have hlc : (h0 :: tl).length = tl.length + 1 := rfl
              have HG3 := hid (lt_of_block hgg3)
              have HN6 := hid (alloc_block w3 (.cells #[.int .i64 nb, .int .i64 p, .int .i64 np] 45 (0, 0)))
              clear hown3 k3 hwk hle hgg3 fB
              have HOWN6 := hid (own_new (n := 1) (sz := 3) HN6.out rfl (by decide))
              have k6 : Keeps Nil w3 (w3.alloc (.cells #[.int .i64 nb, .int .i64 p, .int .i64 np] 45 (0, 0))) := (Keeps.refl Nil w3).alloc _
              have HC6 := hid (show ∀ j u, (flatH (h0 :: tl))[j]? = some u → (w3.alloc (.cells #[.int .i64 nb, .int .i64 p, .int .i64 np] 45 (0, 0))).cell? ((⟨g3, 0, Option.none⟩ : Addr).add j) = some u from fun j u hu => by
                have hc := HOWN3.out.cells (g := g3) rfl j u hu
                have ea : (⟨g3, 0, Option.none⟩ : Addr).add j = ⟨g3, j, Option.none⟩ := by unfold Addr.add; split <;> simp_all
                rw [ea] at hc ⊢
                exact (k6.cell (p := ⟨g3, j, Option.none⟩) HG3.out (fun e => e)).trans hc)
              have H1C := hid (show ∀ u ∈ flatH (h0 :: tl), u.oneCell' = true from fun u hu => by
                obtain ⟨x, _, hx⟩ := List.mem_flatMap.1 hu
                simp at hx
                rcases hx with rfl | rfl | rfl <;> rfl)
              have HFL := hid (flatH_len (h0 :: tl))
              have fl6 : (w.heap.size + 1 + 1 + 1 + 1 + 1) < w3.heap.size + 1 := by omega
              rw [hlc] at hl3 HFL HOWN3
              gi_wp2_with (gi_at_builtin; refine wpListIn_append_own _ rfl _ _ 41 rfl w3.heap.size 45 i0 (.agg #[.int .i64 0, .int .i64 0, .int .i64 0]) 3 24 Try.underlying41 hi hz0 hz1 hz2 rfl (by decide) (.slice (some ⟨w3.heap.size, 0, Option.none⟩) 1 1) 1 _ (by rfl) HOWN6.out ⟨g3, 0, Option.none⟩ (tl.length + 1) cap3 (flatH (h0 :: tl)) rfl HFL.out HC6.out H1C.out (by unfold maxLen; omega) (by omega) (by simp) ?_; intro v7 w7 own7 hgrow7 _; obtain ⟨q7, c7, rfl⟩ := own_shape own7; have HOWN7 := hid own7; have HG7 := hid hgrow7; have k7 : Keeps (fun k => k = w3.heap.size) w3 w7 := (k6.ofNil).grown hgrow7 (fun k e _ => (show w3.heap.size = k by simpa [Value.ownBlock] using e).symm); have fB7 := (k7.block _ fl (fun e => by have : (w.heap.size + 1 + 1 + 1 + 1 + 1) = w3.heap.size := e; omega)).trans HFB.out; have fc7 := cellOf (i := 0) (v := .slice Option.none 0 0) fB7 rfl; have fz7 : w7.frozen? ⟨(w.heap.size + 1 + 1 + 1 + 1 + 1), 0, Option.none⟩ = false := (by simp [World.frozen?, fB7]); have K7 := hid k7; have HB7 := hid (show Boxed w7 (w.heap.size + 1 + 1 + 1 + 1 + 1) 41 (.slice Option.none 0 0) from fB7); clear k7 own7 hgrow7 fB7)
              have kXf : Keeps (At (w.heap.size + 1 + 1 + 1 + 1 + 1)) X (w7.setCell ⟨(w.heap.size + 1 + 1 + 1 + 1 + 1), 0, Option.none⟩ (.slice q7 (1 + (tl.length + 1)) c7)) := ((K3.out.ofNil : Keeps (At (w.heap.size + 1 + 1 + 1 + 1 + 1)) X w3).trans' K7.out (fun x hx e => by have := K3.out.size; omega)).set _ _ (at_self _) _
              have hlen2 : ((⟨nb, p, np⟩ : Hp) :: h0 :: tl).length = 1 + (tl.length + 1) := by simp only [List.length_cons]; omega
              have hle2 := HLE.out
              rw [hlc] at hle2
              refine ⟨kf_of kXf (fun g e _ => by have e : g = (w.heap.size + 1 + 1 + 1 + 1 + 1) := e; subst e; exact ⟨_, _, _, HB5.out⟩) _, rfl, q7, _, c7, (⟨nb, p, np⟩ : Hp) :: h0 :: tl, HB7.out.set _, ?_, ⟨by simp, by omega, .cons _ p _ HSM.out (by simpa using hIn) hnp hat HWK.out⟩, HKX.out.ofNil.trans kXf⟩
              rw [hlen2]
              refine own_mono (own_apartV (X := At (w.heap.size + 1 + 1 + 1 + 1 + 1)) HOWN7.out ((Keeps.refl (At (w.heap.size + 1 + 1 + 1 + 1 + 1)) w7).set _ _ (at_self _) _) (fun g hg e => ?_)) (by omega)
              have h1 := own_ge HOWN7.out hg
              have e : g = (w.heap.size + 1 + 1 + 1 + 1 + 1) := e
              omega
            · obtain ⟨q3, c3, rfl⟩ := own_shape hown3
              have K3 := hid k3
              have HNO := hid hno
              clear k3 hno hown3
              have KF3 := hid (show ∀ B, KeepsFrom B X w3 from fun B => kf_of K3.out (fun g e _ => e.elim) B)
              dsimp only [List.length_nil]
              gi_wp2
              refine ⟨KF3.out _, K61.nil K3.out (by omega), ⟨fun s hs => ?_, HKX.out.trans K3.out⟩⟩
              rw [HSN.out] at hs
              rcases List.mem_append.1 hs with h | h
              · exact HPRE.out s h
              · simp at h; subst h
                dsimp only
                intro h1 h2 h3
                exact HNO.out
        · have hnb' : (nb != a) = true := by simp [hnb]
          gi_wp2
          refine ⟨KF.out _, K61.nil KX.out (by omega), ⟨fun s hs => ?_, HKX.out.trans KX.out⟩⟩
          rw [HSN.out] at hs
          rcases List.mem_append.1 hs with h | h
          · exact HPRE.out s h
          · simp at h; subst h
            dsimp only
            intro h1 h2 h3
            exact absurd h2 hnb
    case done =>
      rintro D ys X hD rfl ⟨hpre, hkX⟩ hDd
      rw [show (sidesT L).unattach = sidesOf L from List.unattach_attach] at hpre
      have hb := (hkX.block _ (lt_of_block hb5) (fun e => e)).trans hb5
      have hbx : Boxed X (w.heap.size + 1 + 1 + 1 + 1 + 1) 41 (.slice Option.none 0 0) := hb
      have f0 := cellOf (i := 0) (v := .slice Option.none 0 0) hb rfl
      have fz : X.frozen? ⟨(w.heap.size + 1 + 1 + 1 + 1 + 1), 0, Option.none⟩ = false := by simp [World.frozen?, hb]
      have hno : ∀ l', ¬ Wk (sidesOf L) In t a p l' := fun l' h => by
        cases h with
        | nil => exact hat rfl
        | cons s p l hs hi hp hb hw => exact hpre s hs hi rfl hp _ hw
      have KX := hid hkX
      have HBX := hid hbx
      have HNO := hid hno
      clear hb hbx hno hpre hkX
      gi_wp2
      refine (show LeavesInM Fence.wide 9 Try.prog Try.f21 _ _ _ .returning (X.setCell ⟨(w.heap.size + 1 + 1 + 1 + 1 + 1), 0, Option.none⟩ (.slice Option.none 0 0)) from ?_)
      have hmk : Marks w.heap.size [{ target := .collected D, args := #[] }] (X.setCell ⟨(w.heap.size + 1 + 1 + 1 + 1 + 1), 0, Option.none⟩ (.slice Option.none 0 0)) := ⟨[D], rfl, by simp, fun D' h => by simp at h; subst h; exact ⟨by omega, set_other hDd (by omega) _⟩⟩
      refine hmk.leave (I := fun Y => Boxed Y (w.heap.size + 1 + 1 + 1 + 1 + 1) 41 (.slice Option.none 0 0) ∧ Keeps Nil w Y) (fun s X Y row hs hg hr => ⟨boxed_own (w.heap.size + 1 + 1 + 1 + 1 + 1) 41 (fun _ : Unit => Value.slice Option.none 0 0) () X Y row hs.1 hg (fun r e => (hr r e).2), OwnFrom.keeps (B := w.heap.size) (Nat.le_refl _) () X Y row hs.2 hg hr⟩) (fun Y hY => ?_) ⟨HBX.out.set _, (k2.trans KX.out).setCell (p := ⟨(w.heap.size + 1 + 1 + 1 + 1 + 1), 0, Option.none⟩) (fun h => absurd h (Nat.not_lt.2 (show w.heap.size ≤ (w.heap.size + 1 + 1 + 1 + 1 + 1) by omega))) _⟩
      exact ⟨_, ret41 _ _ (w.heap.size + 1 + 1 + 1 + 1 + 1) _ _ _ rfl hY.1.cell, _, [], rfl, World.ownsRow_nil _ _ _ _, hY.2, .inr ⟨rfl, HNO.out⟩⟩
    case stop =>
      rintro D c pre X hD - ⟨rfl, q, k, c', l, hbx, hown, hpl, hkk⟩ hDd
      gi_wp2
      refine (show LeavesInM Fence.wide 9 Try.prog Try.f21 _ _ _ .returning X from ?_)
      have hmk : Marks w.heap.size [{ target := .collected D, args := #[] }] X := ⟨[D], rfl, by simp, fun D' h => by simp at h; subst h; exact ⟨by omega, hDd⟩⟩
      refine hmk.leave (I := fun Y => Boxed Y (w.heap.size + 1 + 1 + 1 + 1 + 1) 41 (.slice q k c') ∧ Y.ownsRow w.heap.size 45 3 (.slice q k c') l.length (flatH l) ∧ Keeps Nil w Y) (fun s X Y row hs hg hr => ⟨boxed_own (w.heap.size + 1 + 1 + 1 + 1 + 1) 41 (fun _ : Unit => Value.slice q k c') () X Y row hs.1 hg (fun r e => (hr r e).2), own_apartV (X := fun k => some k = row) hs.2.1 ⟨hg.os, hg.tape, hg.output, hg.size, fun k hk h => hg.block k hk h⟩ (fun g hgb e => ?_), OwnFrom.keeps (B := w.heap.size) (Nat.le_refl _) () X Y row hs.2.2 hg hr⟩) (fun Y hY => ?_) ⟨hbx, hown, k2.trans' hkk (fun x hx e => by have : x = (w.heap.size + 1 + 1 + 1 + 1 + 1) := e; omega)⟩
      · obtain ⟨_, o, ho, hc⟩ := hr _ e.symm
        obtain ⟨_, cs, hcs⟩ := own_block hs.2.1 hgb
        rw [hcs] at ho; cases ho; cases hc
      · exact ⟨_, ret41 _ _ (w.heap.size + 1 + 1 + 1 + 1 + 1) _ _ _ rfl hY.1.cell, _, l, rfl, hY.2.1, hY.2.2, .inl hpl⟩
end Go.Proofs.Ythnkeppkhdceoaa
