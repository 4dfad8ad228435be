/-
  Graphs: each bridge's part, put right until nothing changes (graph.nodes). Conditions: the graph may be; the rows lie so.
-/
import Derived.Test.YthnkeppkhdceoaaPath
import Derived.Test.YthnkeppkhdceoaaRound
namespace Go.Proofs.Ythnkeppkhdceoaa
open Go.RowKit Go.Shelf
set_option linter.unusedVariables false
set_option linter.unusedSimpArgs false
attribute [local go_sem] Oper.semAt_some

/-- A loop whose state is measured by what is known of it. -/
theorem wpIn_loop_ghost {F : Fence} {n : Nat} {P : Program} {c : Code} {Q : Exit → Act → World → Prop} {a : Act} {w : World} (I : Nat → Act → World → Prop) (m : Nat) (h₀ : I m a w)
    (round : ∀ m a w, I m a w → c.wpIn F n P (Exit.then (fun a' w' => ∃ m', m' < m ∧ I m' a' w') Q) a w) : (Code.loop c).wpIn F n P Q a w := by
  classical
  have least : ∀ (a : Act) (w : World), (∃ m, I m a w) → ∃ m, I m a w ∧ ∀ k, I k a w → m ≤ k := by
    intro a w ⟨m, hm⟩
    induction m using Nat.strongRecOn with
    | _ m ih =>
      by_cases h : ∃ k, k < m ∧ I k a w
      · obtain ⟨k, hk, hi⟩ := h
        exact ih k hk hi
      · exact ⟨m, hm, fun k hk => Nat.le_of_not_lt fun hlt => h ⟨k, hlt, hk⟩⟩
  let μ : Act → World → Nat := fun a w => if h : ∃ m, I m a w then Classical.choose (least a w h) else 0
  have hμ : ∀ a w, (∃ m, I m a w) → I (μ a w) a w ∧ ∀ k, I k a w → μ a w ≤ k := fun a w h => by
    have e : μ a w = Classical.choose (least a w h) := dif_pos h
    rw [e]
    exact Classical.choose_spec (least a w h)
  refine wpIn_loop (fun a w => ∃ m, I m a w) μ ⟨m, h₀⟩ (fun a w h => ?_)
  refine wpIn_mono (round (μ a w) a w (hμ a w h).1) ?_
  rintro e a' w' hq
  cases e with
  | normal => obtain ⟨m', hlt, hi⟩ := hq; exact ⟨⟨m', hi⟩, Nat.lt_of_le_of_lt ((hμ a' w' ⟨m', hi⟩).2 m' hi) hlt⟩
  | _ => exact hq

/-- The marks that ranges over functions have left: to be taken at the end. -/
def Marks (B : Nat) (ds : List Deferred) (w : World) : Prop := ∃ Ds : List Nat, ds = Ds.map (fun D => { target := .collected D, args := #[] }) ∧ Ds.Nodup ∧ ∀ D ∈ Ds, B ≤ D ∧ w.heap[D]? = some (.deferred (some []))
theorem Marks.nil (B : Nat) (w : World) : Marks B [] w := ⟨[], rfl, List.nodup_nil, fun _ h => by cases h⟩
theorem Marks.cons {B C D : Nat} {ds : List Deferred} {w w' : World} (h : Marks B ds w) (hB : B ≤ C) (hC : w.heap.size ≤ D) (hCw : C ≤ w.heap.size) (k : KeepsFrom B w w') (hD : w'.heap[D]? = some (.deferred (some []))) : Marks B ({ target := .collected D, args := #[] } :: ds) w' := by
  obtain ⟨Ds, e, hn, hd⟩ := h
  refine ⟨D :: Ds, by rw [e]; rfl, List.nodup_cons.2 ⟨fun hm => ?_, hn⟩, fun X hX => ?_⟩
  · have := lt_of_block (hd D hm).2; omega
  · rcases List.mem_cons.1 hX with rfl | hX
    · exact ⟨by omega, hD⟩
    · exact ⟨(hd X hX).1, k.same X _ (hd X hX).1 (hd X hX).2 rfl⟩
theorem Marks.keep {B : Nat} {ds : List Deferred} {w w' : World} (h : Marks B ds w) (k : KeepsFrom B w w') : Marks B ds w' := by
  obtain ⟨Ds, e, hn, hd⟩ := h
  exact ⟨Ds, e, hn, fun D hD => ⟨(hd D hD).1, k.same D _ (hd D hD).1 (hd D hD).2 rfl⟩⟩
theorem Marks.leave {F : Fence} {n : Nat} {P : Program} {fn : Func} {tmps : Array Value} {R : Ending → World → Prop} {B : Nat} {I : World → Prop} (hI : OwnFrom B (fun (_ : Unit) w => I w)) (hR : ∀ w, I w → LeavesInM F n P fn tmps R [] .returning w) :
    ∀ {ds : List Deferred} {w : World}, Marks B ds w → I w → LeavesInM F n P fn tmps R ds .returning w := by
  intro ds w h
  obtain ⟨Ds, e, hn, hd⟩ := h
  subst e
  revert w
  induction Ds with
  | nil => intro w _ hw; exact hR w hw
  | cons D Ds ih =>
    intro w hd hw
    obtain ⟨hB, hD⟩ := hd D (List.mem_cons_self ..)
    refine ⟨by simp, .inl ⟨D, _, rfl, run_takeDeferred hD, ?_⟩⟩
    refine ih (List.nodup_cons.1 hn).2 (fun X hX => ?_) (hI.putObj (s := ()) _ hw hB hD rfl)
    have hne : X ≠ D := fun e => (List.nodup_cons.1 hn).1 (e ▸ hX)
    exact ⟨(hd X (List.mem_cons_of_mem _ hX)).1, (World.putObj_heap_other hne).trans (hd X (List.mem_cons_of_mem _ hX)).2⟩

theorem info39 : (Try.prog.info? 39).map (fun i => (i.zero, i.size, i.bytes)) = some (some (.agg #[.int .u64 0, .int .u32 0, .int .i64 0]), 3, 24) := by kernel_rfl
theorem info_parts {P : Program} {e : TypeId} {z : Value} {s b : Nat} (h : (P.info? e).map (fun i => (i.zero, i.size, i.bytes)) = some (some z, s, b)) :
    ∃ i, P.info? e = some i ∧ i.zero = some z ∧ i.size = s ∧ i.bytes = b := by
  cases hi : P.info? e with
  | none => rw [hi] at h; cases h
  | some i => rw [hi] at h; simp at h; exact ⟨i, rfl, h.1, h.2.1, h.2.2⟩
theorem news {W : World} {cs : Array Value} {T : TypeId} : ∀ (j : Nat) (u : Value), cs.toList[j]? = some u → (W.alloc (.cells cs T (0, 0))).cell? ((⟨W.heap.size, 0, Option.none⟩ : Addr).add j) = some u := by
  intro j u hu
  have e1 : (⟨W.heap.size, 0, Option.none⟩ : Addr).add j = ⟨W.heap.size, j, Option.none⟩ := by unfold Addr.add; split <;> simp_all
  rw [e1]
  exact cellOf (alloc_block W (.cells cs T (0, 0))) (by simpa using hu)
/-- The parts at the start. -/
def begin0 (ids : List Int) : List Nd := ids.map (fun x => ⟨x, 0, -1⟩)
theorem own_mono {w : World} {b b' : Nat} {e : TypeId} {sz : Nat} {v : Value} {n : Nat} {xs : List Value} (h : w.ownsRow b e sz v n xs) (hb : b' ≤ b) : w.ownsRow b' e sz v n xs := by
  refine ⟨h.1, ?_⟩
  rcases h.2 with h1 | ⟨g, cap, cur, hv, hg, r⟩
  · exact .inl h1
  · exact .inr ⟨g, cap, cur, hv, Nat.le_trans hb hg, r⟩
theorem own_base {w w' : World} {b : Nat} {e : TypeId} {sz : Nat} {v : Value} {n m : Nat} {xs ys : List Value} (h : w.ownsRow 0 e sz v n xs) (k : w'.ownsRow b e sz v m ys) : w.ownsRow b e sz v n xs := by
  refine ⟨h.1, ?_⟩
  rcases h.2 with h1 | ⟨g, cap, cur, hv, hg, r⟩
  · exact .inl h1
  · rcases k.2 with ⟨h1, _⟩ | ⟨g', cap', cur', hv', hg', r'⟩
    · rw [h1] at hv; cases hv
    · rw [hv] at hv'
      injection hv' with hv' _ _
      injection hv' with hv'
      injection hv' with hv'
      exact .inr ⟨g, cap, cur, hv, by omega, r⟩
/-- A row in a box has grown by one. -/
theorem grown1 {W w1 : World} {n₀ B : Nat} {t e : TypeId} {size : Nat} {v v' : Value} {k m : Nat} {xs ys : List Value} {tmp : Obj} (hv : Boxed W B t v) (hte : t ≠ e) (hrow : W.ownsRow n₀ e size v k xs)
    (hown' : w1.ownsRow n₀ e size v' m ys) (hgrow : (W.alloc tmp).grownBy w1 v.ownBlock) :
    Boxed w1 B t v ∧ Boxed (w1.setCell ⟨B, 0, Option.none⟩ v') B t v' ∧ (w1.setCell ⟨B, 0, Option.none⟩ v').ownsRow n₀ e size v' m ys ∧ KeepsOthers W (w1.setCell ⟨B, 0, Option.none⟩ v') ∧
      (∀ (S : Nat → Prop) (A : World), Keeps S A W → (B < A.heap.size → S B) → A.heap.size ≤ n₀ → Keeps S A (w1.setCell ⟨B, 0, Option.none⟩ v')) := by
  obtain ⟨h1, h2, h3, h4, _⟩ := hv.appended hte (own_mono hrow (Nat.zero_le _)) (Nat.zero_le _) (Nat.zero_le _) (own_mono hown' (Nat.zero_le _)) hgrow
  refine ⟨h1, h2, own_base h3 hown', h4, fun S A kA hS hA => ?_⟩
  exact ((kA.alloc tmp).grown hgrow (fun g e hg => by have := (hrow.lt g e).1; omega)).setCell (p := ⟨B, 0, Option.none⟩) hS _
theorem flatN_get' (L : List Nd) : ∀ (i q : Nat), q < 3 → (flatN L)[i * 3 + q]? = (L[i]?).bind (fun x => (ncells x)[q]?) := by
  intro i q hq
  cases hx : L[i]? with
  | none =>
    rw [List.getElem?_eq_none_iff] at hx
    rw [List.getElem?_eq_none (by rw [flatN_len]; omega)]
    rfl
  | some x => exact flatN_get hx q hq

/-- The i-th one's cells. -/
def EAt (cur : Array Value) (i : Nat) (x : Nd) : Prop := ∀ q v, (ncells x)[q]? = some v → cur[i * 3 + q]? = some v
/-- Block g is a row of them. -/
def Row (w : World) (g c : Nat) (L : List Nd) : Prop :=
  ∃ cur, w.heap[g]? = some (.cells cur 39 (0, 0)) ∧ cur.size = c * 3 ∧ c ≤ maxLen ∧ L.length ≤ c ∧ ∀ i x, L[i]? = some x → EAt cur i x
theorem Row.lt {w : World} {g c : Nat} {L : List Nd} (h : Row w g c L) : g < w.heap.size := by
  obtain ⟨cur, h, _⟩ := h; exact lt_of_block h
theorem Row.keep {S : Nat → Prop} {w w' : World} {g c : Nat} {L : List Nd} (h : Row w g c L) (k : Keeps S w w') (hS : ¬ S g) : Row w' g c L := by
  have hl := h.lt
  obtain ⟨cur, h, r⟩ := h; exact ⟨cur, (k.block g hl hS).trans h, r⟩
theorem Row.read {w : World} {g c : Nat} {L : List Nd} (h : Row w g c L) {i : Nat} {x : Nd} (hx : L[i]? = some x) :
    (w.cell? ⟨g, i * 3, Option.none⟩ = some (.int .u64 x.r) ∧ w.cell? ⟨g, i * 3 + 1, Option.none⟩ = some (.int .u32 x.c) ∧ w.cell? ⟨g, i * 3 + 2, Option.none⟩ = some (.int .i64 x.q)) ∧ ∀ q, w.frozen? ⟨g, q, Option.none⟩ = false := by
  obtain ⟨cur, hb, _, _, _, hat⟩ := h
  have H := hat i x hx
  have C : ∀ q v, (ncells x)[q]? = some v → w.cell? ⟨g, i * 3 + q, Option.none⟩ = some v := fun q v hv => by
    have := H q v hv
    simp [World.cell?, hb, this]
  refine ⟨⟨?_, C 1 _ rfl, C 2 _ rfl⟩, fun q => by simp [World.frozen?, hb]⟩
  have := C 0 _ rfl
  simpa using this
theorem Row.own {w : World} {B g c : Nat} {L : List Nd} (h : Row w g c L) (hB : B ≤ g) : w.ownsRow B 39 3 (.slice (some ⟨g, 0, Option.none⟩) L.length c) L.length (flatN L) := by
  obtain ⟨cur, hb, hs, hm, hl, hat⟩ := h
  refine ⟨flatN_len L, .inr ⟨g, c, cur, rfl, hB, hb, hl, hm, hs, ?_⟩⟩
  apply List.ext_getElem?
  intro k
  rw [List.getElem?_take]
  by_cases hk : k < L.length * 3
  · rw [if_pos hk]
    have e : k = (k / 3) * 3 + k % 3 := by omega
    obtain ⟨x, hx⟩ : ∃ x, L[k / 3]? = some x := ⟨_, List.getElem?_eq_getElem (by omega)⟩
    have hq : k % 3 < 3 := Nat.mod_lt _ (by omega)
    obtain ⟨v, hv⟩ : ∃ v, (ncells x)[k % 3]? = some v := ⟨_, List.getElem?_eq_getElem (by simpa using hq)⟩
    have h1 := hat _ x hx _ v hv
    have h2 := flatN_get' L (k / 3) (k % 3) hq
    rw [hx] at h2
    simp only [Option.bind_some, hv] at h2
    rw [← e] at h1 h2
    rw [h2]
    simpa using h1
  · rw [if_neg hk, List.getElem?_eq_none (by rw [flatN_len]; omega)]
theorem Row.of_own {w : World} {B n c : Nat} {p : Option Addr} {L : List Nd} (h : w.ownsRow B 39 3 (.slice p n c) n (flatN L)) : L.length = n ∧ ((p = Option.none ∧ n = 0 ∧ c = 0) ∨ ∃ g, p = some ⟨g, 0, Option.none⟩ ∧ B ≤ g ∧ Row w g c L) := by
  obtain ⟨hl, h⟩ := h
  rw [flatN_len] at hl
  have hn : L.length = n := by omega
  refine ⟨hn, ?_⟩
  rcases h with ⟨hv, hz⟩ | ⟨g, cap, cur, hv, hB, hb, hle, hm, hs, ht⟩
  · injection hv with h1 h2 h3
    exact .inl ⟨h1, hz, h3⟩
  · injection hv with h1 h2 h3
    subst h3
    refine .inr ⟨g, h1, hB, cur, hb, hs, hm, by omega, fun i x hx q v hv => ?_⟩
    have hi : i < L.length := (List.getElem?_eq_some_iff.1 hx).1
    have hq : q < 3 := by have := (List.getElem?_eq_some_iff.1 hv).1; simpa using this
    have h2 := flatN_get' L i q hq
    rw [hx] at h2
    simp only [Option.bind_some, hv] at h2
    rw [← ht, List.getElem?_take, if_pos (by omega)] at h2
    simpa using h2
/-- A slice of them: nil, or a row. -/
def Sl (w : World) (B : Nat) (p : Option Addr) (n c : Nat) (L : List Nd) : Prop :=
  L.length = n ∧ ((p = Option.none ∧ n = 0 ∧ c = 0) ∨ ∃ g, p = some ⟨g, 0, Option.none⟩ ∧ B ≤ g ∧ Row w g c L)
theorem Sl.keep {S : Nat → Prop} {w w' : World} {B n c : Nat} {p : Option Addr} {L : List Nd} (h : Sl w B p n c L) (k : Keeps S w w') (hS : ∀ g, B ≤ g → g < w.heap.size → ¬ S g) : Sl w' B p n c L := by
  obtain ⟨h1, h2 | ⟨g, e, hb, hr⟩⟩ := h
  · exact ⟨h1, .inl h2⟩
  · exact ⟨h1, .inr ⟨g, e, hb, hr.keep k (hS g hb hr.lt)⟩⟩
theorem Sl.keepN {w w' : World} {B n c : Nat} {p : Option Addr} {L : List Nd} (h : Sl w B p n c L) (k : Keeps Nil w w') : Sl w' B p n c L := h.keep k (fun _ _ _ e => e)
theorem Sl.own {w : World} {B n c : Nat} {p : Option Addr} {L : List Nd} (h : Sl w B p n c L) : w.ownsRow B 39 3 (.slice p n c) n (flatN L) := by
  obtain ⟨rfl, ⟨rfl, hn, rfl⟩ | ⟨g, rfl, hb, hr⟩⟩ := h
  · have : L = [] := List.eq_nil_of_length_eq_zero hn
    subst this
    exact World.ownsRow_nil _ _ _ _
  · exact hr.own hb
theorem Sl.of_own {w : World} {B n c : Nat} {p : Option Addr} {L : List Nd} (h : w.ownsRow B 39 3 (.slice p n c) n (flatN L)) : Sl w B p n c L := Row.of_own h
theorem Sl.le {w : World} {B n c : Nat} {p : Option Addr} {L : List Nd} (h : Sl w B p n c L) : n ≤ c := by
  obtain ⟨rfl, ⟨rfl, hn, rfl⟩ | ⟨g, rfl, hb, cur, _, _, _, hl, _⟩⟩ := h
  · omega
  · exact hl
/-- The row that a slice leads to. -/
def InP (p : Option Addr) : Nat → Prop := fun k => p = some ⟨k, 0, Option.none⟩
theorem Row.set {w : World} {g c : Nat} {L : List Nd} (h : Row w g c L) {i q : Nat} {x y : Nd} {v : Value} (hx : L[i]? = some x) (hq : q < 3) (hv : (ncells y)[q]? = some v) (hs : ∀ q', q' ≠ q → (ncells y)[q']? = (ncells x)[q']?) :
    Row (w.setCell ⟨g, i * 3 + q, Option.none⟩ v) g c (L.set i y) := by
  obtain ⟨cur, hb, hsz, hm, hl, hat⟩ := h
  refine ⟨_, setCell_block hb _ _, by simpa using hsz, hm, by simpa using hl, fun j z hz q' u hu => ?_⟩
  have hq' : q' < 3 := by have := (List.getElem?_eq_some_iff.1 hu).1; simpa using this
  by_cases hj : j = i
  · subst hj
    rw [List.getElem?_set_self (List.getElem?_eq_some_iff.1 hx).1] at hz
    injection hz with hz
    subst hz
    by_cases e : q' = q
    · subst e
      rw [hv] at hu
      injection hu with hu
      subst hu
      have : j * 3 + q' < cur.size := by have := (List.getElem?_eq_some_iff.1 hx).1; omega
      rw [Array.getElem?_setIfInBounds_self_of_lt this]
    · rw [hs q' e] at hu
      rw [Array.getElem?_setIfInBounds_ne (by omega)]
      exact hat j x hx q' u hu
  · rw [List.getElem?_set_ne (fun e => hj e.symm)] at hz
    rw [Array.getElem?_setIfInBounds_ne (by omega)]
    exact hat j z hz q' u hu
/-- What makes a graph be. -/
structure GOk (ids : List Int) (n : Nat) (S : List Sd) : Prop where
  len : ids.length = n
  n1 : 1 ≤ n
  n8 : n ≤ 8
  inj : ids.Nodup
  pos0 : ∀ x ∈ ids, 0 ≤ x
  side : ∀ s ∈ S, (0 ≤ s.n.b ∧ s.n.b < n) ∧ (0 ≤ s.f.b ∧ s.f.b < n) ∧ (0 < s.n.c ∧ s.n.c < 65536) ∧ (0 ≤ s.n.p ∧ s.n.p < 8) ∧ (0 ≤ s.k ∧ s.k < 1000)
/-- Near and far end. -/
abbrev Sd.pr (s : Sd) : Pr := (s.n, s.f)
def valOf (N : List Nd) : Vals := fun x => match N[x.toNat]? with | some nd => (nd.r, nd.c) | Option.none => (0, 0)
def idOf (ids : List Int) : Int → Int := fun x => ids[x.toNat]?.getD 0
def prs (L : List Lk) : List Pr := (sidesOf L).map Sd.pr
theorem GOk.idpos {ids : List Int} {n : Nat} {S : List Sd} (h : GOk ids n S) (t : Int) : 0 ≤ idOf ids t := by
  unfold idOf
  cases e : ids[t.toNat]? with
  | none => simp
  | some x => simpa using h.pos0 x (List.mem_of_getElem? e)
/-- The parts, put right. -/
structure Put (ids : List Int) (n : Nat) (L : List Lk) (N : List Nd) : Prop where
  len : N.length = n
  port : ∀ x ∈ N, x.q = -1
  inv : Inv (idOf ids) n (prs L) (valOf N)
  still : Still (prs L) (valOf N)

theorem Own.row {g c : Nat} {L : List Nd} : Own (fun (_ : Unit) W => Row W g c L) := fun s X Y row hs hg hr => by
  obtain ⟨cur, hb, r⟩ := hs
  refine ⟨cur, (hg.block g (lt_of_block hb) (fun e => ?_)).trans hb, r⟩
  obtain ⟨o, ho, hc⟩ := hr g e.symm
  rw [hb] at ho; cases ho; cases hc
theorem OwnFrom.keeps {S : Nat → Prop} {A : World} {B : Nat} (hB : A.heap.size ≤ B) : OwnFrom B (fun (_ : Unit) W => Keeps S A W) := fun s X Y row hs hg hr =>
  hs.trans' (S' := fun k => some k = row) ⟨hg.os, hg.tape, hg.output, hg.size, fun k hk h => hg.block k hk h⟩ (fun x hx e => by have := (hr x e.symm).1; omega)
def meas (N : List Nd) : Nat := (N.map (fun x => (x.r * 33554432 + x.c).toNat)).sum
theorem meas_set : ∀ {N : List Nd} {i : Nat} {x y : Nd}, N[i]? = some x → (y.r * 33554432 + y.c).toNat < (x.r * 33554432 + x.c).toNat → meas (N.set i y) < meas N := by
  intro N
  induction N with
  | nil => intro i x y h; simp at h
  | cons z N ih =>
    intro i x y h hlt
    match i with
    | 0 => simp at h; subst h; simp [meas]; omega
    | i + 1 =>
      have := ih (i := i) (x := x) (y := y) (by simpa using h) hlt
      simp [meas] at this ⊢
      omega
theorem valOf_at {N : List Nd} {i : Nat} {x : Nd} (h : N[i]? = some x) : valOf N (i : Int) = (x.r, x.c) := by
  simp [valOf, h]
theorem valOf_set {N : List Nd} {i : Nat} {x y : Nd} (h : N[i]? = some x) : ∀ z : Int, 0 ≤ z → valOf (N.set i y) z = upd (valOf N) (i : Int) (y.r, y.c) z := by
  intro z hz
  have hi : i < N.length := (List.getElem?_eq_some_iff.1 h).1
  unfold upd valOf
  by_cases e : z = (i : Int)
  · subst e
    simp [hi]
  · rw [if_neg e, List.getElem?_set_ne (by omega)]
/-- Vals that agree on bridges are as good. -/
theorem Inv.congr {id : Int → Int} {n : Nat} {S : List Pr} {val val' : Vals} (h : Inv id n S val) (hw : Within S n) (e : ∀ z : Int, 0 ≤ z → z < n → val' z = val z) : Inv id n S val' := by
  have key : ∀ {r x t c : Int} {vs : List Int}, GP S val r x t vs c → 0 ≤ x → x < n → GP S val' r x t vs c := by
    intro r x t c vs hg
    induction hg with
    | nil v hl => intro h0 h1; exact .nil v (by rw [e v h0 h1]; exact hl)
    | cons s t vs c hs _ hn hl ih =>
      intro h0 h1
      exact .cons s t vs c hs (ih (hw s hs).2.1.1 (hw s hs).2.1.2) hn (by rw [e _ h0 h1]; exact hl)
  constructor
  · intro x h0 h1; rw [e x h0 h1]; exact h.own x h0 h1
  · intro x h0 h1
    obtain ⟨t, vs, a, b, c, d⟩ := h.gp x h0 h1
    rw [e x h0 h1]
    exact ⟨t, vs, a, b, c, key d h0 h1⟩
theorem GOk.within {ids : List Int} {n : Nat} {L : List Lk} (h : GOk ids n (sidesOf L)) : Within (prs L) n := fun s hs => by
  obtain ⟨x, hx, rfl⟩ := List.mem_map.1 hs
  have := h.side x hx
  exact ⟨this.1, this.2.1, this.2.2.1.2⟩
theorem GOk.pos {ids : List Int} {n : Nat} {L : List Lk} (h : GOk ids n (sidesOf L)) : Pos (prs L) := fun s hs => by
  obtain ⟨x, hx, rfl⟩ := List.mem_map.1 hs
  exact (h.side x hx).2.2.1.1
theorem begin0_inv (ids : List Int) (n : Nat) (S : List Pr) (hw : Within S n) (hn : ids.length = n) : Inv (idOf ids) n S (valOf (begin0 ids)) := by
  refine (Inv.start (idOf ids) n S).congr hw (fun z h0 h1 => ?_)
  have hz : z.toNat < ids.length := by omega
  simp [valOf, begin0, idOf, hz]
end Go.Proofs.Ythnkeppkhdceoaa
