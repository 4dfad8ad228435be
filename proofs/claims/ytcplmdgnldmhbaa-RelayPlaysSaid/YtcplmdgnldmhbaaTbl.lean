/-
  Layer 8: a database in memory; New; drop, by each kind of test. Conditions: it lies so.
-/
import Derived.Test.YtcplmdgnldmhbaaMapS
namespace Go.Proofs.Ytcplmdgnldmhbaa
open Go.RowKit
set_option linter.unusedVariables false

/-- A database as plain data. -/
structure Tb where
  L : List En
  S : List (Pl × Int)
/-- A database lies in block t: its map in mb, its row from B on. -/
def TbIs (w : World) (B t mb : Nat) (p : Option Addr) (n c : Nat) (τ : Tb) : Prop :=
  w.heap[t]? = some (.cells #[.slice p n c, .map (some mb)] 91 (0, 0)) ∧ Sl w B p n c τ.L ∧ MapIs w mb τ.S
/-- What a database may turn. -/
def TOwn (t mb : Nat) (p : Option Addr) : Nat → Prop := fun k => k = t ∨ k = mb ∨ InP p k
section
variable {w w' : World} {B t mb n c : Nat} {p : Option Addr} {τ : Tb}
theorem TbIs.keep {S : Nat → Prop} (h : TbIs w B t mb p n c τ) (k : Keeps S w w') (ht : ¬ S t) (hm : ¬ S mb) (hg : ∀ g, InP p g → g < w.heap.size → ¬ S g) : TbIs w' B t mb p n c τ := by
  obtain ⟨h1, ⟨h2, h2'⟩, h3⟩ := h
  refine ⟨(k.block t (lt_of_block h1) ht).trans h1, ⟨h2, ?_⟩, h3.keep k hm⟩
  rcases h2' with h2' | ⟨g, e, hb, hr⟩
  · exact .inl h2'
  · exact .inr ⟨g, e, hb, hr.keep k (hg g e hr.lt)⟩
theorem TbIs.keepN (h : TbIs w B t mb p n c τ) (k : Keeps Nil w w') : TbIs w' B t mb p n c τ := h.keep k (fun e => e) (fun e => e) (fun _ _ _ e => e)
theorem two_cells {b : Nat} {x y : Value} {T : TypeId} (h : w.heap[b]? = some (.cells #[x, y] T (0, 0))) : w.cell? ⟨b, 0, Option.none⟩ = some x ∧ w.cell? ⟨b, 1, Option.none⟩ = some y := by
  simp [World.cell?, h]
theorem two_free {b : Nat} {x y : Value} {T : TypeId} (h : w.heap[b]? = some (.cells #[x, y] T (0, 0))) : w.frozen? ⟨b, 0, Option.none⟩ = false ∧ w.frozen? ⟨b, 1, Option.none⟩ = false := by
  simp [World.frozen?, h]
theorem Sl.ne_cells {L : List En} (h : Sl w B p n c L) {k : Nat} {cs : Array Value} {T : TypeId} {f : Nat × Nat} (hk : w.heap[k]? = some (.cells cs T f)) (hT : T ≠ 95) : ¬ InP p k := by
  intro e
  obtain ⟨_, ⟨h1, _⟩ | ⟨g, h1, _, cur, hb, _⟩⟩ := h
  · unfold InP at e; rw [h1] at e; cases e
  · unfold InP at e
    rw [h1] at e
    injection e with e
    injection e with e
    subst e
    rw [hk] at hb
    injection hb with hb
    injection hb with _ hb
    exact hT hb
theorem Sl.ne_map {L : List En} (h : Sl w B p n c L) {k : Nat} {es : Array MapEntry} {cl : Nat} (hk : w.heap[k]? = some (.map es cl)) : ¬ InP p k := by
  intro e
  obtain ⟨_, ⟨h1, _⟩ | ⟨g, h1, _, cur, hb, _⟩⟩ := h
  · unfold InP at e; rw [h1] at e; cases e
  · unfold InP at e
    rw [h1] at e
    injection e with e
    injection e with e
    subst e
    rw [hk] at hb
    cases hb
theorem MapIs.raw {S : List (Pl × Int)} (h : MapIs w mb S) : ∃ es cl, w.heap[mb]? = some (.map es cl) := by
  obtain ⟨_, D, ⟨es, cl, hb, _⟩, _⟩ := h
  exact ⟨es, cl, hb⟩
theorem Sl.keepP {S : Nat → Prop} {L : List En} (h : Sl w B p n c L) (k : Keeps S w w') (hS : ∀ g, InP p g → g < w.heap.size → ¬ S g) : Sl w' B p n c L := by
  obtain ⟨h1, h2 | ⟨g, e, hb, hr⟩⟩ := h
  · exact ⟨h1, .inl h2⟩
  · exact ⟨h1, .inr ⟨g, e, hb, hr.keep k (hS g e hr.lt)⟩⟩
theorem TbIs.not_t (h : TbIs w B t mb p n c τ) : ¬ InP p t := h.2.1.ne_cells h.1 (by decide)
theorem TbIs.not_m (h : TbIs w B t mb p n c τ) : ¬ InP p mb := by obtain ⟨es, cl, hb⟩ := h.2.2.raw; exact h.2.1.ne_map hb
theorem TbIs.t_m (h : TbIs w B t mb p n c τ) : t ≠ mb := by
  rintro rfl
  obtain ⟨es, cl, hb⟩ := h.2.2.raw
  have := h.1
  rw [hb] at this
  cases this
theorem TbIs.t_lt (h : TbIs w B t mb p n c τ) : t < w.heap.size := lt_of_block h.1
theorem TbIs.m_lt (h : TbIs w B t mb p n c τ) : mb < w.heap.size := h.2.2.lt
end

set_option maxHeartbeats 1000000 in
theorem new_any (w : World) : Calls Try.prog 30 #[] w fun e w' => ∃ t mb, e = .returned (.pointer (some ⟨t, 0, Option.none⟩)) ∧ TbIs w' w.heap.size t mb Option.none 0 0 ⟨[], []⟩ ∧ w.heap.size ≤ t ∧ w.heap.size ≤ mb ∧ Keeps Nil w w' := by
  have hmm := @run_makeMap Try.prog
  go_enter Try.func30, Try.ntmps30
  go_wp2
  go_ret
  refine ⟨w.heap.size + 1, w.heap.size, rfl, ⟨?_, ⟨rfl, .inl ⟨rfl, rfl, rfl⟩⟩, ?_⟩, by omega, Nat.le_refl _, ((Keeps.refl Nil w).alloc _).alloc _⟩
  · have := alloc_block (w.alloc (.map #[] 0)) (.cells #[.slice Option.none 0 0, .map (some w.heap.size)] 91 (0, 0))
    simpa using this
  · exact (MapIs.made w).keep ((Keeps.refl Nil _).alloc _) (fun e => e)

set_option maxHeartbeats 2000000 in
theorem drop_of (q : Pl) (B t mb : Nat) (p : Option Addr) (n c : Nat) (τ : Tb) (w : World) (h : TbIs w B t mb p n c τ) (hn : n ≤ 1000)
    (hp : ∀ (x : En) (W : World), (∃ i : Nat, τ.L[i]? = some x) → Keeps (InP p) w W → Calls Try.prog 35 #[q.val, x.val] W fun e w' => e = .returned (.bool (decide (q = x.p))) ∧ Keeps Nil W w') :
    Calls Try.prog 34 #[.pointer (some ⟨t, 0, Option.none⟩), .func (.func 35) #[q.val] #[]] w fun e w' => (∃ n' : Nat, n' ≤ n ∧ e = .returned (.int .i64 ((n : Int) - n')) ∧ TbIs w' B t mb p n' c ⟨τ.L.filter (fun x => !(decide (q = x.p))), τ.S⟩) ∧ Keeps (TOwn t mb p) w w' := by
  have HC := hid (delete_of q B p n c τ.L w h.2.1 hp)
  have H := hid h
  have hlen : ∀ n', (∃ v : World, Sl v B p n' c (τ.L.filter (fun x => !(decide (q = x.p))))) → n' ≤ n := by
    rintro n' ⟨v, hv⟩
    rw [← hv.1, ← h.2.1.1]
    exact List.length_filter_le _ _
  have HLEN := hid hlen
  obtain ⟨a0, a1⟩ := two_cells h.1
  clear hp h hlen
  go_enter Try.func34, Try.ntmps34
  go_wp2_with fail
  refine HC.out.mono ?_; rintro ee w2 ⟨⟨n', rfl, hs⟩, k2⟩
  have HS := hid hs
  have hn' := HLEN.out n' ⟨w2, hs⟩
  have b2 := (k2.block t H.out.t_lt H.out.not_t).trans H.out.1
  have m2 := hid (H.out.2.2.keep k2 H.out.not_m)
  obtain ⟨b0, b1⟩ := two_cells b2
  obtain ⟨f0, f1⟩ := two_free b2
  have HB2 := hid b2
  clear hs b2
  go_wp2_with fail
  go_ret
  have kt : Keeps (At t) w2 (w2.setCell ⟨t, 0, Option.none⟩ (.slice p n' c)) := (Keeps.refl _ _).set _ _ (at_self _) _
  have hne := HS.out.ne_cells HB2.out (by decide)
  refine ⟨⟨n', hn', rfl, setCell_block HB2.out 0 _, HS.out.keepP kt (fun g hg hl e => hne (by rw [At] at e; subst e; exact hg)), m2.out.keep kt (fun e => H.out.t_m e.symm)⟩, (k2.mono (fun k e => .inr (.inr e))).trans (kt.mono (fun k e => .inl e))⟩

set_option maxHeartbeats 2000000 in
theorem drop_tick  (B t mb : Nat) (p : Option Addr) (n c : Nat) (τ : Tb) (w : World) (h : TbIs w B t mb p n c τ) (hn : n ≤ 1000)
    (hp : ∀ (x : En) (W : World), (∃ i : Nat, τ.L[i]? = some x) → Keeps (InP p) w W → Calls Try.prog 36 #[x.val] W fun e w' => e = .returned (.bool (decide (40 ≤ x.age))) ∧ Keeps Nil W w') :
    Calls Try.prog 34 #[.pointer (some ⟨t, 0, Option.none⟩), .func (.func 36) #[] #[]] w fun e w' => (∃ n' : Nat, n' ≤ n ∧ e = .returned (.int .i64 ((n : Int) - n')) ∧ TbIs w' B t mb p n' c ⟨τ.L.filter (fun x => !(decide (40 ≤ x.age))), τ.S⟩) ∧ Keeps (TOwn t mb p) w w' := by
  have HC := hid (delete_tick  B p n c τ.L w h.2.1 hp)
  have H := hid h
  have hlen : ∀ n', (∃ v : World, Sl v B p n' c (τ.L.filter (fun x => !(decide (40 ≤ x.age))))) → n' ≤ n := by
    rintro n' ⟨v, hv⟩
    rw [← hv.1, ← h.2.1.1]
    exact List.length_filter_le _ _
  have HLEN := hid hlen
  obtain ⟨a0, a1⟩ := two_cells h.1
  clear hp h hlen
  go_enter Try.func34, Try.ntmps34
  go_wp2_with fail
  refine HC.out.mono ?_; rintro ee w2 ⟨⟨n', rfl, hs⟩, k2⟩
  have HS := hid hs
  have hn' := HLEN.out n' ⟨w2, hs⟩
  have b2 := (k2.block t H.out.t_lt H.out.not_t).trans H.out.1
  have m2 := hid (H.out.2.2.keep k2 H.out.not_m)
  obtain ⟨b0, b1⟩ := two_cells b2
  obtain ⟨f0, f1⟩ := two_free b2
  have HB2 := hid b2
  clear hs b2
  go_wp2_with fail
  go_ret
  have kt : Keeps (At t) w2 (w2.setCell ⟨t, 0, Option.none⟩ (.slice p n' c)) := (Keeps.refl _ _).set _ _ (at_self _) _
  have hne := HS.out.ne_cells HB2.out (by decide)
  refine ⟨⟨n', hn', rfl, setCell_block HB2.out 0 _, HS.out.keepP kt (fun g hg hl e => hne (by rw [At] at e; subst e; exact hg)), m2.out.keep kt (fun e => H.out.t_m e.symm)⟩, (k2.mono (fun k e => .inr (.inr e))).trans (kt.mono (fun k e => .inl e))⟩

set_option maxHeartbeats 2000000 in
theorem drop_flush (q : Int) (bx : Nat) (B t mb : Nat) (p : Option Addr) (n c : Nat) (τ : Tb) (w : World) (h : TbIs w B t mb p n c τ) (hn : n ≤ 1000)
    (hp : ∀ (x : En) (W : World), (∃ i : Nat, τ.L[i]? = some x) → Keeps (InP p) w W → Calls Try.prog 37 #[x.val, .pointer (some ⟨bx, 0, Option.none⟩)] W fun e w' => e = .returned (.bool ((bits BinOp.and .u8 (q / 2 ^ x.port.toNat) 1 == 1))) ∧ Keeps Nil W w') :
    Calls Try.prog 34 #[.pointer (some ⟨t, 0, Option.none⟩), .func (.func 37) #[] #[.pointer (some ⟨bx, 0, Option.none⟩)]] w fun e w' => (∃ n' : Nat, n' ≤ n ∧ e = .returned (.int .i64 ((n : Int) - n')) ∧ TbIs w' B t mb p n' c ⟨τ.L.filter (fun x => !((bits BinOp.and .u8 (q / 2 ^ x.port.toNat) 1 == 1))), τ.S⟩) ∧ Keeps (TOwn t mb p) w w' := by
  have HC := hid (delete_flush q bx B p n c τ.L w h.2.1 hp)
  have H := hid h
  have hlen : ∀ n', (∃ v : World, Sl v B p n' c (τ.L.filter (fun x => !((bits BinOp.and .u8 (q / 2 ^ x.port.toNat) 1 == 1))))) → n' ≤ n := by
    rintro n' ⟨v, hv⟩
    rw [← hv.1, ← h.2.1.1]
    exact List.length_filter_le _ _
  have HLEN := hid hlen
  obtain ⟨a0, a1⟩ := two_cells h.1
  clear hp h hlen
  go_enter Try.func34, Try.ntmps34
  go_wp2_with fail
  refine HC.out.mono ?_; rintro ee w2 ⟨⟨n', rfl, hs⟩, k2⟩
  have HS := hid hs
  have hn' := HLEN.out n' ⟨w2, hs⟩
  have b2 := (k2.block t H.out.t_lt H.out.not_t).trans H.out.1
  have m2 := hid (H.out.2.2.keep k2 H.out.not_m)
  obtain ⟨b0, b1⟩ := two_cells b2
  obtain ⟨f0, f1⟩ := two_free b2
  have HB2 := hid b2
  clear hs b2
  go_wp2_with fail
  go_ret
  have kt : Keeps (At t) w2 (w2.setCell ⟨t, 0, Option.none⟩ (.slice p n' c)) := (Keeps.refl _ _).set _ _ (at_self _) _
  have hne := HS.out.ne_cells HB2.out (by decide)
  refine ⟨⟨n', hn', rfl, setCell_block HB2.out 0 _, HS.out.keepP kt (fun g hg hl e => hne (by rw [At] at e; subst e; exact hg)), m2.out.keep kt (fun e => H.out.t_m e.symm)⟩, (k2.mono (fun k e => .inr (.inr e))).trans (kt.mono (fun k e => .inl e))⟩
end Go.Proofs.Ytcplmdgnldmhbaa
