/-
  Rows: slices of wide elements as they read, and append of such. No condition.
-/
import Derived.Test.YthnkeppkhdceoaaKit
import Derived.Laws.AppendOwn
import Derived.Deep.AppendSrc
import Derived.Deep.AppendLies
namespace Go.Proofs.Ythnkeppkhdceoaa
set_option linter.unusedSimpArgs false
open Go.RowKit
set_option linter.unusedVariables false

/-- A slice that reads as these cells (sz each element), in a block from B on. -/
def WV (w : World) (B sz : Nat) (p : Option Addr) (n c : Nat) (xs : List Value) : Prop :=
  xs.length = n * sz ∧ n ≤ c ∧ (0 < n → ∃ g off, p = some ⟨g, off, Option.none⟩ ∧ B ≤ g ∧ g < w.heap.size ∧ ∀ j u, xs[j]? = some u → w.cell? ⟨g, off + j, Option.none⟩ = some u)
section
variable {w w' : World} {B sz n c : Nat} {p : Option Addr} {xs : List Value}
theorem WV.keep {S : Nat → Prop} (h : WV w B sz p n c xs) (k : Keeps S w w') (hS : ∀ g, B ≤ g → g < w.heap.size → ¬ S g) : WV w' B sz p n c xs :=
  ⟨h.1, h.2.1, fun hn => by
    obtain ⟨g, off, e, hb, hl, hc⟩ := h.2.2 hn
    exact ⟨g, off, e, hb, Nat.lt_of_lt_of_le hl k.size, fun j u hu => by rw [k.cell (p := ⟨g, off + j, Option.none⟩) hl (hS g hb hl)]; exact hc j u hu⟩⟩
theorem WV.keepN (h : WV w B sz p n c xs) (k : Keeps Nil w w') : WV w' B sz p n c xs := h.keep k (fun _ _ _ e => e)
theorem WV.mono (h : WV w B sz p n c xs) {B' : Nat} (hB : B' ≤ B) : WV w B' sz p n c xs :=
  ⟨h.1, h.2.1, fun hn => by
    obtain ⟨g, off, e, hb, hl, hc⟩ := h.2.2 hn
    exact ⟨g, off, e, Nat.le_trans hB hb, hl, hc⟩⟩
theorem WV.nil (w : World) (B sz : Nat) (p : Option Addr) (c : Nat) : WV w B sz p 0 c [] := ⟨by simp, Nat.zero_le _, fun h => absurd h (Nat.lt_irrefl _)⟩
theorem WV.of_own {e : TypeId} (h : w.ownsRow B e sz (.slice p n c) n xs) : WV w B sz p n c xs := by
  have hl := h.1
  rcases h.2 with ⟨hv, hn⟩ | ⟨g, cap, cur, hv, hb, hg, hle, _⟩
  · injection hv with h1 h2 h3
    subst hn
    subst h3
    have : xs = [] := List.eq_nil_of_length_eq_zero (by simpa using hl)
    subst this
    exact ⟨by simp, Nat.le_refl _, fun h => absurd h (Nat.lt_irrefl _)⟩
  · injection hv with h1 h2 h3
    subst h3
    refine ⟨hl, hle, fun _ => ⟨g, 0, h1, hb, lt_of_block hg, fun j u hu => ?_⟩⟩
    subst h1
    have := h.cells (g := g) rfl j u hu
    rw [Nat.zero_add]
    rwa [show (⟨g, 0, Option.none⟩ : Addr).add j = ⟨g, j, Option.none⟩ from by unfold Addr.add; split <;> simp_all] at this
/-- Behind the first k elements. -/
theorem WV.drop {g off k : Nat} (h : WV w B sz (some ⟨g, off, Option.none⟩) n c xs) (hk : k ≤ n) : WV w B sz (some ⟨g, off + k * sz, Option.none⟩) (n - k) (c - k) (xs.drop (k * sz)) := by
  refine ⟨by rw [List.length_drop, h.1, Nat.sub_mul], by have := h.2.1; omega, fun hn => ?_⟩
  obtain ⟨g', off', e, hb, hl, hc⟩ := h.2.2 (by omega)
  injection e with e; injection e with e1 e2; subst e1 e2
  exact ⟨_, _, rfl, hb, hl, fun j u hu => by rw [Nat.add_assoc]; exact hc (k * sz + j) u (by rw [← hu, List.getElem?_drop])⟩
/-- The first k elements. -/
theorem WV.take {k : Nat} (h : WV w B sz p n c xs) (hk : k ≤ n) : WV w B sz p k c (xs.take (k * sz)) := by
  refine ⟨by rw [List.length_take, h.1]; exact Nat.min_eq_left (Nat.mul_le_mul_right _ hk), Nat.le_trans hk h.2.1, fun hn => ?_⟩
  obtain ⟨g, off, e, hb, hl, hc⟩ := h.2.2 (by omega)
  refine ⟨g, off, e, hb, hl, fun j u hu => hc j u ?_⟩
  rw [List.getElem?_take] at hu
  split at hu
  · exact hu
  · cases hu
end
section
variable {P : Program} (w : World)
theorem run_append_zeroW (base : Nat) (t ty e : TypeId) (i : TypeInfo) (size : Nat) (ht : P.underlying t = some (.slice e)) (hi : P.info? e = some i)
    (v : Value) (n : Nat) (xs : List Value) (hown : w.ownsRow base e size v n xs) (c : Nat) : (Builtin.append_ #[t, t] ty #[v, .slice Option.none 0 c]).run P w = .ok v w := by
  rcases hown.2 with ⟨rfl, rfl⟩ | ⟨g, cap, cur, rfl, _, _, hnc, _⟩
  · simp [Builtin.append_, run_underlying ht, sizeOf, typeInfo, hi, Builtin.lenOf, Builtin.firstCells]
  · simp [Builtin.append_, run_underlying ht, sizeOf, typeInfo, hi, Builtin.lenOf, Builtin.firstCells, hnc, storeCells]
theorem run_append_wv (base : Nat) (t ty e : TypeId) (i : TypeInfo) (z : Value) (size bytes : Nat) (ht : P.underlying t = some (.slice e)) (hi : P.info? e = some i) (hz : i.zero = some z)
    (hsize : i.size = size) (hby : i.bytes = bytes) (hzs : z.cells.size = size) (hsz : 0 < size)
    (v : Value) (n : Nat) (xs : List Value) (hown : w.ownsRow base e size v n xs)
    (B : Nat) (A : Option Addr) (m c : Nat) (news : List Value) (hr : WV w B size A m c news) (h1 : ∀ u ∈ news, u.oneCell' = true)
    (h63 : n + m ≤ maxLen) (hbytes : (n + m) * bytes ≤ 140737488355328) (hbase : base ≤ w.heap.size) :
    ∃ v' w', (Builtin.append_ #[t, t] ty #[v, .slice A m c]).run P w = .ok v' w' ∧ w'.ownsRow base e size v' (n + m) (xs ++ news) ∧ w.grownBy w' v.ownBlock ∧
      (v'.ownBlock = v.ownBlock ∨ v'.ownBlock = some w.heap.size) := by
  have key : ∀ ad : Addr, A = some ad → (∀ j u, news[j]? = some u → w.cell? (ad.add j) = some u) → ∃ v' w', (Builtin.append_ #[t, t] ty #[v, .slice A m c]).run P w = .ok v' w' ∧ w'.ownsRow base e size v' (n + m) (xs ++ news) ∧ w.grownBy w' v.ownBlock ∧
      (v'.ownBlock = v.ownBlock ∨ v'.ownBlock = some w.heap.size) := by
    intro ad hA hc
    subst hA
    obtain ⟨v', w', hrun, h2, h3, _, h5⟩ := run_append_own_at (P := P) w base t ty e i z size bytes ht hi hz hsize hby hzs hsz v n xs hown ad m c news hr.1 hc h1 h63 hbytes hbase
    exact ⟨v', w', hrun, h2, h3, h5⟩
  rcases Nat.eq_zero_or_pos m with h0 | h0
  · subst h0
    have hn : news = [] := List.eq_nil_of_length_eq_zero (by simpa using hr.1)
    subst hn
    rcases A with _ | ad
    · exact ⟨v, w, run_append_zeroW w base t ty e i size ht hi v n xs hown c, by simpa using hown, World.grownBy.refl w _, .inl rfl⟩
    · exact key ad rfl (fun j u hu => by simp at hu)
  · obtain ⟨g, off, rfl, _, _, hc⟩ := hr.2.2 h0
    refine key _ rfl (fun j u hu => ?_)
    have e1 : (⟨g, off, Option.none⟩ : Addr).add j = ⟨g, off + j, Option.none⟩ := by unfold Addr.add; split <;> simp_all
    rw [e1]
    exact hc j u hu
theorem wp_append_wv {o : Oper} {a : Act} {K : Act → World → Prop} {Q : Exit → Act → World → Prop} (s x : Operand) (t : TypeId)
    (ho : o.op = .call { callee := .builtin .append, args := #[s, x], argTypes := #[t, t] })
    (base : Nat) (e : TypeId) (i : TypeInfo) (z : Value) (size bytes : Nat) (ht : P.underlying t = some (.slice e)) (hi : P.info? e = some i) (hz : i.zero = some z)
    (hsize : i.size = size) (hby : i.bytes = bytes) (hzs : z.cells.size = size) (hsz : 0 < size)
    (v : Value) (n : Nat) (xs : List Value) (hs : a.eval s = v) (hown : w.ownsRow base e size v n xs)
    (B : Nat) (A : Option Addr) (m c : Nat) (news : List Value) (hx : a.eval x = .slice A m c) (hr : WV w B size A m c news) (h1 : ∀ u ∈ news, u.oneCell' = true)
    (h63 : n + m ≤ maxLen) (hbytes : (n + m) * bytes ≤ 140737488355328) (hbase : base ≤ w.heap.size)
    (h : ∀ v' w', w'.ownsRow base e size v' (n + m) (xs ++ news) → w.grownBy w' v.ownBlock → (v'.ownBlock = v.ownBlock ∨ v'.ownBlock = some w.heap.size) → K (a.put o.dst v') w') : o.wp P a w K Q := by
  obtain ⟨v', w', hrun, h2, h3, h4⟩ := run_append_wv (P := P) w base t o.type e i z size bytes ht hi hz hsize hby hzs hsz v n xs hown B A m c news hr h1 h63 hbytes hbase
  unfold Oper.wp execOp
  simp only [ho, resolve, invoke, builtin, Sem.run_bind, Sem.run_pure, Result.andThen_ok, List.map_toArray, List.map_cons, List.map_nil, hs, hx, hrun]
  exact h v' w' h2 h3 h4
theorem wpList_append_wv {ops : Array Oper} {rest : List Oper} {o : Oper} {a : Act} {Q : Exit → Act → World → Prop} (hgd : o.guard = Option.none) (s x : Operand) (t : TypeId)
    (ho : o.op = .call { callee := .builtin .append, args := #[s, x], argTypes := #[t, t] })
    (base : Nat) (e : TypeId) (i : TypeInfo) (z : Value) (size bytes : Nat) (ht : P.underlying t = some (.slice e)) (hi : P.info? e = some i) (hz : i.zero = some z)
    (hsize : i.size = size) (hby : i.bytes = bytes) (hzs : z.cells.size = size) (hsz : 0 < size)
    (v : Value) (n : Nat) (xs : List Value) (hs : a.eval s = v) (hown : w.ownsRow base e size v n xs)
    (B : Nat) (A : Option Addr) (m c : Nat) (news : List Value) (hx : a.eval x = .slice A m c) (hr : WV w B size A m c news) (h1 : ∀ u ∈ news, u.oneCell' = true)
    (h63 : n + m ≤ maxLen) (hbytes : (n + m) * bytes ≤ 140737488355328) (hbase : base ≤ w.heap.size)
    (h : ∀ v' w', w'.ownsRow base e size v' (n + m) (xs ++ news) → w.grownBy w' v.ownBlock → (v'.ownBlock = v.ownBlock ∨ v'.ownBlock = some w.heap.size) → wpList P ops Q rest (a.put o.dst v') w') : wpList P ops Q (o :: rest) a w :=
  wpList_plain hgd fun _ hK => wp_append_wv w s x t ho base e i z size bytes ht hi hz hsize hby hzs hsz v n xs hs hown B A m c news hx hr h1 h63 hbytes hbase fun v' w' h2 h3 h4 => hK _ _ (h v' w' h2 h3 h4)
theorem step_append_wv {ops : Array Oper} {o : Oper} {a : Act} {K : Act → World → Prop} {Q : Exit → Act → World → Prop} {E : Prop} (hgd : o.guard = Option.none) (s x : Operand) (t : TypeId)
    (ho : o.op = .call { callee := .builtin .append, args := #[s, x], argTypes := #[t, t] })
    (base : Nat) (e : TypeId) (i : TypeInfo) (z : Value) (size bytes : Nat) (ht : P.underlying t = some (.slice e)) (hi : P.info? e = some i) (hz : i.zero = some z)
    (hsize : i.size = size) (hby : i.bytes = bytes) (hzs : z.cells.size = size) (hsz : 0 < size)
    (v : Value) (n : Nat) (xs : List Value) (hs : a.eval s = v) (hown : w.ownsRow base e size v n xs)
    (B : Nat) (A : Option Addr) (m c : Nat) (news : List Value) (hx : a.eval x = .slice A m c) (hr : WV w B size A m c news) (h1 : ∀ u ∈ news, u.oneCell' = true)
    (h63 : n + m ≤ maxLen) (hbytes : (n + m) * bytes ≤ 140737488355328) (hbase : base ≤ w.heap.size)
    (h : ∀ v' w', w'.ownsRow base e size v' (n + m) (xs ++ news) → w.grownBy w' v.ownBlock → (v'.ownBlock = v.ownBlock ∨ v'.ownBlock = some w.heap.size) → K (a.put o.dst v') w') :
    if Region.wanted o (yielded ops a.tmps) = true then Oper.wp P o a w K Q else E := by
  have hw : Region.wanted o (yielded ops a.tmps) = true := by simp [Region.wanted, hgd]
  rw [if_pos hw]
  exact wp_append_wv w s x t ho base e i z size bytes ht hi hz hsize hby hzs hsz v n xs hs hown B A m c news hx hr h1 h63 hbytes hbase h
end
/-- One element, new in a block of its own. -/
theorem WV.new (w : World) (cs : Array Value) (T : TypeId) (sz : Nat) (hs : cs.size = sz) : WV (w.alloc (.cells cs T (0, 0))) 0 sz (some ⟨w.heap.size, 0, Option.none⟩) 1 1 cs.toList :=
  ⟨by simp [hs], Nat.le_refl _, fun _ => ⟨_, _, rfl, Nat.zero_le _, by simp, fun j u hu => by
    have hb := alloc_block w (.cells cs T (0, 0))
    have : cs[j]? = some u := by simpa using hu
    simp only [World.cell?, Nat.zero_add]
    rw [hb]
    exact this⟩⟩
theorem own_ge {w : World} {base : Nat} {e : TypeId} {sz : Nat} {v : Value} {n : Nat} {xs : List Value} (h : w.ownsRow base e sz v n xs) {k : Nat} (hk : v.ownBlock = some k) : base ≤ k := (h.lt k hk).1
end Go.Proofs.Ythnkeppkhdceoaa
