/-
  Layer 8: a row of entries copied (slices.Clone); List; Statics. Conditions: it lies so.
-/
import Derived.Test.YtcplmdgnldmhbaaSet
import Derived.Maps.AppendAt
namespace Go.Proofs.Ytcplmdgnldmhbaa
open Go.RowKit
set_option linter.unusedVariables false

theorem Row.cellsAt {w : World} {g c : Nat} {L : List En} (h : Row w g c L) : ∀ j u, (flat L)[j]? = some u → w.cell? ((⟨g, 0, Option.none⟩ : Addr).add j) = some u := by
  intro j u hu
  have e1 : (⟨g, 0, Option.none⟩ : Addr).add j = ⟨g, j, Option.none⟩ := by unfold Addr.add; split <;> simp_all
  rw [e1]
  obtain ⟨cur, hb, _, _, _, hat⟩ := h
  have ej : j = (j / 9) * 9 + j % 9 := by omega
  have hq : j % 9 < 9 := Nat.mod_lt _ (by omega)
  have h2 := flat_get L (j / 9) (j % 9) hq
  rw [← ej, hu] at h2
  cases hx : L[j / 9]? with
  | none => rw [hx] at h2; cases h2
  | some x =>
    rw [hx] at h2
    have := hat _ x hx _ u h2.symm
    rw [← ej] at this
    simp [World.cell?, hb, this]
section
variable {P : Program} (w : World)
theorem run_append_zero9 (base : Nat) (t ty e : TypeId) (i : TypeInfo) (ht : P.underlying t = some (.slice e)) (hi : P.info? e = some i)
    (v : Value) (n : Nat) (xs : List Value) (hown : w.ownsRow base e 9 v n xs) (c : Nat) : (Builtin.append_ #[t, t] ty #[v, .slice Option.none 0 c]).run P w = .ok v w := by
  rcases hown.2 with ⟨rfl, rfl⟩ | ⟨g, cap, cur, rfl, _, _, hnc, _⟩
  · simp [Builtin.append_, run_underlying ht, sizeOf, typeInfo, hi, Builtin.lenOf, Builtin.firstCells]
  · simp [Builtin.append_, run_underlying ht, sizeOf, typeInfo, hi, Builtin.lenOf, Builtin.firstCells, hnc, storeCells]
theorem run_append_sl (base : Nat) (t ty : TypeId) (i : TypeInfo) (z : Value) (bytes : Nat) (ht : P.underlying t = some (.slice 95)) (hi : P.info? 95 = some i) (hz : i.zero = some z)
    (hsize : i.size = 9) (hby : i.bytes = bytes) (hzs : z.cells.size = 9)
    (v : Value) (n : Nat) (xs : List Value) (hown : w.ownsRow base 95 9 v n xs)
    (B : Nat) (p : Option Addr) (m c : Nat) (L : List En) (hr : Sl w B p m c L) (h63 : n + m ≤ maxLen) (hbytes : (n + m) * bytes ≤ 140737488355328) (hbase : base ≤ w.heap.size) :
    ∃ v' w', (Builtin.append_ #[t, t] ty #[v, .slice p m c]).run P w = .ok v' w' ∧ w'.ownsRow base 95 9 v' (n + m) (xs ++ flat L) ∧ w.grownBy w' v.ownBlock ∧
      (v'.ownBlock = v.ownBlock ∨ v'.ownBlock = some w.heap.size) := by
  obtain ⟨hl, ⟨rfl, hm, rfl⟩ | ⟨g, rfl, hB, hrow⟩⟩ := hr
  · subst hm
    have : L = [] := List.eq_nil_of_length_eq_zero hl
    subst this
    exact ⟨v, w, run_append_zero9 w base t ty 95 i ht hi v n xs hown 0, by simpa [flat] using hown, World.grownBy.refl w _, .inl rfl⟩
  · obtain ⟨v', w', hrun, h2, h3, _, h5⟩ := run_append_own_at (P := P) w base t ty 95 i z 9 bytes ht hi hz hsize hby hzs (by omega) v n xs hown ⟨g, 0, Option.none⟩ m c (flat L) (by rw [flat_len, hl]) hrow.cellsAt (flat_one L) h63 hbytes hbase
    exact ⟨v', w', hrun, h2, h3, h5⟩
theorem wpList_append_sl {ops : Array Oper} {rest : List Oper} {o : Oper} {a : Act} {Q : Exit → Act → World → Prop} (hgd : o.guard = Option.none) (s x : Operand) (t : TypeId)
    (ho : o.op = .call { callee := .builtin .append, args := #[s, x], argTypes := #[t, t] })
    (base : Nat) (i : TypeInfo) (z : Value) (bytes : Nat) (ht : P.underlying t = some (.slice 95)) (hi : P.info? 95 = some i) (hz : i.zero = some z)
    (hsize : i.size = 9) (hby : i.bytes = bytes) (hzs : z.cells.size = 9)
    (v : Value) (n : Nat) (xs : List Value) (hs : a.eval s = v) (hown : w.ownsRow base 95 9 v n xs)
    (B : Nat) (p : Option Addr) (m c : Nat) (L : List En) (hx : a.eval x = .slice p m c) (hr : Sl w B p m c L) (h63 : n + m ≤ maxLen) (hbytes : (n + m) * bytes ≤ 140737488355328) (hbase : base ≤ w.heap.size)
    (h : ∀ v' w', w'.ownsRow base 95 9 v' (n + m) (xs ++ flat L) → w.grownBy w' v.ownBlock → (v'.ownBlock = v.ownBlock ∨ v'.ownBlock = some w.heap.size) → wpList P ops Q rest (a.put o.dst v') w') : wpList P ops Q (o :: rest) a w :=
  wpList_plain hgd fun _ hK => by
    obtain ⟨v', w', hrun, h2, h3, h4⟩ := run_append_sl (P := P) w base t o.type i z bytes ht hi hz hsize hby hzs v n xs hown B p m c L hr h63 hbytes hbase
    unfold Oper.wp execOp
    simp only [ho, resolve, invoke, builtin, Sem.run_bind, Sem.run_pure, Result.andThen_ok, List.map_toArray, List.map_cons, List.map_nil, hs, hx, hrun]
    exact hK _ _ (h v' w' h2 h3 h4)
end

set_option maxHeartbeats 2000000 in
theorem clone_any (B : Nat) (p : Option Addr) (n c : Nat) (L : List En) (w : World) (h : Sl w B p n c L) (hn : n ≤ 1000) :
    Calls Try.prog 41 #[.slice p n c] w fun e w' => (∃ p' c', e = .returned (.slice p' n c') ∧ Sl w' w.heap.size p' n c' L) ∧ Keeps Nil w w' := by
  obtain ⟨i0, hi, hz0, hz1, hz2⟩ := info_parts einfo
  have HI := hid (And.intro hi (And.intro hz0 (And.intro hz1 hz2)))
  have H := hid h
  clear hi hz0 hz1 hz2 h
  cases p with
  | none =>
    have hn0 : n = 0 ∧ c = 0 := by
      obtain ⟨_, ⟨_, h1, h2⟩ | ⟨g, e, _⟩⟩ := H.out
      · exact ⟨h1, h2⟩
      · cases e
    obtain ⟨rfl, rfl⟩ := hn0
    have heq : ∀ W, (binOp .eql 47 (.slice Option.none 0 0) (.slice Option.none 0 0)).run Try.prog W = .ok (.bool true) W := fun W => Lib.run_eql_slice_nil (P := Try.prog) W 47 95 Option.none 0 0 0 0 Try.underlying47
    go_enter Try.func41, Try.ntmps41
    go_wp2_with fail
    go_ret
    exact ⟨⟨_, _, rfl, H.out.1, .inl ⟨rfl, rfl, rfl⟩⟩, Keeps.refl _ _⟩
  | some a =>
    have heq : ∀ W, (binOp .eql 47 (.slice (some a) n c) (.slice Option.none 0 0)).run Try.prog W = .ok (.bool false) W := fun W => Lib.run_eql_slice_nil (P := Try.prog) W 47 95 (some a) n c 0 0 Try.underlying47
    go_enter Try.func41, Try.ntmps41
    go_wp2_with (at_builtin; refine wpList_append_sl (o := ⟨some 7, _, _, _, _, _⟩) _ rfl _ _ 47 rfl w.heap.size i0 (.agg #[.int .u16 0, .int .u8 0, .int .u8 0, .int .u8 0, .int .u8 0, .int .u8 0, .int .u8 0, .int .u8 0, .int .i64 0]) 24 Try.underlying47 HI.out.1 HI.out.2.1 HI.out.2.2.1 HI.out.2.2.2 rfl (.slice (some ⟨w.heap.size, 0, Option.none⟩) 0 0) 0 [] rfl (World.ownsRow_made w #[] 0 (Nat.le_refl _) (by decide) rfl) B (some a) n c L rfl (H.out.keepN ((Keeps.refl Nil w).alloc _)) (by unfold maxLen; omega) (by omega) (by simp) ?_; intro v1 w1 own1 hg1 hat1)
    go_ret
    simp only [Nat.zero_add, List.nil_append] at own1
    obtain ⟨p', c', hv⟩ := own_shape own1
    subst hv
    exact ⟨⟨p', c', rfl, Sl.of_own own1⟩, ((Keeps.refl Nil w).alloc _).grown hg1 (fun k hk hlt => by simp [Value.ownBlock] at hk; omega)⟩

set_option maxHeartbeats 2000000 in
theorem list_any (B t mb : Nat) (p : Option Addr) (n c : Nat) (τ : Tb) (w : World) (h : TbIs w B t mb p n c τ) (hn : n ≤ 1000) :
    Calls Try.prog 18 #[.pointer (some ⟨t, 0, Option.none⟩)] w fun e w' => (∃ p' c', e = .returned (.slice p' n c') ∧ Sl w' w.heap.size p' n c' τ.L) ∧ Keeps Nil w w' := by
  have H := hid h
  obtain ⟨a0, a1⟩ := two_cells h.1
  clear h
  go_enter Try.func18, Try.ntmps18
  go_wp2_with fail
  refine (clone_any B p n c τ.L _ H.out.2.1 hn).mono ?_; rintro ee w2 ⟨⟨p', c', rfl, s2⟩, k2⟩
  go_wp2_with fail
  go_ret
  exact ⟨⟨p', c', rfl, s2⟩, k2⟩

end Go.Proofs.Ytcplmdgnldmhbaa
