/-
  Layer 8: a database's state as plain data, how acts turn it; fdb.Table follows it. Conditions: the numbers are in range.
-/
import Derived.Test.YtcplmdgnldmhbaaLearnG
namespace Go.Proofs.Ytcplmdgnldmhbaa
open Go.RowKit
set_option linter.unusedVariables false

open Classical in
noncomputable def Tb.learn (τ : Tb) (q : Pl) (port : Int) : Tb :=
  if mayLearn q port ∧ sget τ.S q = none then
    ⟨(if (τ.L.filter (fun x => !(decide (q = x.p)))).length < 32 then τ.L.filter (fun x => !(decide (q = x.p))) else (τ.L.filter (fun x => !(decide (q = x.p)))).drop 1) ++ [⟨q, port, 0⟩], τ.S⟩
  else τ
def Tb.look (τ : Tb) (q : Pl) : Int × Bool :=
  match sget τ.S q with
  | some u => (u, true)
  | none => match τ.L.find? (fun x => decide (q = x.p)) with
    | some x => (2 ^ x.port.toNat, true)
    | none => (0, false)
def Tb.tick (τ : Tb) : Tb := ⟨(τ.L.map older).filter (fun x => !(decide (40 ≤ x.age))), τ.S⟩
def Tb.flush (τ : Tb) (q : Int) : Tb := ⟨τ.L.filter (fun x => !(bits BinOp.and .u8 (q / 2 ^ x.port.toNat) 1 == 1)), τ.S⟩
def Tb.set (τ : Tb) (q : Pl) (ports : Int) : Tb × Int :=
  if 1 ≤ q.v ∧ q.v ≤ 4094 then
    if sget τ.S q = none ∧ 16 ≤ τ.S.length then (τ, 6) else (⟨τ.L.filter (fun x => !(decide (q = x.p))), sput τ.S q ports⟩, 0)
  else (τ, 2)
def Tb.unset (τ : Tb) (q : Pl) : Tb × Int :=
  if 1 ≤ q.v ∧ q.v ≤ 4094 then if sget τ.S q = none then (τ, 7) else (⟨τ.L, sdel τ.S q⟩, 0) else (τ, 2)

structure Tb.Good (τ : Tb) (k : Nat) : Prop where
  L : τ.L.length ≤ 32
  S : τ.S.length ≤ 16
  once : Once τ.S
  ent : ∀ x ∈ τ.L, InR x ∧ 0 ≤ x.age ∧ x.age ≤ k
theorem Tb.Good.more {τ : Tb} {k : Nat} (h : τ.Good k) : τ.Good (k + 1) := ⟨h.L, h.S, h.once, fun x hx => ⟨(h.ent x hx).1, (h.ent x hx).2.1, by have := (h.ent x hx).2.2; push_cast; omega⟩⟩
theorem Tb.Good.start : (⟨[], []⟩ : Tb).Good 0 := ⟨by simp, by simp, by simp [Once], by simp⟩
theorem Tb.Good.tick {τ : Tb} {k : Nat} (h : τ.Good k) : τ.tick.Good (k + 1) := by
  refine ⟨Nat.le_trans (List.length_filter_le _ _) (by rw [List.length_map]; exact h.L), h.S, h.once, fun x hx => ?_⟩
  have hx := (List.mem_filter.1 hx).1
  obtain ⟨y, hy, rfl⟩ := List.mem_map.1 hx
  obtain ⟨h1, h2, h3⟩ := h.ent y hy
  exact ⟨h1, by show 0 ≤ y.age + 1; omega, by show y.age + 1 ≤ ((k + 1 : Nat) : Int); push_cast; omega⟩
theorem Tb.Good.flush {τ : Tb} {k : Nat} (h : τ.Good k) (q : Int) : (τ.flush q).Good (k + 1) :=
  ⟨Nat.le_trans (List.length_filter_le _ _) h.L, h.S, h.once, fun x hx => h.more.ent x (List.mem_filter.1 hx).1⟩
theorem Tb.Good.set {τ : Tb} {k : Nat} (h : τ.Good k) (q : Pl) (ports : Int) : (τ.set q ports).1.Good (k + 1) := by
  unfold Tb.set
  split
  · split
    · exact h.more
    · rename_i hn
      refine ⟨Nat.le_trans (List.length_filter_le _ _) h.L, ?_, once_put h.once q ports, fun x hx => h.more.ent x (List.mem_filter.1 hx).1⟩
      show (sput τ.S q ports).length ≤ 16
      rw [sput_len]
      have := h.S
      cases hg : sget τ.S q with
      | none =>
        have : ¬ 16 ≤ τ.S.length := fun e => hn ⟨hg, e⟩
        simp; omega
      | some u => simp; omega
  · exact h.more
theorem Tb.Good.unset {τ : Tb} {k : Nat} (h : τ.Good k) (q : Pl) : (τ.unset q).1.Good (k + 1) := by
  unfold Tb.unset
  split
  · split
    · exact h.more
    · exact ⟨h.L, Nat.le_trans (List.length_filter_le _ _) h.S, once_del h.once q, h.more.ent⟩
  · exact h.more
theorem Tb.Good.learn {τ : Tb} {k : Nat} (h : τ.Good k) (q : Pl) (port : Int) (hp : 0 ≤ port) : (τ.learn q port).Good (k + 1) := by
  unfold Tb.learn
  split
  · rename_i hm
    have hf := Nat.le_trans (List.length_filter_le (fun x => !(decide (q = x.p))) τ.L) h.L
    have hmem : ∀ x ∈ (if (τ.L.filter (fun x => !(decide (q = x.p)))).length < 32 then τ.L.filter (fun x => !(decide (q = x.p))) else (τ.L.filter (fun x => !(decide (q = x.p)))).drop 1), x ∈ τ.L := by
      intro x hx
      split at hx
      · exact (List.mem_filter.1 hx).1
      · exact (List.mem_filter.1 (List.mem_of_mem_drop hx)).1
    refine ⟨?_, h.S, h.once, fun x hx => ?_⟩
    · show (_ ++ [_]).length ≤ 32
      rw [List.length_append]
      split
      · rename_i hl
        simp; omega
      · rename_i hl
        rw [List.length_drop]
        simp; omega
    · rcases List.mem_append.1 hx with hx | hx
      · exact h.more.ent x (hmem x hx)
      · simp at hx
        subst hx
        exact ⟨⟨hp, hm.1.2.1⟩, by show (0 : Int) ≤ 0; omega, by show (0 : Int) ≤ _; omega⟩
  · exact h.more

theorem idx_find (P : En → Bool) (L : List En) : (idx P L = -1 ∧ L.find? P = none) ∨ ∃ (k : Nat) (x : En), idx P L = k ∧ L[k]? = some x ∧ L.find? P = some x := by
  induction L with
  | nil => exact .inl ⟨rfl, rfl⟩
  | cons x r ih =>
    cases hp : P x with
    | true => exact .inr ⟨0, x, by simp [idx, hp], rfl, by simp [hp]⟩
    | false =>
      rcases ih with ⟨h1, h2⟩ | ⟨k, y, h1, h2, h3⟩
      · exact .inl ⟨by simp [idx, hp, h1], by rw [List.find?_cons, hp]; exact h2⟩
      · refine .inr ⟨k + 1, y, ?_, by simpa using h2, by rw [List.find?_cons, hp]; exact h3⟩
        simp only [idx, hp, h1]
        rw [if_neg (by simp), if_neg (by omega)]
        push_cast
        rfl

section
variable {w : World} {B t mb n c : Nat} {p : Option Addr} {τ : Tb} {k : Nat}
theorem TbIs.n_le (h : TbIs w B t mb p n c τ) (g : τ.Good k) : n ≤ 1000 := by have h1 := h.2.1.1; have h2 := g.L; omega
theorem TbIs.after {w' : World} {n' : Nat} {τ' : Tb} (h : TbIs w' B t mb p n' c τ') : After w w' B t mb p τ' := ⟨p, n', c, h, fun y hy => .inl hy⟩
theorem p_learn (h : TbIs w B t mb p n c τ) (g : τ.Good k) (hB : B ≤ w.heap.size) (q : Pl) (hq : q.Ok) (port : Int) :
    Calls Try.prog 39 #[.pointer (some ⟨t, 0, Option.none⟩), .int .u16 q.v, q.mac, .int .u8 port] w fun e w' => e = .returned (.tuple #[]) ∧ After w w' B t mb p (τ.learn q port) ∧ Keeps (TOwn t mb p) w w' := by
  by_cases hm : mayLearn q port
  · cases hu : sget τ.S q with
    | some u =>
      have e1 : τ.learn q port = τ := by unfold Tb.learn; rw [if_neg (by simp [hu])]
      rw [e1]
      refine (learn_static q hq port u B t mb p n c τ w h hm hu).mono ?_
      rintro e w' ⟨rfl, k⟩
      exact ⟨rfl, (h.keepN k).after, k.ofNil⟩
    | none =>
      by_cases hl : (τ.L.filter (fun x => !(decide (q = x.p)))).length < 32
      · have e1 : τ.learn q port = ⟨τ.L.filter (fun x => !(decide (q = x.p))) ++ [⟨q, port, 0⟩], τ.S⟩ := by unfold Tb.learn; rw [if_pos ⟨hm, hu⟩, if_pos hl]
        rw [e1]
        exact learn_room q hq port B t mb p n c τ w h hB hm hu (h.n_le g) hl
      · have e1 : τ.learn q port = ⟨(τ.L.filter (fun x => !(decide (q = x.p)))).drop 1 ++ [⟨q, port, 0⟩], τ.S⟩ := by unfold Tb.learn; rw [if_pos ⟨hm, hu⟩, if_neg hl]
        rw [e1]
        have := Nat.le_trans (List.length_filter_le (fun x => !(decide (q = x.p))) τ.L) g.L
        exact learn_full q hq port B t mb p n c τ w h hB hm hu (h.n_le g) (by omega)
  · have e1 : τ.learn q port = τ := by unfold Tb.learn; rw [if_neg (fun e => hm e.1)]
    rw [e1]
    refine (learn_no q hq port B t mb p n c τ w h hm).mono ?_
    rintro e w' ⟨rfl, k⟩
    exact ⟨rfl, (h.keepN k).after, k.ofNil⟩
theorem p_look (h : TbIs w B t mb p n c τ) (g : τ.Good k) (q : Pl) (hq : q.Ok) :
    Calls Try.prog 15 #[.pointer (some ⟨t, 0, Option.none⟩), .int .u16 q.v, q.mac] w fun e w' => e = .returned (.tuple #[.int .u8 (τ.look q).1, .bool (τ.look q).2]) ∧ Keeps Nil w w' := by
  cases hu : sget τ.S q with
  | some u =>
    have e1 : τ.look q = (u, true) := by unfold Tb.look; rw [hu]
    rw [e1]
    exact look_static q hq u B t mb p n c τ w h hu
  | none =>
    rcases idx_find (fun x => decide (q = x.p)) τ.L with ⟨h1, h2⟩ | ⟨k, x, h1, h2, h3⟩
    · have e1 : τ.look q = (0, false) := by unfold Tb.look; rw [hu]; simp only; rw [h2]
      rw [e1]
      exact look_none q hq B t mb p n c τ w h hu h1
    · have e1 : τ.look q = (2 ^ x.port.toNat, true) := by unfold Tb.look; rw [hu]; simp only; rw [h3]
      rw [e1]
      exact look_some q hq B t mb p n c τ w h hu k x h1 h2 (g.ent x (List.mem_of_getElem? h2)).1
theorem p_tick (h : TbIs w B t mb p n c τ) (g : τ.Good k) (hk : k ≤ 300) :
    Calls Try.prog 13 #[.pointer (some ⟨t, 0, Option.none⟩)] w fun e w' => e = .returned (.tuple #[]) ∧ After w w' B t mb p τ.tick ∧ Keeps (TOwn t mb p) w w' := by
  refine (tick_any B t mb p n c τ w h (h.n_le g) (fun x hx => ⟨(g.ent x hx).2.1, by have := (g.ent x hx).2.2; omega⟩)).mono ?_
  rintro e w' ⟨rfl, ⟨n', T⟩, k⟩
  exact ⟨rfl, T.after, k⟩
theorem p_flush (h : TbIs w B t mb p n c τ) (g : τ.Good k) (q : Int) (hq : 0 ≤ q ∧ q < 256) :
    Calls Try.prog 14 #[.pointer (some ⟨t, 0, Option.none⟩), .int .u8 q] w fun e w' => e = .returned (.int .i64 ((τ.L.length : Int) - (τ.flush q).L.length)) ∧ After w w' B t mb p (τ.flush q) ∧ Keeps (TOwn t mb p) w w' := by
  refine (flush_any q hq B t mb p n c τ w h (h.n_le g) (fun x hx => (g.ent x hx).1)).mono ?_
  rintro e w' ⟨⟨n', hn', rfl, T⟩, k⟩
  have h1 := h.2.1.1
  have h2 := T.2.1.1
  refine ⟨?_, T.after, k⟩
  rw [h1, show (τ.flush q).L.length = n' from h2]
theorem p_set (h : TbIs w B t mb p n c τ) (g : τ.Good k) (q : Pl) (hq : q.Ok) (ports : Int) (hp : 0 ≤ ports ∧ ports < 256) :
    Calls Try.prog 12 #[.pointer (some ⟨t, 0, Option.none⟩), .int .u16 q.v, q.mac, .int .u8 ports] w fun e w' => e = .returned (.int .i64 (τ.set q ports).2) ∧ After w w' B t mb p (τ.set q ports).1 ∧ Keeps (TOwn t mb p) w w' := by
  have hS := g.S
  by_cases hv : 1 ≤ q.v ∧ q.v ≤ 4094
  · by_cases hf : sget τ.S q = none ∧ 16 ≤ τ.S.length
    · have e1 : τ.set q ports = (τ, 6) := by unfold Tb.set; rw [if_pos hv, if_pos hf]
      rw [e1]
      refine (set_full q hq ports B t mb p n c τ w h hv hf.1 hf.2 (by omega)).mono ?_
      rintro e w' ⟨rfl, k⟩
      exact ⟨rfl, (h.keepN k).after, k.ofNil⟩
    · have e1 : τ.set q ports = (⟨τ.L.filter (fun x => !(decide (q = x.p))), sput τ.S q ports⟩, 0) := by unfold Tb.set; rw [if_pos hv, if_neg hf]
      rw [e1]
      cases hu : sget τ.S q with
      | none =>
        have : ¬ 16 ≤ τ.S.length := fun e => hf ⟨hu, e⟩
        refine (set_new q hq ports B t mb p n c τ w h hv hu hp (by omega) (h.n_le g) (by omega)).mono ?_
        rintro e w' ⟨rfl, ⟨n', T⟩, k⟩
        exact ⟨rfl, T.after, k⟩
      | some u =>
        refine (set_old q hq ports B t mb p n c τ w h hv u hu hp (by omega) (h.n_le g)).mono ?_
        rintro e w' ⟨rfl, ⟨n', T⟩, k⟩
        exact ⟨rfl, T.after, k⟩
  · have e1 : τ.set q ports = (τ, 2) := by unfold Tb.set; rw [if_neg hv]
    rw [e1]
    refine (set_out q ports t w hv).mono ?_
    rintro e w' ⟨rfl, k⟩
    exact ⟨rfl, (h.keepN k).after, k.ofNil⟩
end
end Go.Proofs.Ytcplmdgnldmhbaa
