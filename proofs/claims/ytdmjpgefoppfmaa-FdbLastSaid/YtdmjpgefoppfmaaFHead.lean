/-
  FdbPlays: what holds at a round's head. Conditions: as each lemma says.
-/
import Derived.Test.YtdmjpgefoppfmaaFActs
import Derived.Test.YtdmjpgefoppfmaaFWakes
namespace Go.Proofs.Ytdmjpgefoppfmaa
open Go.RowKit
set_option linter.unusedVariables false

theorem Keeps.lies {S : Nat → Prop} {w w' : World} (k : Keeps S w w') {b : Nat} {o : Obj} (h : w.heap[b]? = some o) (hs : ¬ S b := by exact fun h => h) : w'.heap[b]? = some o := (k.block b (lt_of_block h) hs).trans h
theorem own_keepT {w w' : World} {B t mb n c base size m : Nat} {p : Option Addr} {τ : Tb} {e : TypeId} {v : Value} {xs : List Value} (T : TbIs w B t mb p n c τ) (h : w.ownsRow base e size v m xs) (k : Keeps (TOwn t mb p) w w') (h1 : e ≠ 62) (h2 : e ≠ 64) : w'.ownsRow base e size v m xs := by
  refine ⟨h.1, ?_⟩
  rcases h.2 with hn | ⟨g, cap, cur, rfl, hb, hgg, rest⟩
  · exact .inl hn
  · exact .inr ⟨g, cap, cur, rfl, hb, k.lies hgg (T.not_own' hgg h1 h2), rest⟩
theorem RO.keepT {w w' : World} {B B2 t mb n c nL cL nS cS : Nat} {p pL pS : Option Addr} {τ τ2 : Tb} (T : TbIs w B t mb p n c τ2) (h : RO w B2 pL nL cL pS nS cS τ) (k : Keeps (TOwn t mb p) w w') : RO w' B2 pL nL cL pS nS cS τ :=
  ⟨own_keepT T h.1 k (by decide) (by decide), own_keepT T h.2 k (by decide) (by decide)⟩
/-- The document's block. -/
abbrev tcells (pL : Option Addr) (nL cL : Nat) (pS : Option Addr) (nS cS : Nat) : Obj := .cells #[.slice pL nL cL, .slice pS nS cS] 32 (0, 0)
/-- What holds at a round's head. -/
def FHead (w1 : World) (t mb bR : Nat) (τ : Tb) (k : Nat) (wr : World) : Prop :=
  ∃ p n c pL nL cL pS nS cS, TbIs wr w1.heap.size t mb p n c τ ∧ wr.heap[bR]? = some (tcells pL nL cL pS nS cS) ∧ RO wr (bR + 1) pL nL cL pS nS cS τ ∧ τ.Good k ∧ Keeps Nil w1 wr
theorem FHead.keepN {w1 : World} {t mb bR : Nat} {τ : Tb} {k : Nat} {wr w' : World} (h : FHead w1 t mb bR τ k wr) (K : Keeps Nil wr w') : FHead w1 t mb bR τ k w' := by
  obtain ⟨p, n, c, pL, nL, cL, pS, nS, cS, h1, h2, h3, h4, h5⟩ := h
  exact ⟨p, n, c, pL, nL, cL, pS, nS, cS, h1.keepN K, K.lies h2, h3.keepN K, h4, h5.trans K⟩
theorem FHead.close {w1 w3 : World} {t mb bR n c nL cL nS cS k bA : Nat} {p pL pS : Option Addr} {τ : Tb} {x y : Value} {A : Array Value} (T : TbIs w3 w1.heap.size t mb p n c τ) (D : w3.heap[bR]? = some (.cells #[x, y] 32 (0, 0)))
    (R : RO w3 (bR + 1) pL nL cL pS nS cS τ) (G : τ.Good k) (K : Keeps Nil w1 w3) (hb : w1.heap.size ≤ bR) (AB : w3.heap[bA]? = some (.cells A 34 (0, 0))) :
    FHead w1 t mb bR τ k ((w3.setCell ⟨bR, 0, Option.none⟩ (.slice pL nL cL)).setCell ⟨bR, 1, Option.none⟩ (.slice pS nS cS)) ∧
      ((w3.setCell ⟨bR, 0, Option.none⟩ (.slice pL nL cL)).setCell ⟨bR, 1, Option.none⟩ (.slice pS nS cS)).heap[bA]? = some (.cells A 34 (0, 0)) := by
  obtain ⟨W7, hW7, hF, hK⟩ := set2 D (.slice pL nL cL) (.slice pS nS cS)
  rw [hW7]
  have hn := T.not_own' D (by decide) (by decide)
  refine ⟨⟨p, n, c, pL, nL, cL, pS, nS, cS, T.keep hK (fun e => hn (.inl (by rw [At] at e; exact e.symm))) (fun e => hn (.inr (.inl (by rw [At] at e; exact e.symm)))) (fun g hg _ e => hn (.inr (.inr (by rw [At] at e; subst e; exact hg)))), hF, ⟨?_, ?_⟩, G, K.thenAt hK hb⟩, hK.lies AB (fun e => ?_)⟩
  · exact ownsRow_keep R.1 hK (fun g hg e => by rw [At] at e; omega)
  · exact ownsRow_keep R.2 hK (fun g hg e => by rw [At] at e; omega)
  · rw [At] at e
    subst e
    rw [D] at AB
    injection AB with AB
    injection AB with _ AB
    exact absurd AB (by decide)
theorem ten_of {w : World} {b : Nat} {T : TypeId} {x0 x1 x2 x3 x4 x5 x6 x7 x8 x9 : Value} (h : w.heap[b]? = some (.cells #[x0, x1, x2, x3, x4, x5, x6, x7, x8, x9] T (0, 0))) :
    w.cell? ⟨b, 0, Option.none⟩ = some x0 ∧ w.cell? ⟨b, 1, Option.none⟩ = some x1 ∧ w.cell? ⟨b, 2, Option.none⟩ = some x2 ∧ w.cell? ⟨b, 3, Option.none⟩ = some x3 ∧ w.cell? ⟨b, 4, Option.none⟩ = some x4 ∧ w.cell? ⟨b, 5, Option.none⟩ = some x5 ∧
    w.cell? ⟨b, 6, Option.none⟩ = some x6 ∧ w.cell? ⟨b, 7, Option.none⟩ = some x7 ∧ w.cell? ⟨b, 8, Option.none⟩ = some x8 ∧ w.cell? ⟨b, 9, Option.none⟩ = some x9 := by
  simp [World.cell?, h]
section
variable {w : World} {B B2 t mb n c nL cL nS cS k : Nat} {p pL pS : Option Addr} {τ τ' : Tb} {v' : Int}
/-- A result that is the document's table, and more. -/
abbrev RTo (w' : World) (B : Nat) (τ : Tb) (e : Ending) (f : Value → Value) : Prop := ∃ pL nL cL pS nS cS, e = .returned (f (rtab pL nL cL pS nS cS)) ∧ RO w' B pL nL cL pS nS cS τ
theorem p_tick' (h : TbIs w B t mb p n c τ) (g : τ.Good k) (hk : k ≤ 300) (hc : τ.tick = τ') :
    Calls Try.prog 8 #[.pointer (some ⟨t, 0, Option.none⟩)] w fun e w' => e = .returned (.tuple #[]) ∧ (∃ p' n' c', TbIs w' B t mb p' n' c' τ') ∧ Keeps (TOwn t mb p) w w' := by
  subst hc
  exact (p_tick h g hk).mono fun e w' ⟨h1, ⟨p', n', c', h2, _⟩, h3⟩ => ⟨h1, ⟨p', n', c', h2⟩, h3⟩
theorem p_flush' (h : TbIs w B t mb p n c τ) (g : τ.Good k) (q : Int) (hq : 0 ≤ q ∧ q < 256) (hc : τ.flush q = τ') (hv : (τ.L.length : Int) - τ'.L.length = v') :
    Calls Try.prog 10 #[.pointer (some ⟨t, 0, Option.none⟩), .int .u8 q] w fun e w' => e = .returned (.int .i64 v') ∧ (∃ p' n' c', TbIs w' B t mb p' n' c' τ') ∧ Keeps (TOwn t mb p) w w' := by
  subst hc hv
  exact (p_flush h g q hq).mono fun e w' ⟨h1, ⟨p', n', c', h2, _⟩, h3⟩ => ⟨h1, ⟨p', n', c', h2⟩, h3⟩
theorem p_set' (h : TbIs w B t mb p n c τ) (g : τ.Good k) (q : Pl) (hq : q.Ok) (ports : Int) (hp : 0 ≤ ports ∧ ports < 256) (hc : τ.set q ports = (τ', v')) :
    Calls Try.prog 12 #[.pointer (some ⟨t, 0, Option.none⟩), .int .u16 q.v, q.mac, .int .u8 ports] w fun e w' => e = .returned (.int .i64 v') ∧ (∃ p' n' c', TbIs w' B t mb p' n' c' τ') ∧ Keeps (TOwn t mb p) w w' := by
  have := p_set h g q hq ports hp
  rw [hc] at this
  exact this.mono fun e w' ⟨h1, ⟨p', n', c', h2, _⟩, h3⟩ => ⟨h1, ⟨p', n', c', h2⟩, h3⟩
theorem p_unset' (h : TbIs w B t mb p n c τ) (g : τ.Good k) (q : Pl) (hq : q.Ok) (hc : τ.unset q = (τ', v')) :
    Calls Try.prog 14 #[.pointer (some ⟨t, 0, Option.none⟩), .int .u16 q.v, q.mac] w fun e w' => e = .returned (.int .i64 v') ∧ (∃ p' n' c', TbIs w' B t mb p' n' c' τ') ∧ Keeps (TOwn t mb p) w w' := by
  have := p_unset h g q hq
  rw [hc] at this
  exact this.mono fun e w' ⟨h1, ⟨p', n', c', h2, _⟩, h3⟩ => ⟨h1, ⟨p', n', c', h2⟩, h3⟩
theorem p_learn' (h : TbIs w B t mb p n c τ) (g : τ.Good k) (hB : B ≤ w.heap.size) (q : Pl) (hq : q.Ok) (port : Int) (hc : τ.learn q port = τ') :
    Calls Try.prog 16 #[.pointer (some ⟨t, 0, Option.none⟩), .int .u16 q.v, q.mac, .int .u8 port] w fun e w' => e = .returned (.tuple #[]) ∧ (∃ p' n' c', TbIs w' B t mb p' n' c' τ') ∧ Keeps (TOwn t mb p) w w' := by
  subst hc
  exact (p_learn h g hB q hq port).mono fun e w' ⟨h1, ⟨p', n', c', h2, _⟩, h3⟩ => ⟨h1, ⟨p', n', c', h2⟩, h3⟩
theorem r_tick' (h : RO w B pL nL cL pS nS cS τ) (hB : B ≤ w.heap.size) (g : τ.Good k) (hk : k ≤ 300) (hc : τ.tick = τ') :
    Calls Try.prog 9 #[rtab pL nL cL pS nS cS] w fun e w' => (∃ pL nL cL pS nS cS, e = .returned (rtab pL nL cL pS nS cS) ∧ RO w' B pL nL cL pS nS cS τ') ∧ Keeps Nil w w' := by
  subst hc; exact r_tick h hB g hk
theorem r_flush' (h : RO w B pL nL cL pS nS cS τ) (hB : B ≤ w.heap.size) (g : τ.Good k) (q : Int) (hq : 0 ≤ q ∧ q < 256) (hc : τ.flush q = τ') (hv : (τ.L.length : Int) - τ'.L.length = v') :
    Calls Try.prog 11 #[rtab pL nL cL pS nS cS, .int .u8 q] w fun e w' => (∃ pL nL cL pS nS cS, e = .returned (.tuple #[rtab pL nL cL pS nS cS, .int .i64 v']) ∧ RO w' B pL nL cL pS nS cS τ') ∧ Keeps Nil w w' := by
  subst hc hv; exact r_flush h hB g q hq
theorem r_set' (h : RO w B pL nL cL pS nS cS τ) (hB : B ≤ w.heap.size) (g : τ.Good k) (q : Pl) (ports : Int) (hc : τ.set q ports = (τ', v')) :
    Calls Try.prog 13 #[rtab pL nL cL pS nS cS, .int .u16 q.v, q.mac, .int .u8 ports] w fun e w' => (∃ pL nL cL pS nS cS, e = .returned (.tuple #[rtab pL nL cL pS nS cS, .int .i64 v']) ∧ RO w' B pL nL cL pS nS cS τ') ∧ Keeps Nil w w' := by
  have := r_set h hB g q ports
  rw [hc] at this
  exact this
theorem r_unset' (h : RO w B pL nL cL pS nS cS τ) (hB : B ≤ w.heap.size) (g : τ.Good k) (q : Pl) (hc : τ.unset q = (τ', v')) :
    Calls Try.prog 15 #[rtab pL nL cL pS nS cS, .int .u16 q.v, q.mac] w fun e w' => (∃ pL nL cL pS nS cS, e = .returned (.tuple #[rtab pL nL cL pS nS cS, .int .i64 v']) ∧ RO w' B pL nL cL pS nS cS τ') ∧ Keeps Nil w w' := by
  have := r_unset h hB g q
  rw [hc] at this
  exact this
theorem r_learn' (h : RO w B pL nL cL pS nS cS τ) (hB : B ≤ w.heap.size) (g : τ.Good k) (q : Pl) (hq : q.Ok) (port : Int) (hp : 0 ≤ port) (hc : τ.learn q port = τ') :
    Calls Try.prog 17 #[rtab pL nL cL pS nS cS, .int .u16 q.v, q.mac, .int .u8 port] w fun e w' => (∃ pL nL cL pS nS cS, e = .returned (rtab pL nL cL pS nS cS) ∧ RO w' B pL nL cL pS nS cS τ') ∧ Keeps Nil w w' := by
  subst hc; exact r_learn h hB g q hq port hp
theorem p_look' (h : TbIs w B t mb p n c τ) (g : τ.Good k) (q : Pl) (hq : q.Ok) {u : Int} {z : Bool} (hc : τ.look q = (u, z)) :
    Calls Try.prog 18 #[.pointer (some ⟨t, 0, Option.none⟩), .int .u16 q.v, q.mac] w fun e w' => e = .returned (.tuple #[.int .u8 u, .bool z]) ∧ Keeps Nil w w' := by
  have := p_look h g q hq
  rw [hc] at this
  exact this
theorem r_look' (h : RO w B pL nL cL pS nS cS τ) (g : τ.Good k) (q : Pl) {u : Int} {z : Bool} (hc : τ.look q = (u, z)) :
    Calls Try.prog 19 #[rtab pL nL cL pS nS cS, .int .u16 q.v, q.mac] w fun e w' => e = .returned (.tuple #[.int .u8 u, .bool z]) ∧ Keeps Nil w w' := by
  have := r_look h g q
  rw [hc] at this
  exact this
end
end Go.Proofs.Ytdmjpgefoppfmaa
