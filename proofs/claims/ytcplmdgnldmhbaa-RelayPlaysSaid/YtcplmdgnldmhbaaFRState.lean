/-
  Layer 8: the document's database follows the plain state. Conditions: the numbers are in range.
-/
import Derived.Test.YtcplmdgnldmhbaaRSet
import Derived.Test.YtcplmdgnldmhbaaFState
namespace Go.Proofs.Ytcplmdgnldmhbaa
open Go.RowKit
set_option linter.unusedVariables false

/-- The document's rows, each in a block of its own. -/
def RO (w : World) (B : Nat) (pL : Option Addr) (nL cL : Nat) (pS : Option Addr) (nS cS : Nat) (τ : Tb) : Prop := Acc w B pL nL cL τ.L ∧ AccS w B pS nS cS τ.S
section
variable {w w' : World} {B nL cL nS cS : Nat} {pL pS : Option Addr} {τ : Tb} {k : Nat}
theorem AccS.len {n c : Nat} {p : Option Addr} {S : List (Pl × Int)} (h : AccS w B p n c S) : S.length = n := by
  have := h.1
  rw [flatS_len] at this
  omega
theorem RO.keepN (h : RO w B pL nL cL pS nS cS τ) (k : Keeps Nil w w') : RO w' B pL nL cL pS nS cS τ := ⟨h.1.keep k, ownsRow_keep h.2 k (fun _ _ e => e)⟩
theorem RO.rt (h : RO w B pL nL cL pS nS cS τ) : RT w B pL cL pS cS τ := by
  have h1 := WV.of_own h.1
  have h2 := WV.of_own h.2
  rw [← h.1.len] at h1
  rw [← AccS.len h.2] at h2
  exact ⟨h1, h2⟩
theorem RO.nil (w : World) (B : Nat) : RO w B Option.none 0 0 Option.none 0 0 ⟨[], []⟩ := ⟨World.ownsRow_nil _ _ _ _, World.ownsRow_nil _ _ _ _⟩
/-- A result that is the document's table. -/
def RRes (w' : World) (B : Nat) (τ : Tb) (f : Value → Value) (e : Ending) : Prop := ∃ pL nL cL pS nS cS, e = .returned (f (rtab pL nL cL pS nS cS)) ∧ RO w' B pL nL cL pS nS cS τ

theorem older_filter (L : List En) : L.filter (fun x => decide (x.age < 40)) = L.filter (fun x => !(decide (40 ≤ x.age))) := by
  congr 1
  funext x
  rw [Bool.eq_iff_iff]
  simp
theorem r_tick (h : RO w B pL nL cL pS nS cS τ) (hB : B ≤ w.heap.size) (g : τ.Good k) (hk : k ≤ 300) :
    Calls Try.prog 23 #[rtab pL nL cL pS nS cS] w fun e w' => RRes w' B τ.tick (fun v => v) e ∧ Keeps Nil w w' := by
  obtain rfl := h.1.len
  obtain rfl := AccS.len h.2
  refine (rtick_any B pL cL pS cS τ w h.rt (by have := g.L; omega) (fun x hx => ⟨(g.ent x hx).2.1, by have := (g.ent x hx).2.2; omega⟩)).mono ?_
  rintro e w' ⟨⟨p, n, c, rfl, acc⟩, k⟩
  rw [older_filter] at acc
  exact ⟨⟨p, n, c, pS, _, cS, rfl, acc.mono hB, (h.keepN k).2⟩, k⟩
theorem r_flush (h : RO w B pL nL cL pS nS cS τ) (hB : B ≤ w.heap.size) (g : τ.Good k) (q : Int) (hq : 0 ≤ q ∧ q < 256) :
    Calls Try.prog 24 #[rtab pL nL cL pS nS cS, .int .u8 q] w fun e w' => RRes w' B (τ.flush q) (fun v => .tuple #[v, .int .i64 ((τ.L.length : Int) - (τ.flush q).L.length)]) e ∧ Keeps Nil w w' := by
  obtain rfl := h.1.len
  obtain rfl := AccS.len h.2
  refine (rflush_any q hq B pL cL pS cS τ w h.rt (by have := g.L; omega) (fun x hx => (g.ent x hx).1)).mono ?_
  rintro e w' ⟨⟨p, n, c, rfl, acc⟩, k⟩
  have hl : (τ.flush q).L.length = n := acc.len
  exact ⟨⟨p, n, c, pS, _, cS, by rw [hl], acc.mono hB, (h.keepN k).2⟩, k⟩
theorem r_set (h : RO w B pL nL cL pS nS cS τ) (hB : B ≤ w.heap.size) (g : τ.Good k) (q : Pl) (ports : Int) :
    Calls Try.prog 22 #[rtab pL nL cL pS nS cS, .int .u16 q.v, q.mac, .int .u8 ports] w fun e w' => RRes w' B (τ.set q ports).1 (fun v => .tuple #[v, .int .i64 (τ.set q ports).2]) e ∧ Keeps Nil w w' := by
  obtain rfl := h.1.len
  obtain rfl := AccS.len h.2
  have hL := g.L
  have hS := g.S
  by_cases hv : 1 ≤ q.v ∧ q.v ≤ 4094
  · by_cases hf : sget τ.S q = none ∧ 16 ≤ τ.S.length
    · have e1 : τ.set q ports = (τ, 6) := by unfold Tb.set; rw [if_pos hv, if_pos hf]
      rw [e1]
      refine (rset_full q ports B pL cL pS cS τ w h.rt (by omega) hv hf.1 hf.2).mono ?_
      rintro e w' ⟨rfl, k⟩
      exact ⟨⟨pL, _, cL, pS, _, cS, rfl, h.keepN k⟩, k⟩
    · have e1 : τ.set q ports = (⟨τ.L.filter (fun x => !(decide (q = x.p))), sput τ.S q ports⟩, 0) := by unfold Tb.set; rw [if_pos hv, if_neg hf]
      rw [e1]
      cases hu : sget τ.S q with
      | none =>
        have : ¬ 16 ≤ τ.S.length := fun e => hf ⟨hu, e⟩
        refine (rset_new q ports B pL cL pS cS τ w h.rt (by omega) (by omega) hv hu (by omega)).mono ?_
        rintro e w' ⟨⟨p, n, c, p2, n2, c2, rfl, a1, a2⟩, k⟩
        rw [← sput_new hu] at a2
        exact ⟨⟨p, n, c, p2, n2, c2, rfl, a1.mono hB, own_mono a2 hB⟩, k⟩
      | some u =>
        refine (rset_old q ports B pL cL pS cS τ w h.rt (by omega) (by omega) hv u g.once hu).mono ?_
        rintro e w' ⟨⟨p, n, c, p2, n2, c2, rfl, a1, a2⟩, k⟩
        exact ⟨⟨p, n, c, p2, n2, c2, rfl, a1.mono hB, own_mono a2 hB⟩, k⟩
  · have e1 : τ.set q ports = (τ, 2) := by unfold Tb.set; rw [if_neg hv]
    rw [e1]
    refine (rset_out q ports B pL cL pS cS τ w h.rt (by omega) hv).mono ?_
    rintro e w' ⟨rfl, k⟩
    exact ⟨⟨pL, _, cL, pS, _, cS, rfl, h.keepN k⟩, k⟩
theorem r_learn (h : RO w B pL nL cL pS nS cS τ) (hB : B ≤ w.heap.size) (g : τ.Good k) (q : Pl) (hq : q.Ok) (port : Int) (hp : 0 ≤ port) :
    Calls Try.prog 51 #[rtab pL nL cL pS nS cS, .int .u16 q.v, q.mac, .int .u8 port] w fun e w' => RRes w' B (τ.learn q port) (fun v => v) e ∧ Keeps Nil w w' := by
  obtain rfl := h.1.len
  obtain rfl := AccS.len h.2
  have hL := g.L
  have hS := g.S
  by_cases hm : mayLearn q port
  · cases hu : sget τ.S q with
    | some u =>
      have e1 : τ.learn q port = τ := by unfold Tb.learn; rw [if_neg (by simp [hu])]
      rw [e1]
      refine (rlearn_static q hq port u B pL cL pS cS τ w h.rt (by omega) hm hu).mono ?_
      rintro e w' ⟨rfl, k⟩
      exact ⟨⟨pL, _, cL, pS, _, cS, rfl, h.keepN k⟩, k⟩
    | none =>
      by_cases hl : (τ.L.filter (fun x => !(decide (q = x.p)))).length < 32
      · have e1 : τ.learn q port = ⟨τ.L.filter (fun x => !(decide (q = x.p))) ++ [⟨q, port, 0⟩], τ.S⟩ := by unfold Tb.learn; rw [if_pos ⟨hm, hu⟩, if_pos hl]
        rw [e1]
        refine (rlearn_room q hq port B pL cL pS cS τ w h.rt (by omega) (by omega) hm hu hl).mono ?_
        rintro e w' ⟨⟨p, n, c, rfl, acc⟩, k⟩
        exact ⟨⟨p, n, c, pS, _, cS, rfl, acc.mono hB, (h.keepN k).2⟩, k⟩
      · have e1 : τ.learn q port = ⟨(τ.L.filter (fun x => !(decide (q = x.p)))).drop 1 ++ [⟨q, port, 0⟩], τ.S⟩ := by unfold Tb.learn; rw [if_pos ⟨hm, hu⟩, if_neg hl]
        rw [e1]
        have := Nat.le_trans (List.length_filter_le (fun x => !(decide (q = x.p))) τ.L) g.L
        refine (rlearn_full q hq port B pL cL pS cS τ w h.rt (by omega) (by omega) hm hu (by omega)).mono ?_
        rintro e w' ⟨⟨p, n, c, rfl, acc⟩, k⟩
        exact ⟨⟨p, n, c, pS, _, cS, rfl, acc.mono hB, (h.keepN k).2⟩, k⟩
  · have e1 : τ.learn q port = τ := by unfold Tb.learn; rw [if_neg (fun e => hm e.1)]
    rw [e1]
    refine (rlearn_no q hq port hp B pL cL pS cS τ w h.rt (by omega) hm).mono ?_
    rintro e w' ⟨rfl, k⟩
    exact ⟨⟨pL, _, cL, pS, _, cS, rfl, h.keepN k⟩, k⟩
theorem r_look (h : RO w B pL nL cL pS nS cS τ) (g : τ.Good k) (q : Pl) :
    Calls Try.prog 52 #[rtab pL nL cL pS nS cS, .int .u16 q.v, q.mac] w fun e w' => e = .returned (.tuple #[.int .u8 (τ.look q).1, .bool (τ.look q).2]) ∧ Keeps Nil w w' := by
  obtain rfl := h.1.len
  obtain rfl := AccS.len h.2
  have hL := g.L
  have hS := g.S
  cases hu : sget τ.S q with
  | some u =>
    have e1 : τ.look q = (u, true) := by unfold Tb.look; rw [hu]
    rw [e1]
    exact rlook_static q u B pL cL pS cS τ w h.rt (by omega) hu
  | none =>
    refine (rlook_any q B pL cL pS cS τ w h.rt (by omega) (by omega) (fun x hx => (g.ent x hx).1) hu).mono ?_
    rintro e w' ⟨he, k⟩
    refine ⟨?_, k⟩
    rcases idx_find (fun x => decide (q = x.p)) τ.L with ⟨h1, h2⟩ | ⟨k, x, h1, h2, h3⟩
    · have e1 : τ.look q = (0, false) := by unfold Tb.look; rw [hu]; simp only; rw [h2]
      rw [e1]
      rcases he with ⟨_, he⟩ | ⟨j, y, h4, _, _⟩
      · exact he
      · omega
    · have e1 : τ.look q = (2 ^ x.port.toNat, true) := by unfold Tb.look; rw [hu]; simp only; rw [h3]
      rw [e1]
      rcases he with ⟨h4, _⟩ | ⟨j, y, h4, h5, he⟩
      · omega
      · obtain rfl : j = k := by omega
        rw [h2] at h5
        cases h5
        exact he
end
end Go.Proofs.Ytcplmdgnldmhbaa
