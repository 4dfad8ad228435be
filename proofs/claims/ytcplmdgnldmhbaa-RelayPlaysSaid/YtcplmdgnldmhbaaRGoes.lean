/-
  Layer 21, the document: the ports by which a frame goes out, and the database behind it. Conditions: the rows lie so; the numbers are in range.
-/
import Derived.Test.YtcplmdgnldmhbaaRSetOf
import Derived.Test.YtcplmdgnldmhbaaRVin
import Derived.Test.YtcplmdgnldmhbaaRBase
import Derived.Test.YtcplmdgnldmhbaaFRState
namespace Go.Proofs.Ytcplmdgnldmhbaa
open Go.RowKit
set_option linter.unusedVariables false
set_option linter.unusedSimpArgs false
set_option maxRecDepth 8000

/-- What the document's Goes answers. -/
def RGoes (r : (Nat → Bool) × Tb) (B : Nat) (w : World) (e : Ending) (w' : World) : Prop := RRes w' B r.2 (fun v => .tuple #[bools r.1, v]) e ∧ Keeps Nil w w'
/-- Eight answers, of which so many are there. -/
def outF (f : Nat → Bool) (k i : Nat) : Bool := decide (i < k) && f i
theorem outF_zero (f : Nat → Bool) : outF f 0 = fun _ => false := by funext i; simp [outF]
theorem two_of {w : World} {b : Nat} {T : TypeId} {x0 x1 : Value} (h : w.heap[b]? = some (.cells #[x0, x1] T (0, 0))) : w.cell? ⟨b, 0, Option.none⟩ = some x0 ∧ w.cell? ⟨b, 1, Option.none⟩ = some x1 := by
  simp [World.cell?, h]
theorem gset2 {w : World} {b : Nat} {T : TypeId} {x0 x1 : Value} (h : w.heap[b]? = some (.cells #[x0, x1] T (0, 0))) (u0 u1 : Value) :
    ((w.setCell ⟨b, 0, Option.none⟩ u0).setCell ⟨b, 1, Option.none⟩ u1).heap[b]? = some (.cells #[u0, u1] T (0, 0)) ∧ Keeps (At b) w ((w.setCell ⟨b, 0, Option.none⟩ u0).setCell ⟨b, 1, Option.none⟩ u1) :=
  ⟨setCell_block (setCell_block h 0 u0) 1 u1, ((Keeps.refl _ _).set _ _ (at_self _) _).set _ _ (at_self _) _⟩
theorem six_src {w : World} {b : Nat} {x : Frm} (h : w.heap[b]? = some (.cells #[Value.int IntKind.u8 x.dst.a, Value.int IntKind.u8 x.dst.b, Value.int IntKind.u8 x.dst.c, Value.int IntKind.u8 x.dst.d, Value.int IntKind.u8 x.dst.e, Value.int IntKind.u8 x.dst.f, Value.int IntKind.u8 x.src.a, Value.int IntKind.u8 x.src.b, Value.int IntKind.u8 x.src.c, Value.int IntKind.u8 x.src.d, Value.int IntKind.u8 x.src.e, Value.int IntKind.u8 x.src.f, Value.bool x.tag, Value.int IntKind.u8 x.pri, Value.int IntKind.u16 x.fvid, Value.int IntKind.u16 x.ty, Value.string x.data] 33 (0, 0))) : w.cell? ⟨b, 6, Option.none⟩ = some (.int .u8 x.src.a) ∧ w.cell? ⟨b, 7, Option.none⟩ = some (.int .u8 x.src.b) ∧ w.cell? ⟨b, 8, Option.none⟩ = some (.int .u8 x.src.c) ∧ w.cell? ⟨b, 9, Option.none⟩ = some (.int .u8 x.src.d) ∧ w.cell? ⟨b, 10, Option.none⟩ = some (.int .u8 x.src.e) ∧ w.cell? ⟨b, 11, Option.none⟩ = some (.int .u8 x.src.f) := by
  simp [World.cell?, h]
/-- The six blocks of the walk. -/
structure GB (w0 w : World) (bT : Nat) (n : Int) (p : Option Addr) (m c : Nat) (x : Frm) (pL : Option Addr) (nL cL : Nat) (pS : Option Addr) (nS cS : Nat) (f : Nat → Bool) : Prop where
  T : w.heap[bT]? = some (.cells #[Value.int IntKind.i64 n, Value.slice p m c, Value.int IntKind.u16 0, Value.int IntKind.u16 0, Value.int IntKind.u16 0, Value.int IntKind.u16 0, Value.int IntKind.u16 0, Value.int IntKind.u16 0, Value.int IntKind.u16 0, Value.int IntKind.u16 0] 57 (0, 0))
  D : w.heap[bT + 1]? = some (.cells #[Value.slice pL nL cL, Value.slice pS nS cS] 61 (0, 0))
  F : w.heap[bT + 2]? = some (.cells #[Value.int IntKind.u8 x.dst.a, Value.int IntKind.u8 x.dst.b, Value.int IntKind.u8 x.dst.c, Value.int IntKind.u8 x.dst.d, Value.int IntKind.u8 x.dst.e, Value.int IntKind.u8 x.dst.f, Value.int IntKind.u8 x.src.a, Value.int IntKind.u8 x.src.b, Value.int IntKind.u8 x.src.c, Value.int IntKind.u8 x.src.d, Value.int IntKind.u8 x.src.e, Value.int IntKind.u8 x.src.f, Value.bool x.tag, Value.int IntKind.u8 x.pri, Value.int IntKind.u16 x.fvid, Value.int IntKind.u16 x.ty, Value.string x.data] 33 (0, 0))
  O : w.heap[bT + 3]? = some (.cells #[Value.bool false, Value.bool false, Value.bool false, Value.bool false, Value.bool false, Value.bool false, Value.bool false, Value.bool false] 69 (0, 0))
  R : w.heap[bT + 4]? = some (.cells #[Value.slice Option.none 0 0, Value.slice Option.none 0 0] 61 (0, 0))
  L : w.heap[bT + 5]? = some (.cells #[Value.bool (f 0), Value.bool (f 1), Value.bool (f 2), Value.bool (f 3), Value.bool (f 4), Value.bool (f 5), Value.bool (f 6), Value.bool (f 7)] 69 (0, 0))
  K : Keeps Nil w0 w
  z : w0.heap.size = bT
section
variable {w0 w w' : World} {bT : Nat} {n : Int} {p : Option Addr} {m c : Nat} {x : Frm} {pL : Option Addr} {nL cL : Nat} {pS : Option Addr} {nS cS : Nat} {f : Nat → Bool}
theorem GB.start (w : World) : GB w ((((((w.alloc (.cells #[Value.int IntKind.i64 n, Value.slice p m c, Value.int IntKind.u16 0, Value.int IntKind.u16 0, Value.int IntKind.u16 0, Value.int IntKind.u16 0, Value.int IntKind.u16 0, Value.int IntKind.u16 0, Value.int IntKind.u16 0, Value.int IntKind.u16 0] 57 (0, 0))).alloc (.cells #[Value.slice pL nL cL, Value.slice pS nS cS] 61 (0, 0))).alloc (.cells #[Value.int IntKind.u8 x.dst.a, Value.int IntKind.u8 x.dst.b, Value.int IntKind.u8 x.dst.c, Value.int IntKind.u8 x.dst.d, Value.int IntKind.u8 x.dst.e, Value.int IntKind.u8 x.dst.f, Value.int IntKind.u8 x.src.a, Value.int IntKind.u8 x.src.b, Value.int IntKind.u8 x.src.c, Value.int IntKind.u8 x.src.d, Value.int IntKind.u8 x.src.e, Value.int IntKind.u8 x.src.f, Value.bool x.tag, Value.int IntKind.u8 x.pri, Value.int IntKind.u16 x.fvid, Value.int IntKind.u16 x.ty, Value.string x.data] 33 (0, 0))).alloc (.cells #[Value.bool false, Value.bool false, Value.bool false, Value.bool false, Value.bool false, Value.bool false, Value.bool false, Value.bool false] 69 (0, 0))).alloc (.cells #[Value.slice Option.none 0 0, Value.slice Option.none 0 0] 61 (0, 0))).alloc (.cells #[Value.bool false, Value.bool false, Value.bool false, Value.bool false, Value.bool false, Value.bool false, Value.bool false, Value.bool false] 69 (0, 0))) w.heap.size n p m c x pL nL cL pS nS cS (fun _ => false) := by
  have h1 := alloc_block w (.cells #[Value.int IntKind.i64 n, Value.slice p m c, Value.int IntKind.u16 0, Value.int IntKind.u16 0, Value.int IntKind.u16 0, Value.int IntKind.u16 0, Value.int IntKind.u16 0, Value.int IntKind.u16 0, Value.int IntKind.u16 0, Value.int IntKind.u16 0] 57 (0, 0))
  have k1 : Keeps Nil w (w.alloc (.cells #[Value.int IntKind.i64 n, Value.slice p m c, Value.int IntKind.u16 0, Value.int IntKind.u16 0, Value.int IntKind.u16 0, Value.int IntKind.u16 0, Value.int IntKind.u16 0, Value.int IntKind.u16 0, Value.int IntKind.u16 0, Value.int IntKind.u16 0] 57 (0, 0))) := (Keeps.refl _ _).alloc _
  have s1 := World.size_alloc w (.cells #[Value.int IntKind.i64 n, Value.slice p m c, Value.int IntKind.u16 0, Value.int IntKind.u16 0, Value.int IntKind.u16 0, Value.int IntKind.u16 0, Value.int IntKind.u16 0, Value.int IntKind.u16 0, Value.int IntKind.u16 0, Value.int IntKind.u16 0] 57 (0, 0))
  generalize (w.alloc (.cells #[Value.int IntKind.i64 n, Value.slice p m c, Value.int IntKind.u16 0, Value.int IntKind.u16 0, Value.int IntKind.u16 0, Value.int IntKind.u16 0, Value.int IntKind.u16 0, Value.int IntKind.u16 0, Value.int IntKind.u16 0, Value.int IntKind.u16 0] 57 (0, 0))) = w1 at *
  have h2 := alloc_block w1 (.cells #[Value.slice pL nL cL, Value.slice pS nS cS] 61 (0, 0))
  have k2 : Keeps Nil w1 (w1.alloc (.cells #[Value.slice pL nL cL, Value.slice pS nS cS] 61 (0, 0))) := (Keeps.refl _ _).alloc _
  have s2 := World.size_alloc w1 (.cells #[Value.slice pL nL cL, Value.slice pS nS cS] 61 (0, 0))
  generalize (w1.alloc (.cells #[Value.slice pL nL cL, Value.slice pS nS cS] 61 (0, 0))) = w2 at *
  have h3 := alloc_block w2 (.cells #[Value.int IntKind.u8 x.dst.a, Value.int IntKind.u8 x.dst.b, Value.int IntKind.u8 x.dst.c, Value.int IntKind.u8 x.dst.d, Value.int IntKind.u8 x.dst.e, Value.int IntKind.u8 x.dst.f, Value.int IntKind.u8 x.src.a, Value.int IntKind.u8 x.src.b, Value.int IntKind.u8 x.src.c, Value.int IntKind.u8 x.src.d, Value.int IntKind.u8 x.src.e, Value.int IntKind.u8 x.src.f, Value.bool x.tag, Value.int IntKind.u8 x.pri, Value.int IntKind.u16 x.fvid, Value.int IntKind.u16 x.ty, Value.string x.data] 33 (0, 0))
  have k3 : Keeps Nil w2 (w2.alloc (.cells #[Value.int IntKind.u8 x.dst.a, Value.int IntKind.u8 x.dst.b, Value.int IntKind.u8 x.dst.c, Value.int IntKind.u8 x.dst.d, Value.int IntKind.u8 x.dst.e, Value.int IntKind.u8 x.dst.f, Value.int IntKind.u8 x.src.a, Value.int IntKind.u8 x.src.b, Value.int IntKind.u8 x.src.c, Value.int IntKind.u8 x.src.d, Value.int IntKind.u8 x.src.e, Value.int IntKind.u8 x.src.f, Value.bool x.tag, Value.int IntKind.u8 x.pri, Value.int IntKind.u16 x.fvid, Value.int IntKind.u16 x.ty, Value.string x.data] 33 (0, 0))) := (Keeps.refl _ _).alloc _
  have s3 := World.size_alloc w2 (.cells #[Value.int IntKind.u8 x.dst.a, Value.int IntKind.u8 x.dst.b, Value.int IntKind.u8 x.dst.c, Value.int IntKind.u8 x.dst.d, Value.int IntKind.u8 x.dst.e, Value.int IntKind.u8 x.dst.f, Value.int IntKind.u8 x.src.a, Value.int IntKind.u8 x.src.b, Value.int IntKind.u8 x.src.c, Value.int IntKind.u8 x.src.d, Value.int IntKind.u8 x.src.e, Value.int IntKind.u8 x.src.f, Value.bool x.tag, Value.int IntKind.u8 x.pri, Value.int IntKind.u16 x.fvid, Value.int IntKind.u16 x.ty, Value.string x.data] 33 (0, 0))
  generalize (w2.alloc (.cells #[Value.int IntKind.u8 x.dst.a, Value.int IntKind.u8 x.dst.b, Value.int IntKind.u8 x.dst.c, Value.int IntKind.u8 x.dst.d, Value.int IntKind.u8 x.dst.e, Value.int IntKind.u8 x.dst.f, Value.int IntKind.u8 x.src.a, Value.int IntKind.u8 x.src.b, Value.int IntKind.u8 x.src.c, Value.int IntKind.u8 x.src.d, Value.int IntKind.u8 x.src.e, Value.int IntKind.u8 x.src.f, Value.bool x.tag, Value.int IntKind.u8 x.pri, Value.int IntKind.u16 x.fvid, Value.int IntKind.u16 x.ty, Value.string x.data] 33 (0, 0))) = w3 at *
  have h4 := alloc_block w3 (.cells #[Value.bool false, Value.bool false, Value.bool false, Value.bool false, Value.bool false, Value.bool false, Value.bool false, Value.bool false] 69 (0, 0))
  have k4 : Keeps Nil w3 (w3.alloc (.cells #[Value.bool false, Value.bool false, Value.bool false, Value.bool false, Value.bool false, Value.bool false, Value.bool false, Value.bool false] 69 (0, 0))) := (Keeps.refl _ _).alloc _
  have s4 := World.size_alloc w3 (.cells #[Value.bool false, Value.bool false, Value.bool false, Value.bool false, Value.bool false, Value.bool false, Value.bool false, Value.bool false] 69 (0, 0))
  generalize (w3.alloc (.cells #[Value.bool false, Value.bool false, Value.bool false, Value.bool false, Value.bool false, Value.bool false, Value.bool false, Value.bool false] 69 (0, 0))) = w4 at *
  have h5 := alloc_block w4 (.cells #[Value.slice Option.none 0 0, Value.slice Option.none 0 0] 61 (0, 0))
  have k5 : Keeps Nil w4 (w4.alloc (.cells #[Value.slice Option.none 0 0, Value.slice Option.none 0 0] 61 (0, 0))) := (Keeps.refl _ _).alloc _
  have s5 := World.size_alloc w4 (.cells #[Value.slice Option.none 0 0, Value.slice Option.none 0 0] 61 (0, 0))
  generalize (w4.alloc (.cells #[Value.slice Option.none 0 0, Value.slice Option.none 0 0] 61 (0, 0))) = w5 at *
  have h6 := alloc_block w5 (.cells #[Value.bool false, Value.bool false, Value.bool false, Value.bool false, Value.bool false, Value.bool false, Value.bool false, Value.bool false] 69 (0, 0))
  have k6 : Keeps Nil w5 (w5.alloc (.cells #[Value.bool false, Value.bool false, Value.bool false, Value.bool false, Value.bool false, Value.bool false, Value.bool false, Value.bool false] 69 (0, 0))) := (Keeps.refl _ _).alloc _
  generalize (w5.alloc (.cells #[Value.bool false, Value.bool false, Value.bool false, Value.bool false, Value.bool false, Value.bool false, Value.bool false, Value.bool false] 69 (0, 0))) = w6 at *
  have e2 : w1.heap.size = w.heap.size + 1 := s1
  have e3 : w2.heap.size = w.heap.size + 2 := by omega
  have e4 : w3.heap.size = w.heap.size + 3 := by omega
  have e5 : w4.heap.size = w.heap.size + 4 := by omega
  have e6 : w5.heap.size = w.heap.size + 5 := by omega
  rw [e2] at h2
  rw [e3] at h3
  rw [e4] at h4
  rw [e5] at h5
  rw [e6] at h6
  exact ⟨(((k2.trans k3).trans k4).trans k5).trans k6 |>.lies h1, ((k3.trans k4).trans k5).trans k6 |>.lies h2, (k4.trans k5).trans k6 |>.lies h3, (k5.trans k6).lies h4, k6.lies h5, h6, ((((k1.trans k2).trans k3).trans k4).trans k5).trans k6, rfl⟩
theorem GB.keepN (h : GB w0 w bT n p m c x pL nL cL pS nS cS f) (k : Keeps Nil w w') : GB w0 w' bT n p m c x pL nL cL pS nS cS f :=
  ⟨k.lies h.T, k.lies h.D, k.lies h.F, k.lies h.O, k.lies h.R, k.lies h.L, h.K.trans k, h.z⟩
/-- The database is stored. -/
theorem GB.setD (h : GB w0 w bT n p m c x pL nL cL pS nS cS f) (qL : Option Addr) (mL dL : Nat) (qS : Option Addr) (mS dS : Nat) :
    GB w0 ((w.setCell ⟨bT + 1, 0, Option.none⟩ (.slice qL mL dL)).setCell ⟨bT + 1, 1, Option.none⟩ (.slice qS mS dS)) bT n p m c x qL mL dL qS mS dS f ∧ Keeps (At (bT + 1)) w ((w.setCell ⟨bT + 1, 0, Option.none⟩ (.slice qL mL dL)).setCell ⟨bT + 1, 1, Option.none⟩ (.slice qS mS dS)) := by
  obtain ⟨hb, k⟩ := gset2 h.D (.slice qL mL dL) (.slice qS mS dS)
  exact ⟨⟨k.lies h.T (fun e => by rw [At] at e; omega), hb, k.lies h.F (fun e => by rw [At] at e; omega), k.lies h.O (fun e => by rw [At] at e; omega), k.lies h.R (fun e => by rw [At] at e; omega), k.lies h.L (fun e => by rw [At] at e; omega), h.K.thenAt k (by have := h.z; omega), h.z⟩, k⟩
/-- One answer is stored. -/
theorem GB.setL {g : Nat → Bool} {k : Nat} (h : GB w0 w bT n p m c x pL nL cL pS nS cS (outF g k)) (hk : k < 8) :
    GB w0 (w.setCell ⟨bT + 5, k, Option.none⟩ (.bool (g k))) bT n p m c x pL nL cL pS nS cS (outF g (k + 1)) ∧ Keeps (At (bT + 5)) w (w.setCell ⟨bT + 5, k, Option.none⟩ (.bool (g k))) := by
  have hb := setCell_block h.L k (.bool (g k))
  obtain ⟨kk, hkk⟩ : ∃ kk, kk = k := ⟨_, rfl⟩
  rw [← hkk] at hb hk h ⊢
  clear hkk k
  have k : Keeps (At (bT + 5)) w (w.setCell ⟨bT + 5, kk, Option.none⟩ (.bool (g kk))) := (Keeps.refl _ _).set _ _ (at_self _) _
  refine ⟨⟨k.lies h.T (fun e => by rw [At] at e; omega), k.lies h.D (fun e => by rw [At] at e; omega), k.lies h.F (fun e => by rw [At] at e; omega), k.lies h.O (fun e => by rw [At] at e; omega), k.lies h.R (fun e => by rw [At] at e; omega), ?_, h.K.thenAt k (by have := h.z; omega), h.z⟩, k⟩
  rw [hb]
  clear hb k h
  rcases (show kk = 0 ∨ kk = 1 ∨ kk = 2 ∨ kk = 3 ∨ kk = 4 ∨ kk = 5 ∨ kk = 6 ∨ kk = 7 by omega) with rfl | rfl | rfl | rfl | rfl | rfl | rfl | rfl <;> simp [outF]
end

theorem bools_there {w : World} {b : Nat} {c : Array Value} (h : w.heap[b]? = some (.cells c 69 (0, 0))) (hc : c.size = 8) (f : Nat → Bool) : w.there b 0 (#[Value.bool (f 0), Value.bool (f 1), Value.bool (f 2), Value.bool (f 3), Value.bool (f 4), Value.bool (f 5), Value.bool (f 6), Value.bool (f 7)] : Array Value).size := by
  have := there_block h
  rw [hc] at this
  exact this
theorem bools_one (f : Nat → Bool) : (#[Value.bool (f 0), Value.bool (f 1), Value.bool (f 2), Value.bool (f 3), Value.bool (f 4), Value.bool (f 5), Value.bool (f 6), Value.bool (f 7)] : Array Value).all (·.oneCell') = true := by simp [Value.oneCell']
theorem setCells_bools {w : World} {b : Nat} {c : Array Value} (h : w.heap[b]? = some (.cells c 69 (0, 0))) (hc : c.size = 8) (f : Nat → Bool) : (w.setCells b 0 [Value.bool (f 0), Value.bool (f 1), Value.bool (f 2), Value.bool (f 3), Value.bool (f 4), Value.bool (f 5), Value.bool (f 6), Value.bool (f 7)]).heap[b]? = some (.cells #[Value.bool (f 0), Value.bool (f 1), Value.bool (f 2), Value.bool (f 3), Value.bool (f 4), Value.bool (f 5), Value.bool (f 6), Value.bool (f 7)] 69 (0, 0)) := by
  have h1 := setCells_block (b := b) [Value.bool (f 0), Value.bool (f 1), Value.bool (f 2), Value.bool (f 3), Value.bool (f 4), Value.bool (f 5), Value.bool (f 6), Value.bool (f 7)] 0 _ _ h
  rw [setAll_all _ _ _ (by rw [hc]; rfl)] at h1
  simpa using h1

noncomputable def goesLk (M : Int) (τ : Tb) (inn : Int) (dst : Pl) (set : Int) : (Nat → Bool) × Tb :=
  (fun p => decide ((p : Int) ≠ inn) && ((B8 M).getLsbD p && ((B8 set).getLsbD p && (!(τ.look dst).2 || (B8 (τ.look dst).1).getLsbD p))), τ)
noncomputable def goesIn (M : Int) (τ : Tb) (inn : Int) (dst src : Pl) (set : Int) : (Nat → Bool) × Tb :=
  if 0 ≤ inn ∧ ¬ ((B8 M).getLsbD inn.toNat = true ∧ (B8 set).getLsbD inn.toNat = true) then (fun _ => false, τ)
  else goesLk M (if 0 ≤ inn then τ.learn src inn else τ) inn dst set
theorem goes7_in {M : Int} {τ : Tb} {inn : Int} {dst src : Pl} {set : Int} (h : ¬ (resvB dst = true ∨ 7 < inn)) : goes7 M τ inn dst src set = goesIn M τ inn dst src set := by
  unfold goes7 goesIn
  rw [if_neg h]
  split
  · rfl
  · rfl
/-- The static ports are in range. -/
def SOk (τ : Tb) : Prop := ∀ x ∈ τ.S, 0 ≤ x.2 ∧ x.2 < 256
theorem SOk.look {τ : Tb} {k : Nat} (h : SOk τ) (g : τ.Good k) (q : Pl) : 0 ≤ (τ.look q).1 ∧ (τ.look q).1 < 256 := by
  unfold Tb.look
  cases hs : sget τ.S q with
  | some u =>
    unfold sget at hs
    rw [Option.map_eq_some_iff] at hs
    obtain ⟨x, hx, e⟩ := hs
    have := h x (List.mem_of_find?_eq_some hx)
    subst e
    exact this
  | none =>
    cases hl : τ.L.find? (fun x => decide (q = x.p)) with
    | none => exact ⟨Int.le_refl 0, by decide⟩
    | some x =>
      have hr := (g.ent x (List.mem_of_find?_eq_some hl)).1
      have key : ∀ m : Fin 8, (0 : Int) ≤ 2 ^ (m : Nat) ∧ (2 : Int) ^ (m : Nat) < 256 := by decide
      exact key ⟨x.port.toNat, by unfold InR at hr; omega⟩
theorem SOk.learn {τ : Tb} (h : SOk τ) (q : Pl) (port : Int) : SOk (τ.learn q port) := by
  unfold Tb.learn
  repeat' split
  all_goals exact h
theorem own_keepT {S : Nat → Prop} {w w' : World} {base : Nat} {e : TypeId} {size : Nat} {v : Value} {n : Nat} {xs : List Value} (h : w.ownsRow base e size v n xs) (k : Keeps S w w') (hS : ∀ g cs, w.heap[g]? = some (.cells cs e (0, 0)) → ¬ S g) : w'.ownsRow base e size v n xs := by
  refine ⟨h.1, ?_⟩
  rcases h.2 with hn | ⟨g, cap, cur, rfl, hb, hgg, rest⟩
  · exact .inl hn
  · exact .inr ⟨g, cap, cur, rfl, hb, (k.block g (Array.getElem?_eq_some_iff.1 hgg).1 (hS g cur hgg)).trans hgg, rest⟩
theorem RO.keepT {S : Nat → Prop} {w w' : World} {B nL cL nS cS : Nat} {pL pS : Option Addr} {τ : Tb} (h : RO w B pL nL cL pS nS cS τ) (k : Keeps S w w') (hS : ∀ g, S g → ∃ cs T, w.heap[g]? = some (.cells cs T (0, 0)) ∧ (T = 61 ∨ T = 69)) : RO w' B pL nL cL pS nS cS τ := by
  have key : ∀ (e : TypeId), e ≠ 61 → e ≠ 69 → ∀ g cs, w.heap[g]? = some (.cells cs e (0, 0)) → ¬ S g := fun e h1 h2 g cs hg hs => by
    obtain ⟨cs', T, hb, hT⟩ := hS g hs
    rw [hg] at hb
    injection hb with hb
    injection hb with e1 e2
    subst e2
    rcases hT with hT | hT
    · exact h1 hT
    · exact h2 hT
  exact ⟨own_keepT h.1 k (key 109 (by decide) (by decide)), own_keepT h.2 k (key 108 (by decide) (by decide))⟩
theorem bitP_B8 {q : Int} (hq : 0 ≤ q ∧ q < 256) {p : Nat} (hp : p < 8) : bitP q p = (B8 q).getLsbD p := by
  have e : q = ((B8 q).toNat : Int) := by
    obtain ⟨m, rfl⟩ : ∃ m : Nat, q = m := ⟨q.toNat, by omega⟩
    simp [B8]; omega
  have h := bitP_nat (B8 q) hp
  rw [← e] at h
  exact h

set_option maxHeartbeats 16000000 in
theorem rgoes_any (n : Int) (p : Option Addr) (c : Nat) (L : List (Pl × Int)) (B : Nat) (pL : Option Addr) (nL cL : Nat) (pS : Option Addr) (nS cS : Nat) (τ : Tb) (k : Nat) (w : World) (hV : WV w 0 3 p L.length c (flatV L)) (hk : KeyV L) (ho : VOk L) (hl : L.length ≤ 100)
    (h : RO w B pL nL cL pS nS cS τ) (hB : B ≤ w.heap.size) (g : τ.Good k) (so : SOk τ) (inn : Int) (x : Frm) (hd : x.dst.Ok) (hs : x.src.Ok) (hsv : x.src.v = x.dst.v) (set : Int) (hset : 0 ≤ set ∧ set < 256) :
    Calls Try.prog 25 #[vtab n p L.length c, rtab pL nL cL pS nS cS, .int .i64 inn, .int .u16 x.dst.v, x.val, .int .u8 set] w (RGoes (goes7 (vcode L x.dst.v / 256) τ inn x.dst x.src set) B w) := by
  have HME := fun (W : World) (k : Keeps Nil w W) => hid (rmembers_any x.dst.v n 0 p c L W (hV.keepN k) hk hl)
  have HHA := fun (q : Int) (hq : 0 ≤ q ∧ q < 256) (i : Int) (hi : 0 ≤ i ∧ i < 8) (W : World) => hid (has_any q i hq hi W)
  have hM := ho.mem x.dst.v
  obtain ⟨r, hr⟩ : ∃ r, goes7 (vcode L x.dst.v / 256) τ inn x.dst x.src set = r := ⟨_, rfl⟩
  rw [hr]
  generalize hMM : vcode L x.dst.v / 256 = M at *
  have hG := GB.start (n := n) (p := p) (m := L.length) (c := c) (x := x) (pL := pL) (nL := nL) (cL := cL) (pS := pS) (nS := nS) (cS := cS) w
  have HRR := hid hr
  have H0 := hid h
  have HG := hid g
  have HSO := hid so
  have HDV := hid hd
  have HSV := hid (And.intro hs hsv)
  have HBZ := hid hB
  clear hr hV hk ho hl h g so hMM hs hsv hB
  go_enter Try.func25, Try.ntmps25
  go_upto_region 2 with (fail)
  generalize hWA : ((((((w.alloc (.cells #[Value.int IntKind.i64 n, Value.slice p L.length c, Value.int IntKind.u16 0, Value.int IntKind.u16 0, Value.int IntKind.u16 0, Value.int IntKind.u16 0, Value.int IntKind.u16 0, Value.int IntKind.u16 0, Value.int IntKind.u16 0, Value.int IntKind.u16 0] 57 (0, 0))).alloc (.cells #[Value.slice pL nL cL, Value.slice pS nS cS] 61 (0, 0))).alloc (.cells #[Value.int IntKind.u8 x.dst.a, Value.int IntKind.u8 x.dst.b, Value.int IntKind.u8 x.dst.c, Value.int IntKind.u8 x.dst.d, Value.int IntKind.u8 x.dst.e, Value.int IntKind.u8 x.dst.f, Value.int IntKind.u8 x.src.a, Value.int IntKind.u8 x.src.b, Value.int IntKind.u8 x.src.c, Value.int IntKind.u8 x.src.d, Value.int IntKind.u8 x.src.e, Value.int IntKind.u8 x.src.f, Value.bool x.tag, Value.int IntKind.u8 x.pri, Value.int IntKind.u16 x.fvid, Value.int IntKind.u16 x.ty, Value.string x.data] 33 (0, 0))).alloc (.cells #[Value.bool false, Value.bool false, Value.bool false, Value.bool false, Value.bool false, Value.bool false, Value.bool false, Value.bool false] 69 (0, 0))).alloc (.cells #[Value.slice Option.none 0 0, Value.slice Option.none 0 0] 61 (0, 0))).alloc (.cells #[Value.bool false, Value.bool false, Value.bool false, Value.bool false, Value.bool false, Value.bool false, Value.bool false, Value.bool false] 69 (0, 0))) = wz at *
  clear hWA
  obtain ⟨f0, hf0⟩ : ∃ f0 : Nat → Bool, (fun _ => false) = f0 := ⟨_, rfl⟩
  rw [hf0] at hG
  have HF0 := hid hf0
  generalize hbt : w.heap.size = bT at *
  have HBT := hid hbt
  have G0 := hid hG
  clear hbt hG hf0
  obtain ⟨f0', f1, f2, f3, f4, f5⟩ := six_frame G0.out.F
  go_wp2_with fail
  refine (rresv_any x.dst HDV.out.2.2.2.2.2.2 wz).mono ?_
  rintro ee w2 ⟨rfl, k2⟩
  have G2 := hid (G0.out.keepN k2)
  clear k2 f0' f1 f2 f3 f4 f5 G0
  cases hres : resvB x.dst with
  | true =>
    have HR0 := hid (show r = (f0, τ) by rw [← HRR.out]; unfold goes7; rw [if_pos (.inl hres), HF0.out])
    clear hres
    go_upto_region 3 with (fail)
    have HSG := hid (show ∀ X, Keeps Nil w2 X → (fun X : World => X.rangeAt (bT + 5) 0 [Value.bool (f0 0), Value.bool (f0 1), Value.bool (f0 2), Value.bool (f0 3), Value.bool (f0 4), Value.bool (f0 5), Value.bool (f0 6), Value.bool (f0 7)] ∧ (X.cell? ⟨bT + 1, 0, Option.none⟩ = some (.slice pL nL cL) ∧ X.cell? ⟨bT + 1, 1, Option.none⟩ = some (.slice pS nS cS))) X from fun X kX => ⟨range_block (kX.lies G2.out.L) _ 0 (fun j v hv => by simpa using hv), two_of (kX.lies G2.out.D)⟩)
    have kk : Keeps Nil w2 w2 := Keeps.refl _ _
    refine wp_region_held_drew (S := (fun X : World => X.rangeAt (bT + 5) 0 [Value.bool (f0 0), Value.bool (f0 1), Value.bool (f0 2), Value.bool (f0 3), Value.bool (f0 4), Value.bool (f0 5), Value.bool (f0 6), Value.bool (f0 7)] ∧ (X.cell? ⟨bT + 1, 0, Option.none⟩ = some (.slice pL nL cL) ∧ X.cell? ⟨bT + 1, 1, Option.none⟩ = some (.slice pS nS cS)))) (by kernel_rfl) ?_ (fun hHeld => ?_)
    · (try dsimp only); (first | exact HSG.out _ kk | exact HSG.out _ kk.drew)
    refine' wpAnyH_take (i := 0) (v := _) rfl (by kernel_rfl) (by kernel_rfl) (by kernel_rfl) (fun _ _ _ h => h) (yieldsIf_load_mid (by rfl) 69 _ rfl (bT + 5) 0 rfl [Value.bool (f0 0), Value.bool (f0 1), Value.bool (f0 2), Value.bool (f0 3), Value.bool (f0 4), Value.bool (f0 5), Value.bool (f0 6), Value.bool (f0 7)] _ (fun W hS => hS.1) Try.underlying69 rfl (by kernel_rfl)) (by assumption) ?_
    try simp only [Act.put, List.setIfInBounds_toArray, List.set_cons_zero, List.set_cons_succ, List.getElem_toArray, List.getElem_cons_zero, List.getElem_cons_succ]
    refine wpAnyH_take (i := 1) (v := ?_) rfl (by kernel_rfl) (by kernel_rfl) (by kernel_rfl) (fun _ _ _ h => h) (Or.inl ⟨by rfl, ?_⟩) (by assumption) ?_
    rotate_left
    · (intro W hSw; (try dsimp only at hSw); go_simp <;> with_reducible rfl)
    try simp only [Act.put, List.setIfInBounds_toArray, List.set_cons_zero, List.set_cons_succ, List.getElem_toArray, List.getElem_cons_zero, List.getElem_cons_succ]
    refine wpAnyH_ready (rs := [2]) (by kernel_rfl) (by simp) ?_
    refine AllReadyH.cons rfl (fun K hK => ?_) AllReadyH.nil
    rw [if_pos (by rfl)]
    refine wp_store_mid 69 _ _ rfl (bT + 3) 0 #[Value.bool (f0 0), Value.bool (f0 1), Value.bool (f0 2), Value.bool (f0 3), Value.bool (f0 4), Value.bool (f0 5), Value.bool (f0 6), Value.bool (f0 7)] rfl rfl ?_ (by kernel_rfl) ?_ ?_
    · exact bools_there ((Keeps.refl Nil w2).drew.lies G2.out.O) rfl f0
    · exact bools_one f0
    generalize hWO : World.setCells _ _ _ _ = wO
    have kO : Keeps (At (bT + 3)) w2.drew wO := by rw [← hWO]; exact Keeps.setCells (fun _ => at_self _) _ _ _ (Keeps.refl _ _)
    have bO : wO.heap[bT + 3]? = some (.cells #[Value.bool (f0 0), Value.bool (f0 1), Value.bool (f0 2), Value.bool (f0 3), Value.bool (f0 4), Value.bool (f0 5), Value.bool (f0 6), Value.bool (f0 7)] 69 (0, 0)) := by rw [← hWO]; exact setCells_bools ((Keeps.refl Nil w2).drew.lies G2.out.O) rfl f0
    clear hWO
    try simp only [Act.put, List.setIfInBounds_toArray, List.set_cons_zero, List.set_cons_succ, List.getElem_toArray, List.getElem_cons_zero, List.getElem_cons_succ]
    refine hK.out _ _ ?_ (fun hHeld => ?_)
    · (try dsimp only); exact ⟨range_block (((Keeps.refl (At (bT + 3)) w2).drew.trans kO).lies G2.out.L (fun e => by rw [At] at e; omega)) _ 0 (fun j v hv => by simpa using hv), two_of (((Keeps.refl (At (bT + 3)) w2).drew.trans kO).lies G2.out.D (fun e => by rw [At] at e; omega))⟩
    clear hK K
    try simp only [Act.put, List.setIfInBounds_toArray, List.set_cons_zero, List.set_cons_succ, List.getElem_toArray, List.getElem_cons_zero, List.getElem_cons_succ]
    refine wpAnyH_ready (rs := [3]) (by kernel_rfl) (by simp) ?_
    refine AllReadyH.cons rfl (fun K hK => ?_) AllReadyH.nil
    have hb1 := (((Keeps.refl (At (bT + 3)) w2).drew.trans kO).lies G2.out.R (fun e => by rw [At] at e; omega))
    have hth := there_block hb1
    rw [if_pos (by rfl)]
    refine wp_store_mid 61 _ _ rfl (bT + 4) 0 #[.slice pL nL cL, .slice pS nS cS] rfl rfl ?_ (by kernel_rfl) ?_ ?_
    · exact hth
    · simp [Value.oneCell']
    generalize hWR : World.setCells _ _ _ _ = wR
    have kR : Keeps (At (bT + 4)) wO wR := by rw [← hWR]; exact Keeps.setCells (fun _ => at_self _) _ _ _ (Keeps.refl _ _)
    have bR : wR.heap[bT + 4]? = some (.cells #[.slice pL nL cL, .slice pS nS cS] 61 (0, 0)) := by rw [← hWR]; exact (gset2 hb1 (.slice pL nL cL) (.slice pS nS cS)).1
    clear hWR hb1 hth
    try simp only [Act.put, List.setIfInBounds_toArray, List.set_cons_zero, List.set_cons_succ, List.getElem_toArray, List.getElem_cons_zero, List.getElem_cons_succ]
    refine hK.out _ _ ?_ (fun hHeld => ?_)
    · (try dsimp only); exact ⟨range_block (kR.lies (((Keeps.refl (At (bT + 3)) w2).drew.trans kO).lies G2.out.L (fun e => by rw [At] at e; omega)) (fun e => by rw [At] at e; omega)) _ 0 (fun j v hv => by simpa using hv), two_of (kR.lies (((Keeps.refl (At (bT + 3)) w2).drew.trans kO).lies G2.out.D (fun e => by rw [At] at e; omega)) (fun e => by rw [At] at e; omega))⟩
    clear hK K
    try simp only [Act.put, List.setIfInBounds_toArray, List.set_cons_zero, List.set_cons_succ, List.getElem_toArray, List.getElem_cons_zero, List.getElem_cons_succ]
    refine wpAnyH_done (by kernel_rfl) ?_ _
    have HO9 := hid (kR.lies bO (fun e => by rw [At] at e; omega))
    have HR9 := hid bR
    have K9 := hid (((G2.out.K.drew).thenAt kO (by have := G2.out.z; omega)).thenAt kR (by have := G2.out.z; omega))
    have KK9 := hid (show Keeps (fun g => g = bT + 3 ∨ g = bT + 4) w2 wR from ((Keeps.refl _ w2).drew.trans (kO.mono (fun k e => .inl e))).trans (kR.mono (fun k e => .inr e)))
    clear kO bO kR bR
    have q8 := eight_cells HO9.out
    have q0 := q8 0 (by decide)
    have q1 := q8 1 (by decide)
    have q2 := q8 2 (by decide)
    have q3 := q8 3 (by decide)
    have q4 := q8 4 (by decide)
    have q5 := q8 5 (by decide)
    have q6 := q8 6 (by decide)
    have q7 := q8 7 (by decide)
    clear q8
    obtain ⟨y0, y1⟩ := two_of HR9.out
    go_wp2_with fail
    refine bodyPost_ret (v := .tuple #[bools f0, rtab pL nL cL pS nS cS]) (by simp [results, Try.results25, go_sem, q0, q1, q2, q3, q4, q5, q6, q7, y0, y1]) rfl ?_
    rw [HR0.out]
    exact ⟨⟨pL, nL, cL, pS, nS, cS, rfl, H0.out.keepN K9.out⟩, K9.out⟩
  | false =>
  by_cases h7 : 7 < inn
  · have HR0 := hid (show r = (f0, τ) by rw [← HRR.out]; unfold goes7; rw [if_pos (.inr h7), HF0.out])
    have h7' : decide (7 < inn) = true := decide_eq_true h7
    clear hres h7
    go_upto_region 3 with (fail)
    have HSG := hid (show ∀ X, Keeps Nil w2 X → (fun X : World => X.rangeAt (bT + 5) 0 [Value.bool (f0 0), Value.bool (f0 1), Value.bool (f0 2), Value.bool (f0 3), Value.bool (f0 4), Value.bool (f0 5), Value.bool (f0 6), Value.bool (f0 7)] ∧ (X.cell? ⟨bT + 1, 0, Option.none⟩ = some (.slice pL nL cL) ∧ X.cell? ⟨bT + 1, 1, Option.none⟩ = some (.slice pS nS cS))) X from fun X kX => ⟨range_block (kX.lies G2.out.L) _ 0 (fun j v hv => by simpa using hv), two_of (kX.lies G2.out.D)⟩)
    have kk : Keeps Nil w2 w2 := Keeps.refl _ _
    refine wp_region_held_drew (S := (fun X : World => X.rangeAt (bT + 5) 0 [Value.bool (f0 0), Value.bool (f0 1), Value.bool (f0 2), Value.bool (f0 3), Value.bool (f0 4), Value.bool (f0 5), Value.bool (f0 6), Value.bool (f0 7)] ∧ (X.cell? ⟨bT + 1, 0, Option.none⟩ = some (.slice pL nL cL) ∧ X.cell? ⟨bT + 1, 1, Option.none⟩ = some (.slice pS nS cS)))) (by kernel_rfl) ?_ (fun hHeld => ?_)
    · (try dsimp only); (first | exact HSG.out _ kk | exact HSG.out _ kk.drew)
    refine' wpAnyH_take (i := 0) (v := _) rfl (by kernel_rfl) (by kernel_rfl) (by kernel_rfl) (fun _ _ _ h => h) (yieldsIf_load_mid (by rfl) 69 _ rfl (bT + 5) 0 rfl [Value.bool (f0 0), Value.bool (f0 1), Value.bool (f0 2), Value.bool (f0 3), Value.bool (f0 4), Value.bool (f0 5), Value.bool (f0 6), Value.bool (f0 7)] _ (fun W hS => hS.1) Try.underlying69 rfl (by kernel_rfl)) (by assumption) ?_
    try simp only [Act.put, List.setIfInBounds_toArray, List.set_cons_zero, List.set_cons_succ, List.getElem_toArray, List.getElem_cons_zero, List.getElem_cons_succ]
    refine wpAnyH_take (i := 1) (v := ?_) rfl (by kernel_rfl) (by kernel_rfl) (by kernel_rfl) (fun _ _ _ h => h) (Or.inl ⟨by rfl, ?_⟩) (by assumption) ?_
    rotate_left
    · (intro W hSw; (try dsimp only at hSw); go_simp <;> with_reducible rfl)
    try simp only [Act.put, List.setIfInBounds_toArray, List.set_cons_zero, List.set_cons_succ, List.getElem_toArray, List.getElem_cons_zero, List.getElem_cons_succ]
    refine wpAnyH_ready (rs := [2]) (by kernel_rfl) (by simp) ?_
    refine AllReadyH.cons rfl (fun K hK => ?_) AllReadyH.nil
    rw [if_pos (by rfl)]
    refine wp_store_mid 69 _ _ rfl (bT + 3) 0 #[Value.bool (f0 0), Value.bool (f0 1), Value.bool (f0 2), Value.bool (f0 3), Value.bool (f0 4), Value.bool (f0 5), Value.bool (f0 6), Value.bool (f0 7)] rfl rfl ?_ (by kernel_rfl) ?_ ?_
    · exact bools_there ((Keeps.refl Nil w2).drew.lies G2.out.O) rfl f0
    · exact bools_one f0
    generalize hWO : World.setCells _ _ _ _ = wO
    have kO : Keeps (At (bT + 3)) w2.drew wO := by rw [← hWO]; exact Keeps.setCells (fun _ => at_self _) _ _ _ (Keeps.refl _ _)
    have bO : wO.heap[bT + 3]? = some (.cells #[Value.bool (f0 0), Value.bool (f0 1), Value.bool (f0 2), Value.bool (f0 3), Value.bool (f0 4), Value.bool (f0 5), Value.bool (f0 6), Value.bool (f0 7)] 69 (0, 0)) := by rw [← hWO]; exact setCells_bools ((Keeps.refl Nil w2).drew.lies G2.out.O) rfl f0
    clear hWO
    try simp only [Act.put, List.setIfInBounds_toArray, List.set_cons_zero, List.set_cons_succ, List.getElem_toArray, List.getElem_cons_zero, List.getElem_cons_succ]
    refine hK.out _ _ ?_ (fun hHeld => ?_)
    · (try dsimp only); exact ⟨range_block (((Keeps.refl (At (bT + 3)) w2).drew.trans kO).lies G2.out.L (fun e => by rw [At] at e; omega)) _ 0 (fun j v hv => by simpa using hv), two_of (((Keeps.refl (At (bT + 3)) w2).drew.trans kO).lies G2.out.D (fun e => by rw [At] at e; omega))⟩
    clear hK K
    try simp only [Act.put, List.setIfInBounds_toArray, List.set_cons_zero, List.set_cons_succ, List.getElem_toArray, List.getElem_cons_zero, List.getElem_cons_succ]
    refine wpAnyH_ready (rs := [3]) (by kernel_rfl) (by simp) ?_
    refine AllReadyH.cons rfl (fun K hK => ?_) AllReadyH.nil
    have hb1 := (((Keeps.refl (At (bT + 3)) w2).drew.trans kO).lies G2.out.R (fun e => by rw [At] at e; omega))
    have hth := there_block hb1
    rw [if_pos (by rfl)]
    refine wp_store_mid 61 _ _ rfl (bT + 4) 0 #[.slice pL nL cL, .slice pS nS cS] rfl rfl ?_ (by kernel_rfl) ?_ ?_
    · exact hth
    · simp [Value.oneCell']
    generalize hWR : World.setCells _ _ _ _ = wR
    have kR : Keeps (At (bT + 4)) wO wR := by rw [← hWR]; exact Keeps.setCells (fun _ => at_self _) _ _ _ (Keeps.refl _ _)
    have bR : wR.heap[bT + 4]? = some (.cells #[.slice pL nL cL, .slice pS nS cS] 61 (0, 0)) := by rw [← hWR]; exact (gset2 hb1 (.slice pL nL cL) (.slice pS nS cS)).1
    clear hWR hb1 hth
    try simp only [Act.put, List.setIfInBounds_toArray, List.set_cons_zero, List.set_cons_succ, List.getElem_toArray, List.getElem_cons_zero, List.getElem_cons_succ]
    refine hK.out _ _ ?_ (fun hHeld => ?_)
    · (try dsimp only); exact ⟨range_block (kR.lies (((Keeps.refl (At (bT + 3)) w2).drew.trans kO).lies G2.out.L (fun e => by rw [At] at e; omega)) (fun e => by rw [At] at e; omega)) _ 0 (fun j v hv => by simpa using hv), two_of (kR.lies (((Keeps.refl (At (bT + 3)) w2).drew.trans kO).lies G2.out.D (fun e => by rw [At] at e; omega)) (fun e => by rw [At] at e; omega))⟩
    clear hK K
    try simp only [Act.put, List.setIfInBounds_toArray, List.set_cons_zero, List.set_cons_succ, List.getElem_toArray, List.getElem_cons_zero, List.getElem_cons_succ]
    refine wpAnyH_done (by kernel_rfl) ?_ _
    have HO9 := hid (kR.lies bO (fun e => by rw [At] at e; omega))
    have HR9 := hid bR
    have K9 := hid (((G2.out.K.drew).thenAt kO (by have := G2.out.z; omega)).thenAt kR (by have := G2.out.z; omega))
    have KK9 := hid (show Keeps (fun g => g = bT + 3 ∨ g = bT + 4) w2 wR from ((Keeps.refl _ w2).drew.trans (kO.mono (fun k e => .inl e))).trans (kR.mono (fun k e => .inr e)))
    clear kO bO kR bR
    have q8 := eight_cells HO9.out
    have q0 := q8 0 (by decide)
    have q1 := q8 1 (by decide)
    have q2 := q8 2 (by decide)
    have q3 := q8 3 (by decide)
    have q4 := q8 4 (by decide)
    have q5 := q8 5 (by decide)
    have q6 := q8 6 (by decide)
    have q7 := q8 7 (by decide)
    clear q8
    obtain ⟨y0, y1⟩ := two_of HR9.out
    go_wp2_with fail
    refine bodyPost_ret (v := .tuple #[bools f0, rtab pL nL cL pS nS cS]) (by simp [results, Try.results25, go_sem, q0, q1, q2, q3, q4, q5, q6, q7, y0, y1]) rfl ?_
    rw [HR0.out]
    exact ⟨⟨pL, nL, cL, pS, nS, cS, rfl, H0.out.keepN K9.out⟩, K9.out⟩
  have h7' : decide (7 < inn) = false := decide_eq_false h7
  obtain ⟨c0, c1, c2, c3, c4, c5, c6, c7, c8, c9⟩ := ten_of G2.out.T
  have HRS := hid hres
  clear hres
  go_wp2_with fail
  refine (HME _ G2.out.K).out.mono ?_
  rintro ee w3 ⟨rfl, k3⟩
  have G3 := hid (G2.out.keepN k3)
  clear k3 c0 c1 c2 c3 c4 c5 c6 c7 c8 c9 G2
  have HRZ := hid (show r = goesIn M τ inn x.dst x.src set by rw [← HRR.out]; exact goes7_in (by rintro (e | e); rw [HRS.out] at e; cases e; simp at h7'; omega))
  have HMB := hid hM
  by_cases hn : 0 ≤ inn
  · have hn8 : inn < 8 := by simp at h7'; omega
    have hn1 : decide (0 ≤ inn) = true := decide_eq_true hn
    have hw : IntKind.u8.wrap inn = inn := by simp [IntKind.wrap, IntKind.bits, IntKind.signed]; omega
    have CM := fun W => HHA M HMB.out inn ⟨hn, hn8⟩ W
    have CF := fun W => HHA set hset inn ⟨hn, hn8⟩ W
    have em := bitP_B8 HMB.out (p := inn.toNat) (by omega)
    have ef := bitP_B8 hset (p := inn.toNat) (by omega)
    unfold bitP at em ef
    obtain ⟨xm, hxm⟩ : ∃ b, (bits BinOp.and .u8 (M / 2 ^ inn.toNat) 1 == 1) = b := ⟨_, rfl⟩
    obtain ⟨xf, hxf⟩ : ∃ b, (bits BinOp.and .u8 (set / 2 ^ inn.toNat) 1 == 1) = b := ⟨_, rfl⟩
    rw [hxm] at CM em
    rw [hxf] at CF ef
    have HEM := hid (And.intro em ef)
    clear hxm hxf em ef
    by_cases hgo : xm = true ∧ xf = true
    · obtain ⟨rfl, rfl⟩ := hgo
      have HR4 := HRZ.out
      rw [goesIn, if_neg (fun e => e.2 ⟨HEM.out.1.symm, HEM.out.2.symm⟩), if_pos hn] at HR4
      have HR4h := hid HR4
      clear HRZ HR4
      go_upto_region 8 with (first | (with_reducible refine (CM _).out.mono ?_; rintro ee wv ⟨rfl, rfl⟩) | (with_reducible refine (CF _).out.mono ?_; rintro ee wv ⟨rfl, rfl⟩))
      obtain ⟨d0, d1⟩ := two_of G3.out.D
      obtain ⟨g0, g1⟩ := two_free G3.out.D
      have lD := lt_of_block G3.out.D
      obtain ⟨f6, f7, f8, f9, f10, f11⟩ := six_src G3.out.F
      have HLE := r_learn (H0.out.keepN G3.out.K) (by have h1 := HBZ.out; have h2 := G3.out.K.size; have h3 := G3.out.z; omega) HG.out x.src HSV.out.1 inn hn
      rw [HSV.out.2] at HLE
      have HLE := hid HLE
      go_wp2_with fail
      refine HLE.out.mono ?_
      rintro ee w4 ⟨⟨qL, mL, dL, qS, mS, dS, rfl, ro4⟩, k4⟩
      have G4 := hid (G3.out.keepN k4)
      have R4 := hid ro4
      clear d0 d1 g0 g1 lD f6 f7 f8 f9 f10 f11 k4 ro4 HLE
      obtain ⟨d0, d1⟩ := two_of G4.out.D
      obtain ⟨g0, g1⟩ := two_free G4.out.D
      have lD := lt_of_block G4.out.D
      go_upto_region 9 with (fail)
      obtain ⟨g5, k5⟩ := G4.out.setD qL mL dL qS mS dS
      generalize ((w4.setCell ⟨bT + 1, 0, Option.none⟩ (.slice qL mL dL)).setCell ⟨bT + 1, 1, Option.none⟩ (.slice qS mS dS)) = w5 at *
      have G5 := hid g5
      have R5 := hid (R4.out.keepT k5 (fun g hg => ⟨_, 61, by rw [At] at hg; subst hg; exact G4.out.D, .inl rfl⟩))
      have HG5 := hid (show (τ.learn x.src inn).Good (k + 1) from HG.out.learn _ _ hn)
      have HSO5 := hid (HSO.out.learn x.src inn)
      clear d0 d1 g0 g1 lD g5 k5 R4 G4 G3
      generalize τ.learn x.src inn = τ1 at *
      obtain ⟨d0, d1⟩ := two_of G5.out.D
      obtain ⟨f0', f1, f2, f3, f4, f5⟩ := six_frame G5.out.F
      rcases hlk : τ1.look x.dst with ⟨u, z⟩
      have hub := HSO5.out.look HG5.out x.dst
      rw [hlk] at hub
      have hub : 0 ≤ u ∧ u < 256 := hub
      have HLK := r_look R5.out HG5.out x.dst
      rw [hlk] at HLK
      have HLK := hid HLK
      have HR6 := hid (show r = (fun p : Nat => decide ((p : Int) ≠ inn) && ((B8 M).getLsbD p && ((B8 set).getLsbD p && (!z || (B8 u).getLsbD p))), τ1) by
        have e := HR4h.out
        unfold goesLk at e
        rw [hlk] at e
        exact e)
      clear hlk HR4h
      go_wp2_with fail
      refine HLK.out.mono ?_
      rintro ee w6 ⟨rfl, k6⟩
      have G6 := hid (G5.out.keepN k6)
      have R6 := hid (R5.out.keepN k6)
      clear d0 d1 f0' f1 f2 f3 f4 f5 HLK k6
      obtain ⟨F, HFF, HFQ⟩ : ∃ F : Nat → Bool, Hid (r = (F, τ1)) ∧ ∀ q : Nat, q < 8 → Hid (F q = (decide ((q : Int) ≠ inn) && (bitP M q && (bitP set q && (!z || bitP u q))))) :=
        ⟨_, HR6, fun q hq => by rw [bitP_B8 HMB.out hq, bitP_B8 hset hq, bitP_B8 hub hq]; exact rfl⟩
      have HFZ := hid (show outF F 0 = f0 by rw [outF_zero, HF0.out])
      go_wp2_with fail
      go_loopw [18] (fun s18 wr => ∃ j : Nat, j ≤ 8 ∧ s18 = .int .i64 j ∧ Hid (GB w wr bT n p L.length c x qL mL dL qS mS dS (outF F j) ∧ RO wr B qL mL dL qS mS dS τ1)) (fun s18 _ => 8 - (intOf s18).toNat)
      case atStart => exact ⟨0, by omega, rfl, hid ⟨by rw [HFZ.out]; exact G6.out, R6.out⟩⟩
      case round =>
        obtain ⟨j, hj, rfl, HGR⟩ := hrel
        by_cases hlt : j < 8
        · have G7 := hid HGR.out.1
          have R7 := hid HGR.out.2
          clear HGR
          have hc := eight_cells G7.out.L j hlt
          have hfz := tail_free G7.out.L j
          have lL := lt_of_block G7.out.L
          have hw : IntKind.u8.wrap (j : Int) = j := by simp [IntKind.wrap, IntKind.bits, IntKind.signed]; omega
          have CM := fun W => HHA M HMB.out (j : Int) ⟨by omega, by omega⟩ W
          have CF := fun W => HHA set hset (j : Int) ⟨by omega, by omega⟩ W
          have CU := fun W => HHA u hub (j : Int) ⟨by omega, by omega⟩ W
          have HQ := (HFQ j hlt).out
          unfold bitP at HQ
          simp only [Int.toNat_natCast] at CM CF CU
          obtain ⟨xe, hxe⟩ : ∃ b, decide ((j : Int) ≠ inn) = b := ⟨_, rfl⟩
          obtain ⟨xm, hxm⟩ : ∃ b, (bits BinOp.and .u8 (M / 2 ^ j) 1 == 1) = b := ⟨_, rfl⟩
          obtain ⟨xf, hxf⟩ : ∃ b, (bits BinOp.and .u8 (set / 2 ^ j) 1 == 1) = b := ⟨_, rfl⟩
          obtain ⟨xu, hxu⟩ : ∃ b, (bits BinOp.and .u8 (u / 2 ^ j) 1 == 1) = b := ⟨_, rfl⟩
          have hxe2 : ((j : Int) != inn) = xe := by rw [← hxe]; simp [bne, BEq.beq]
          rw [hxm] at CM HQ
          rw [hxf] at CF HQ
          rw [hxu] at CU HQ
          rw [hxe] at HQ
          have HQ := hid HQ
          clear hxm hxf hxu hxe
          have hv : (xe = false) ∨ (xe = true ∧ xm = false) ∨ (xe = true ∧ xm = true ∧ xf = false) ∨ (xe = true ∧ xm = true ∧ xf = true ∧ z = false) ∨ (xe = true ∧ xm = true ∧ xf = true ∧ z = true) := by
            cases xe <;> cases xm <;> cases xf <;> cases z <;> simp
          rcases hv with rfl | ⟨rfl, rfl⟩ | ⟨rfl, rfl, rfl⟩ | ⟨rfl, rfl, rfl, rfl⟩ | ⟨rfl, rfl, rfl, rfl⟩
          all_goals
            have HQ2 := hid (show F j = _ from HQ.out)
            go_wp2_with (first | (with_reducible refine (CM _).out.mono ?_; rintro ee wv ⟨rfl, rfl⟩) | (with_reducible refine (CF _).out.mono ?_; rintro ee wv ⟨rfl, rfl⟩) | (with_reducible refine (CU _).out.mono ?_; rintro ee wv ⟨rfl, rfl⟩))
            obtain ⟨g8, k8⟩ := G7.out.setL hlt
            rw [HQ2.out] at g8 k8
            try simp only [Bool.false_and, Bool.true_and, Bool.not_false, Bool.not_true, Bool.true_or, Bool.false_or] at g8 k8
            go_roundw
            case rel => exact ⟨j + 1, by omega, by go_num, hid ⟨g8, R7.out.keepT k8 (fun g hg => ⟨_, 69, by rw [At] at hg; subst hg; exact G7.out.L, .inr rfl⟩)⟩⟩
            case measure => simp only [intOf]; omega
        · obtain rfl : j = 8 := by omega
          have G7 := hid (show GB w wr bT n p L.length c x qL mL dL qS mS dS F by
            have h := HGR.out.1
            refine ⟨h.T, h.D, h.F, h.O, h.R, ?_, h.K, h.z⟩
            have hL := h.L
            simpa [outF] using hL)
          have R7 := hid HGR.out.2
          clear HGR
          go_upto_region 14 with (fail)
          have HSG := hid (show ∀ X, Keeps Nil wr X → (fun X : World => X.rangeAt (bT + 5) 0 [Value.bool (F 0), Value.bool (F 1), Value.bool (F 2), Value.bool (F 3), Value.bool (F 4), Value.bool (F 5), Value.bool (F 6), Value.bool (F 7)] ∧ (X.cell? ⟨bT + 1, 0, Option.none⟩ = some (.slice qL mL dL) ∧ X.cell? ⟨bT + 1, 1, Option.none⟩ = some (.slice qS mS dS))) X from fun X kX => ⟨range_block (kX.lies G7.out.L) _ 0 (fun j v hv => by simpa using hv), two_of (kX.lies G7.out.D)⟩)
          have kk : Keeps Nil wr wr := Keeps.refl _ _
          refine wp_region_held_drew (S := (fun X : World => X.rangeAt (bT + 5) 0 [Value.bool (F 0), Value.bool (F 1), Value.bool (F 2), Value.bool (F 3), Value.bool (F 4), Value.bool (F 5), Value.bool (F 6), Value.bool (F 7)] ∧ (X.cell? ⟨bT + 1, 0, Option.none⟩ = some (.slice qL mL dL) ∧ X.cell? ⟨bT + 1, 1, Option.none⟩ = some (.slice qS mS dS)))) (by kernel_rfl) ?_ (fun hHeld => ?_)
          · (try dsimp only); (first | exact HSG.out _ kk | exact HSG.out _ kk.drew)
          refine' wpAnyH_take (i := 0) (v := _) rfl (by kernel_rfl) (by kernel_rfl) (by kernel_rfl) (fun _ _ _ h => h) (yieldsIf_load_mid (by rfl) 69 _ rfl (bT + 5) 0 rfl [Value.bool (F 0), Value.bool (F 1), Value.bool (F 2), Value.bool (F 3), Value.bool (F 4), Value.bool (F 5), Value.bool (F 6), Value.bool (F 7)] _ (fun W hS => hS.1) Try.underlying69 rfl (by kernel_rfl)) (by assumption) ?_
          try simp only [Act.put, List.setIfInBounds_toArray, List.set_cons_zero, List.set_cons_succ, List.getElem_toArray, List.getElem_cons_zero, List.getElem_cons_succ]
          refine wpAnyH_take (i := 1) (v := ?_) rfl (by kernel_rfl) (by kernel_rfl) (by kernel_rfl) (fun _ _ _ h => h) (Or.inl ⟨by rfl, ?_⟩) (by assumption) ?_
          rotate_left
          · (intro W hSw; (try dsimp only at hSw); go_simp <;> with_reducible rfl)
          try simp only [Act.put, List.setIfInBounds_toArray, List.set_cons_zero, List.set_cons_succ, List.getElem_toArray, List.getElem_cons_zero, List.getElem_cons_succ]
          refine wpAnyH_ready (rs := [2]) (by kernel_rfl) (by simp) ?_
          refine AllReadyH.cons rfl (fun K hK => ?_) AllReadyH.nil
          rw [if_pos (by rfl)]
          refine wp_store_mid 69 _ _ rfl (bT + 3) 0 #[Value.bool (F 0), Value.bool (F 1), Value.bool (F 2), Value.bool (F 3), Value.bool (F 4), Value.bool (F 5), Value.bool (F 6), Value.bool (F 7)] rfl rfl ?_ (by kernel_rfl) ?_ ?_
          · exact bools_there ((Keeps.refl Nil wr).drew.lies G7.out.O) rfl F
          · exact bools_one F
          generalize hWO : World.setCells _ _ _ _ = wO
          have kO : Keeps (At (bT + 3)) wr.drew wO := by rw [← hWO]; exact Keeps.setCells (fun _ => at_self _) _ _ _ (Keeps.refl _ _)
          have bO : wO.heap[bT + 3]? = some (.cells #[Value.bool (F 0), Value.bool (F 1), Value.bool (F 2), Value.bool (F 3), Value.bool (F 4), Value.bool (F 5), Value.bool (F 6), Value.bool (F 7)] 69 (0, 0)) := by rw [← hWO]; exact setCells_bools ((Keeps.refl Nil wr).drew.lies G7.out.O) rfl F
          clear hWO
          try simp only [Act.put, List.setIfInBounds_toArray, List.set_cons_zero, List.set_cons_succ, List.getElem_toArray, List.getElem_cons_zero, List.getElem_cons_succ]
          refine hK.out _ _ ?_ (fun hHeld => ?_)
          · (try dsimp only); exact ⟨range_block (((Keeps.refl (At (bT + 3)) wr).drew.trans kO).lies G7.out.L (fun e => by rw [At] at e; omega)) _ 0 (fun j v hv => by simpa using hv), two_of (((Keeps.refl (At (bT + 3)) wr).drew.trans kO).lies G7.out.D (fun e => by rw [At] at e; omega))⟩
          clear hK K
          try simp only [Act.put, List.setIfInBounds_toArray, List.set_cons_zero, List.set_cons_succ, List.getElem_toArray, List.getElem_cons_zero, List.getElem_cons_succ]
          refine wpAnyH_ready (rs := [3]) (by kernel_rfl) (by simp) ?_
          refine AllReadyH.cons rfl (fun K hK => ?_) AllReadyH.nil
          have hb1 := (((Keeps.refl (At (bT + 3)) wr).drew.trans kO).lies G7.out.R (fun e => by rw [At] at e; omega))
          have hth := there_block hb1
          rw [if_pos (by rfl)]
          refine wp_store_mid 61 _ _ rfl (bT + 4) 0 #[.slice qL mL dL, .slice qS mS dS] rfl rfl ?_ (by kernel_rfl) ?_ ?_
          · exact hth
          · simp [Value.oneCell']
          generalize hWR : World.setCells _ _ _ _ = wR
          have kR : Keeps (At (bT + 4)) wO wR := by rw [← hWR]; exact Keeps.setCells (fun _ => at_self _) _ _ _ (Keeps.refl _ _)
          have bR : wR.heap[bT + 4]? = some (.cells #[.slice qL mL dL, .slice qS mS dS] 61 (0, 0)) := by rw [← hWR]; exact (gset2 hb1 (.slice qL mL dL) (.slice qS mS dS)).1
          clear hWR hb1 hth
          try simp only [Act.put, List.setIfInBounds_toArray, List.set_cons_zero, List.set_cons_succ, List.getElem_toArray, List.getElem_cons_zero, List.getElem_cons_succ]
          refine hK.out _ _ ?_ (fun hHeld => ?_)
          · (try dsimp only); exact ⟨range_block (kR.lies (((Keeps.refl (At (bT + 3)) wr).drew.trans kO).lies G7.out.L (fun e => by rw [At] at e; omega)) (fun e => by rw [At] at e; omega)) _ 0 (fun j v hv => by simpa using hv), two_of (kR.lies (((Keeps.refl (At (bT + 3)) wr).drew.trans kO).lies G7.out.D (fun e => by rw [At] at e; omega)) (fun e => by rw [At] at e; omega))⟩
          clear hK K
          try simp only [Act.put, List.setIfInBounds_toArray, List.set_cons_zero, List.set_cons_succ, List.getElem_toArray, List.getElem_cons_zero, List.getElem_cons_succ]
          refine wpAnyH_done (by kernel_rfl) ?_ _
          have HO9 := hid (kR.lies bO (fun e => by rw [At] at e; omega))
          have HR9 := hid bR
          have K9 := hid (((G7.out.K.drew).thenAt kO (by have := G7.out.z; omega)).thenAt kR (by have := G7.out.z; omega))
          have KK9 := hid (show Keeps (fun g => g = bT + 3 ∨ g = bT + 4) wr wR from ((Keeps.refl _ wr).drew.trans (kO.mono (fun k e => .inl e))).trans (kR.mono (fun k e => .inr e)))
          clear kO bO kR bR
          have q8 := eight_cells HO9.out
          have q0 := q8 0 (by decide)
          have q1 := q8 1 (by decide)
          have q2 := q8 2 (by decide)
          have q3 := q8 3 (by decide)
          have q4 := q8 4 (by decide)
          have q5 := q8 5 (by decide)
          have q6 := q8 6 (by decide)
          have q7 := q8 7 (by decide)
          clear q8
          obtain ⟨y0, y1⟩ := two_of HR9.out
          go_wp2_with fail
          refine bodyPost_ret (v := .tuple #[bools F, rtab qL mL dL qS mS dS]) (by simp [results, Try.results25, go_sem, q0, q1, q2, q3, q4, q5, q6, q7, y0, y1]) rfl ?_
          rw [HFF.out]
          have R9 := RO.keepT R7.out KK9.out (fun g hg => by
            rcases hg with hg | hg
            · exact ⟨_, 69, by rw [hg]; exact G7.out.O, .inr rfl⟩
            · exact ⟨_, 61, by rw [hg]; exact G7.out.R, .inl rfl⟩)
          exact ⟨⟨qL, mL, dL, qS, mS, dS, rfl, R9⟩, K9.out⟩
    · have HR0 := hid (show r = (f0, τ) by rw [HRZ.out, goesIn, if_pos ⟨hn, fun e => hgo ⟨HEM.out.1.trans e.1, HEM.out.2.trans e.2⟩⟩, HF0.out])
      clear HRZ
      have hx : xm = false ∨ (xm = true ∧ xf = false) := by cases xm <;> cases xf <;> simp_all
      clear hgo HEM
      rcases hx with rfl | ⟨rfl, rfl⟩
      all_goals
        go_upto_region 6 with (first | (with_reducible refine (CM _).out.mono ?_; rintro ee wv ⟨rfl, rfl⟩) | (with_reducible refine (CF _).out.mono ?_; rintro ee wv ⟨rfl, rfl⟩))
        have HSG := hid (show ∀ X, Keeps Nil w3 X → (fun X : World => X.rangeAt (bT + 5) 0 [Value.bool (f0 0), Value.bool (f0 1), Value.bool (f0 2), Value.bool (f0 3), Value.bool (f0 4), Value.bool (f0 5), Value.bool (f0 6), Value.bool (f0 7)] ∧ (X.cell? ⟨bT + 1, 0, Option.none⟩ = some (.slice pL nL cL) ∧ X.cell? ⟨bT + 1, 1, Option.none⟩ = some (.slice pS nS cS))) X from fun X kX => ⟨range_block (kX.lies G3.out.L) _ 0 (fun j v hv => by simpa using hv), two_of (kX.lies G3.out.D)⟩)
        have kk : Keeps Nil w3 w3 := Keeps.refl _ _
        refine wp_region_held_drew (S := (fun X : World => X.rangeAt (bT + 5) 0 [Value.bool (f0 0), Value.bool (f0 1), Value.bool (f0 2), Value.bool (f0 3), Value.bool (f0 4), Value.bool (f0 5), Value.bool (f0 6), Value.bool (f0 7)] ∧ (X.cell? ⟨bT + 1, 0, Option.none⟩ = some (.slice pL nL cL) ∧ X.cell? ⟨bT + 1, 1, Option.none⟩ = some (.slice pS nS cS)))) (by kernel_rfl) ?_ (fun hHeld => ?_)
        · (try dsimp only); (first | exact HSG.out _ kk | exact HSG.out _ kk.drew)
        refine' wpAnyH_take (i := 0) (v := _) rfl (by kernel_rfl) (by kernel_rfl) (by kernel_rfl) (fun _ _ _ h => h) (yieldsIf_load_mid (by rfl) 69 _ rfl (bT + 5) 0 rfl [Value.bool (f0 0), Value.bool (f0 1), Value.bool (f0 2), Value.bool (f0 3), Value.bool (f0 4), Value.bool (f0 5), Value.bool (f0 6), Value.bool (f0 7)] _ (fun W hS => hS.1) Try.underlying69 rfl (by kernel_rfl)) (by assumption) ?_
        try simp only [Act.put, List.setIfInBounds_toArray, List.set_cons_zero, List.set_cons_succ, List.getElem_toArray, List.getElem_cons_zero, List.getElem_cons_succ]
        refine wpAnyH_take (i := 1) (v := ?_) rfl (by kernel_rfl) (by kernel_rfl) (by kernel_rfl) (fun _ _ _ h => h) (Or.inl ⟨by rfl, ?_⟩) (by assumption) ?_
        rotate_left
        · (intro W hSw; (try dsimp only at hSw); go_simp <;> with_reducible rfl)
        try simp only [Act.put, List.setIfInBounds_toArray, List.set_cons_zero, List.set_cons_succ, List.getElem_toArray, List.getElem_cons_zero, List.getElem_cons_succ]
        refine wpAnyH_ready (rs := [2]) (by kernel_rfl) (by simp) ?_
        refine AllReadyH.cons rfl (fun K hK => ?_) AllReadyH.nil
        rw [if_pos (by rfl)]
        refine wp_store_mid 69 _ _ rfl (bT + 3) 0 #[Value.bool (f0 0), Value.bool (f0 1), Value.bool (f0 2), Value.bool (f0 3), Value.bool (f0 4), Value.bool (f0 5), Value.bool (f0 6), Value.bool (f0 7)] rfl rfl ?_ (by kernel_rfl) ?_ ?_
        · exact bools_there ((Keeps.refl Nil w3).drew.lies G3.out.O) rfl f0
        · exact bools_one f0
        generalize hWO : World.setCells _ _ _ _ = wO
        have kO : Keeps (At (bT + 3)) w3.drew wO := by rw [← hWO]; exact Keeps.setCells (fun _ => at_self _) _ _ _ (Keeps.refl _ _)
        have bO : wO.heap[bT + 3]? = some (.cells #[Value.bool (f0 0), Value.bool (f0 1), Value.bool (f0 2), Value.bool (f0 3), Value.bool (f0 4), Value.bool (f0 5), Value.bool (f0 6), Value.bool (f0 7)] 69 (0, 0)) := by rw [← hWO]; exact setCells_bools ((Keeps.refl Nil w3).drew.lies G3.out.O) rfl f0
        clear hWO
        try simp only [Act.put, List.setIfInBounds_toArray, List.set_cons_zero, List.set_cons_succ, List.getElem_toArray, List.getElem_cons_zero, List.getElem_cons_succ]
        refine hK.out _ _ ?_ (fun hHeld => ?_)
        · (try dsimp only); exact ⟨range_block (((Keeps.refl (At (bT + 3)) w3).drew.trans kO).lies G3.out.L (fun e => by rw [At] at e; omega)) _ 0 (fun j v hv => by simpa using hv), two_of (((Keeps.refl (At (bT + 3)) w3).drew.trans kO).lies G3.out.D (fun e => by rw [At] at e; omega))⟩
        clear hK K
        try simp only [Act.put, List.setIfInBounds_toArray, List.set_cons_zero, List.set_cons_succ, List.getElem_toArray, List.getElem_cons_zero, List.getElem_cons_succ]
        refine wpAnyH_ready (rs := [3]) (by kernel_rfl) (by simp) ?_
        refine AllReadyH.cons rfl (fun K hK => ?_) AllReadyH.nil
        have hb1 := (((Keeps.refl (At (bT + 3)) w3).drew.trans kO).lies G3.out.R (fun e => by rw [At] at e; omega))
        have hth := there_block hb1
        rw [if_pos (by rfl)]
        refine wp_store_mid 61 _ _ rfl (bT + 4) 0 #[.slice pL nL cL, .slice pS nS cS] rfl rfl ?_ (by kernel_rfl) ?_ ?_
        · exact hth
        · simp [Value.oneCell']
        generalize hWR : World.setCells _ _ _ _ = wR
        have kR : Keeps (At (bT + 4)) wO wR := by rw [← hWR]; exact Keeps.setCells (fun _ => at_self _) _ _ _ (Keeps.refl _ _)
        have bR : wR.heap[bT + 4]? = some (.cells #[.slice pL nL cL, .slice pS nS cS] 61 (0, 0)) := by rw [← hWR]; exact (gset2 hb1 (.slice pL nL cL) (.slice pS nS cS)).1
        clear hWR hb1 hth
        try simp only [Act.put, List.setIfInBounds_toArray, List.set_cons_zero, List.set_cons_succ, List.getElem_toArray, List.getElem_cons_zero, List.getElem_cons_succ]
        refine hK.out _ _ ?_ (fun hHeld => ?_)
        · (try dsimp only); exact ⟨range_block (kR.lies (((Keeps.refl (At (bT + 3)) w3).drew.trans kO).lies G3.out.L (fun e => by rw [At] at e; omega)) (fun e => by rw [At] at e; omega)) _ 0 (fun j v hv => by simpa using hv), two_of (kR.lies (((Keeps.refl (At (bT + 3)) w3).drew.trans kO).lies G3.out.D (fun e => by rw [At] at e; omega)) (fun e => by rw [At] at e; omega))⟩
        clear hK K
        try simp only [Act.put, List.setIfInBounds_toArray, List.set_cons_zero, List.set_cons_succ, List.getElem_toArray, List.getElem_cons_zero, List.getElem_cons_succ]
        refine wpAnyH_done (by kernel_rfl) ?_ _
        have HO9 := hid (kR.lies bO (fun e => by rw [At] at e; omega))
        have HR9 := hid bR
        have K9 := hid (((G3.out.K.drew).thenAt kO (by have := G3.out.z; omega)).thenAt kR (by have := G3.out.z; omega))
        have KK9 := hid (show Keeps (fun g => g = bT + 3 ∨ g = bT + 4) w3 wR from ((Keeps.refl _ w3).drew.trans (kO.mono (fun k e => .inl e))).trans (kR.mono (fun k e => .inr e)))
        clear kO bO kR bR
        have q8 := eight_cells HO9.out
        have q0 := q8 0 (by decide)
        have q1 := q8 1 (by decide)
        have q2 := q8 2 (by decide)
        have q3 := q8 3 (by decide)
        have q4 := q8 4 (by decide)
        have q5 := q8 5 (by decide)
        have q6 := q8 6 (by decide)
        have q7 := q8 7 (by decide)
        clear q8
        obtain ⟨y0, y1⟩ := two_of HR9.out
        go_wp2_with fail
        refine bodyPost_ret (v := .tuple #[bools f0, rtab pL nL cL pS nS cS]) (by simp [results, Try.results25, go_sem, q0, q1, q2, q3, q4, q5, q6, q7, y0, y1]) rfl ?_
        rw [HR0.out]
        exact ⟨⟨pL, nL, cL, pS, nS, cS, rfl, H0.out.keepN K9.out⟩, K9.out⟩
  · have hn1 : decide (0 ≤ inn) = false := decide_eq_false hn
    have HR4 := HRZ.out
    rw [goesIn, if_neg (fun e => hn e.1), if_neg hn] at HR4
    have HR4h := hid HR4
    clear HR4
    have R5 := hid (H0.out.keepN G3.out.K)
    have HG5 := hid HG.out.more
    have HSO5 := HSO
    have G5 := G3
    clear HRZ G3
    go_upto_region 9 with (fail)
    generalize w3 = w5 at *
    obtain ⟨d0, d1⟩ := two_of G5.out.D
    obtain ⟨f0', f1, f2, f3, f4, f5⟩ := six_frame G5.out.F
    rcases hlk : τ.look x.dst with ⟨u, z⟩
    have hub := HSO5.out.look HG5.out x.dst
    rw [hlk] at hub
    have hub : 0 ≤ u ∧ u < 256 := hub
    have HLK := r_look R5.out HG5.out x.dst
    rw [hlk] at HLK
    have HLK := hid HLK
    have HR6 := hid (show r = (fun p : Nat => decide ((p : Int) ≠ inn) && ((B8 M).getLsbD p && ((B8 set).getLsbD p && (!z || (B8 u).getLsbD p))), τ) by
      have e := HR4h.out
      unfold goesLk at e
      rw [hlk] at e
      exact e)
    clear hlk HR4h
    go_wp2_with fail
    refine HLK.out.mono ?_
    rintro ee w6 ⟨rfl, k6⟩
    have G6 := hid (G5.out.keepN k6)
    have R6 := hid (R5.out.keepN k6)
    clear d0 d1 f0' f1 f2 f3 f4 f5 HLK k6
    obtain ⟨F, HFF, HFQ⟩ : ∃ F : Nat → Bool, Hid (r = (F, τ)) ∧ ∀ q : Nat, q < 8 → Hid (F q = (decide ((q : Int) ≠ inn) && (bitP M q && (bitP set q && (!z || bitP u q))))) :=
      ⟨_, HR6, fun q hq => by rw [bitP_B8 HMB.out hq, bitP_B8 hset hq, bitP_B8 hub hq]; exact rfl⟩
    have HFZ := hid (show outF F 0 = f0 by rw [outF_zero, HF0.out])
    go_wp2_with fail
    go_loopw [18] (fun s18 wr => ∃ j : Nat, j ≤ 8 ∧ s18 = .int .i64 j ∧ Hid (GB w wr bT n p L.length c x pL nL cL pS nS cS (outF F j) ∧ RO wr B pL nL cL pS nS cS τ)) (fun s18 _ => 8 - (intOf s18).toNat)
    case atStart => exact ⟨0, by omega, rfl, hid ⟨by rw [HFZ.out]; exact G6.out, R6.out⟩⟩
    case round =>
      obtain ⟨j, hj, rfl, HGR⟩ := hrel
      by_cases hlt : j < 8
      · have G7 := hid HGR.out.1
        have R7 := hid HGR.out.2
        clear HGR
        have hc := eight_cells G7.out.L j hlt
        have hfz := tail_free G7.out.L j
        have lL := lt_of_block G7.out.L
        have hw : IntKind.u8.wrap (j : Int) = j := by simp [IntKind.wrap, IntKind.bits, IntKind.signed]; omega
        have CM := fun W => HHA M HMB.out (j : Int) ⟨by omega, by omega⟩ W
        have CF := fun W => HHA set hset (j : Int) ⟨by omega, by omega⟩ W
        have CU := fun W => HHA u hub (j : Int) ⟨by omega, by omega⟩ W
        have HQ := (HFQ j hlt).out
        unfold bitP at HQ
        simp only [Int.toNat_natCast] at CM CF CU
        obtain ⟨xe, hxe⟩ : ∃ b, decide ((j : Int) ≠ inn) = b := ⟨_, rfl⟩
        obtain ⟨xm, hxm⟩ : ∃ b, (bits BinOp.and .u8 (M / 2 ^ j) 1 == 1) = b := ⟨_, rfl⟩
        obtain ⟨xf, hxf⟩ : ∃ b, (bits BinOp.and .u8 (set / 2 ^ j) 1 == 1) = b := ⟨_, rfl⟩
        obtain ⟨xu, hxu⟩ : ∃ b, (bits BinOp.and .u8 (u / 2 ^ j) 1 == 1) = b := ⟨_, rfl⟩
        have hxe2 : ((j : Int) != inn) = xe := by rw [← hxe]; simp [bne, BEq.beq]
        rw [hxm] at CM HQ
        rw [hxf] at CF HQ
        rw [hxu] at CU HQ
        rw [hxe] at HQ
        have HQ := hid HQ
        clear hxm hxf hxu hxe
        have hv : (xe = false) ∨ (xe = true ∧ xm = false) ∨ (xe = true ∧ xm = true ∧ xf = false) ∨ (xe = true ∧ xm = true ∧ xf = true ∧ z = false) ∨ (xe = true ∧ xm = true ∧ xf = true ∧ z = true) := by
          cases xe <;> cases xm <;> cases xf <;> cases z <;> simp
        rcases hv with rfl | ⟨rfl, rfl⟩ | ⟨rfl, rfl, rfl⟩ | ⟨rfl, rfl, rfl, rfl⟩ | ⟨rfl, rfl, rfl, rfl⟩
        all_goals
          have HQ2 := hid (show F j = _ from HQ.out)
          go_wp2_with (first | (with_reducible refine (CM _).out.mono ?_; rintro ee wv ⟨rfl, rfl⟩) | (with_reducible refine (CF _).out.mono ?_; rintro ee wv ⟨rfl, rfl⟩) | (with_reducible refine (CU _).out.mono ?_; rintro ee wv ⟨rfl, rfl⟩))
          obtain ⟨g8, k8⟩ := G7.out.setL hlt
          rw [HQ2.out] at g8 k8
          try simp only [Bool.false_and, Bool.true_and, Bool.not_false, Bool.not_true, Bool.true_or, Bool.false_or] at g8 k8
          go_roundw
          case rel => exact ⟨j + 1, by omega, by go_num, hid ⟨g8, R7.out.keepT k8 (fun g hg => ⟨_, 69, by rw [At] at hg; subst hg; exact G7.out.L, .inr rfl⟩)⟩⟩
          case measure => simp only [intOf]; omega
      · obtain rfl : j = 8 := by omega
        have G7 := hid (show GB w wr bT n p L.length c x pL nL cL pS nS cS F by
          have h := HGR.out.1
          refine ⟨h.T, h.D, h.F, h.O, h.R, ?_, h.K, h.z⟩
          have hL := h.L
          simpa [outF] using hL)
        have R7 := hid HGR.out.2
        clear HGR
        go_upto_region 14 with (fail)
        have HSG := hid (show ∀ X, Keeps Nil wr X → (fun X : World => X.rangeAt (bT + 5) 0 [Value.bool (F 0), Value.bool (F 1), Value.bool (F 2), Value.bool (F 3), Value.bool (F 4), Value.bool (F 5), Value.bool (F 6), Value.bool (F 7)] ∧ (X.cell? ⟨bT + 1, 0, Option.none⟩ = some (.slice pL nL cL) ∧ X.cell? ⟨bT + 1, 1, Option.none⟩ = some (.slice pS nS cS))) X from fun X kX => ⟨range_block (kX.lies G7.out.L) _ 0 (fun j v hv => by simpa using hv), two_of (kX.lies G7.out.D)⟩)
        have kk : Keeps Nil wr wr := Keeps.refl _ _
        refine wp_region_held_drew (S := (fun X : World => X.rangeAt (bT + 5) 0 [Value.bool (F 0), Value.bool (F 1), Value.bool (F 2), Value.bool (F 3), Value.bool (F 4), Value.bool (F 5), Value.bool (F 6), Value.bool (F 7)] ∧ (X.cell? ⟨bT + 1, 0, Option.none⟩ = some (.slice pL nL cL) ∧ X.cell? ⟨bT + 1, 1, Option.none⟩ = some (.slice pS nS cS)))) (by kernel_rfl) ?_ (fun hHeld => ?_)
        · (try dsimp only); (first | exact HSG.out _ kk | exact HSG.out _ kk.drew)
        refine' wpAnyH_take (i := 0) (v := _) rfl (by kernel_rfl) (by kernel_rfl) (by kernel_rfl) (fun _ _ _ h => h) (yieldsIf_load_mid (by rfl) 69 _ rfl (bT + 5) 0 rfl [Value.bool (F 0), Value.bool (F 1), Value.bool (F 2), Value.bool (F 3), Value.bool (F 4), Value.bool (F 5), Value.bool (F 6), Value.bool (F 7)] _ (fun W hS => hS.1) Try.underlying69 rfl (by kernel_rfl)) (by assumption) ?_
        try simp only [Act.put, List.setIfInBounds_toArray, List.set_cons_zero, List.set_cons_succ, List.getElem_toArray, List.getElem_cons_zero, List.getElem_cons_succ]
        refine wpAnyH_take (i := 1) (v := ?_) rfl (by kernel_rfl) (by kernel_rfl) (by kernel_rfl) (fun _ _ _ h => h) (Or.inl ⟨by rfl, ?_⟩) (by assumption) ?_
        rotate_left
        · (intro W hSw; (try dsimp only at hSw); go_simp <;> with_reducible rfl)
        try simp only [Act.put, List.setIfInBounds_toArray, List.set_cons_zero, List.set_cons_succ, List.getElem_toArray, List.getElem_cons_zero, List.getElem_cons_succ]
        refine wpAnyH_ready (rs := [2]) (by kernel_rfl) (by simp) ?_
        refine AllReadyH.cons rfl (fun K hK => ?_) AllReadyH.nil
        rw [if_pos (by rfl)]
        refine wp_store_mid 69 _ _ rfl (bT + 3) 0 #[Value.bool (F 0), Value.bool (F 1), Value.bool (F 2), Value.bool (F 3), Value.bool (F 4), Value.bool (F 5), Value.bool (F 6), Value.bool (F 7)] rfl rfl ?_ (by kernel_rfl) ?_ ?_
        · exact bools_there ((Keeps.refl Nil wr).drew.lies G7.out.O) rfl F
        · exact bools_one F
        generalize hWO : World.setCells _ _ _ _ = wO
        have kO : Keeps (At (bT + 3)) wr.drew wO := by rw [← hWO]; exact Keeps.setCells (fun _ => at_self _) _ _ _ (Keeps.refl _ _)
        have bO : wO.heap[bT + 3]? = some (.cells #[Value.bool (F 0), Value.bool (F 1), Value.bool (F 2), Value.bool (F 3), Value.bool (F 4), Value.bool (F 5), Value.bool (F 6), Value.bool (F 7)] 69 (0, 0)) := by rw [← hWO]; exact setCells_bools ((Keeps.refl Nil wr).drew.lies G7.out.O) rfl F
        clear hWO
        try simp only [Act.put, List.setIfInBounds_toArray, List.set_cons_zero, List.set_cons_succ, List.getElem_toArray, List.getElem_cons_zero, List.getElem_cons_succ]
        refine hK.out _ _ ?_ (fun hHeld => ?_)
        · (try dsimp only); exact ⟨range_block (((Keeps.refl (At (bT + 3)) wr).drew.trans kO).lies G7.out.L (fun e => by rw [At] at e; omega)) _ 0 (fun j v hv => by simpa using hv), two_of (((Keeps.refl (At (bT + 3)) wr).drew.trans kO).lies G7.out.D (fun e => by rw [At] at e; omega))⟩
        clear hK K
        try simp only [Act.put, List.setIfInBounds_toArray, List.set_cons_zero, List.set_cons_succ, List.getElem_toArray, List.getElem_cons_zero, List.getElem_cons_succ]
        refine wpAnyH_ready (rs := [3]) (by kernel_rfl) (by simp) ?_
        refine AllReadyH.cons rfl (fun K hK => ?_) AllReadyH.nil
        have hb1 := (((Keeps.refl (At (bT + 3)) wr).drew.trans kO).lies G7.out.R (fun e => by rw [At] at e; omega))
        have hth := there_block hb1
        rw [if_pos (by rfl)]
        refine wp_store_mid 61 _ _ rfl (bT + 4) 0 #[.slice pL nL cL, .slice pS nS cS] rfl rfl ?_ (by kernel_rfl) ?_ ?_
        · exact hth
        · simp [Value.oneCell']
        generalize hWR : World.setCells _ _ _ _ = wR
        have kR : Keeps (At (bT + 4)) wO wR := by rw [← hWR]; exact Keeps.setCells (fun _ => at_self _) _ _ _ (Keeps.refl _ _)
        have bR : wR.heap[bT + 4]? = some (.cells #[.slice pL nL cL, .slice pS nS cS] 61 (0, 0)) := by rw [← hWR]; exact (gset2 hb1 (.slice pL nL cL) (.slice pS nS cS)).1
        clear hWR hb1 hth
        try simp only [Act.put, List.setIfInBounds_toArray, List.set_cons_zero, List.set_cons_succ, List.getElem_toArray, List.getElem_cons_zero, List.getElem_cons_succ]
        refine hK.out _ _ ?_ (fun hHeld => ?_)
        · (try dsimp only); exact ⟨range_block (kR.lies (((Keeps.refl (At (bT + 3)) wr).drew.trans kO).lies G7.out.L (fun e => by rw [At] at e; omega)) (fun e => by rw [At] at e; omega)) _ 0 (fun j v hv => by simpa using hv), two_of (kR.lies (((Keeps.refl (At (bT + 3)) wr).drew.trans kO).lies G7.out.D (fun e => by rw [At] at e; omega)) (fun e => by rw [At] at e; omega))⟩
        clear hK K
        try simp only [Act.put, List.setIfInBounds_toArray, List.set_cons_zero, List.set_cons_succ, List.getElem_toArray, List.getElem_cons_zero, List.getElem_cons_succ]
        refine wpAnyH_done (by kernel_rfl) ?_ _
        have HO9 := hid (kR.lies bO (fun e => by rw [At] at e; omega))
        have HR9 := hid bR
        have K9 := hid (((G7.out.K.drew).thenAt kO (by have := G7.out.z; omega)).thenAt kR (by have := G7.out.z; omega))
        have KK9 := hid (show Keeps (fun g => g = bT + 3 ∨ g = bT + 4) wr wR from ((Keeps.refl _ wr).drew.trans (kO.mono (fun k e => .inl e))).trans (kR.mono (fun k e => .inr e)))
        clear kO bO kR bR
        have q8 := eight_cells HO9.out
        have q0 := q8 0 (by decide)
        have q1 := q8 1 (by decide)
        have q2 := q8 2 (by decide)
        have q3 := q8 3 (by decide)
        have q4 := q8 4 (by decide)
        have q5 := q8 5 (by decide)
        have q6 := q8 6 (by decide)
        have q7 := q8 7 (by decide)
        clear q8
        obtain ⟨y0, y1⟩ := two_of HR9.out
        go_wp2_with fail
        refine bodyPost_ret (v := .tuple #[bools F, rtab pL nL cL pS nS cS]) (by simp [results, Try.results25, go_sem, q0, q1, q2, q3, q4, q5, q6, q7, y0, y1]) rfl ?_
        rw [HFF.out]
        have R9 := RO.keepT R7.out KK9.out (fun g hg => by
          rcases hg with hg | hg
          · exact ⟨_, 69, by rw [hg]; exact G7.out.O, .inr rfl⟩
          · exact ⟨_, 61, by rw [hg]; exact G7.out.R, .inl rfl⟩)
        exact ⟨⟨pL, nL, cL, pS, nS, cS, rfl, R9⟩, K9.out⟩
end Go.Proofs.Ytcplmdgnldmhbaa
