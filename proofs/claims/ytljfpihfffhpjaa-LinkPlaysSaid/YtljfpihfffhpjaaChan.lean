/-
  A select of one case with a default, in one goroutine, as a rule of the walk (Code.wp): a send with room, a send without; a receive that has something, one that has not. Conditions: the channel is open.
-/
import Derived.Test.YtljfpihfffhpjaaKit
import Derived.Conc.LoneSelect
namespace Go.Proofs.Ytljfpihfffhpjaa
open Go.RowKit Go.Conc

theorem stepG_comm_any {P : Program} {b : Frame} {a : Act} {k : List Item} {cs : List Frame} {w : World} {ops : Array Oper} {i : Nat} {rest : List Nat} {o : Oper} {cases : Array CommCase} {blocking : Bool} {shape : CommShape} {w' : World}
    (ho : ops[i]? = some o) (hw : Region.wanted o (yielded ops a.tmps) = true) (hr : (execOp a.eval o).run P w = .ok (.comm cases blocking shape) w') :
    ∃ es, stepG P true (G (b.at a (.inRegion ops (i :: rest) :: k)) cs) w = .comm (G (b.at a (.inRegion ops (i :: rest) :: k)) cs) cases blocking shape w' es := by
  have hg := stepG_op (P := P) (b := b) (k := k) (cs := cs) (w := w) (rest := rest) ho hw
  have e : stepG P true (G (b.at a (.inRegion ops (i :: rest) :: k)) cs) w = stepG.apply P true (b.at a (.inRegion ops (i :: rest) :: k)) cs Option.none (execOp a.eval o) w := hg
  rw [e]
  simp only [stepG.apply, Sem.runT_eq, hr, if_true, GStep.after, G]
  exact ⟨_, rfl⟩

/-- A region that opens with a communication that ends at once. -/
theorem wp_region_comm {P : Program} {id : Nat} {o : Oper} {l : List Oper} {Q : Exit → Act → World → Prop} {a : Act} {w w₁ w' : World} {v : Value} {cases : Array CommCase} {shape : CommShape}
    (hg : o.guard = Option.none) (hr : (execOp a.eval o).run P w = .ok (.comm cases false shape) w₁)
    (hstep : ∀ fr cs es, stepG P true (G fr cs) w = .comm (G fr cs) cases false shape w₁ es → step P (solo (G fr cs) w) = .next (solo (G (fr.finish v) cs) w'))
    (h : wpList P (o :: l).toArray Q l (a.put o.dst v) w') : (Code.region id (o :: l).toArray false).wp P Q a w := by
  intro b k cs
  have hwant : Region.wanted o (yielded (o :: l).toArray a.tmps) = true := by simp [Region.wanted, hg]
  have hrange : List.range (o :: l).toArray.size = 0 :: List.range' 1 l.length := by
    rw [List.range_eq_range']; simp [List.range'_succ]
  obtain ⟨es, hs⟩ := stepG_comm_any (P := P) (b := b) (k := k) (cs := cs) (rest := List.range' 1 l.length) (ops := (o :: l).toArray) (i := 0) (by simp) hwant hr
  have h1 := hstep _ _ _ hs
  have h2 : wpOps P (o :: l).toArray Q (List.range' 1 l.length) (a.put o.dst v) w' := by
    rw [wpOps_eq_wpList l 1 (fun j => by simp [Nat.add_comm 1 j])]
    exact h
  obtain ⟨e, a', w'', hq, harr⟩ := wp_ops _ _ _ h2 b k cs
  refine ⟨e, a', w'', hq, .of_steps (.head step_region (.one ?_)) harr⟩
  rw [hrange]
  have hf : (b.at a (.inRegion (o :: l).toArray (0 :: List.range' 1 l.length) :: k)).finish v = b.at (a.put o.dst v) (.inRegion (o :: l).toArray (List.range' 1 l.length) :: k) := by
    rw [Frame.finish_at]; simp
  rw [hf] at h1
  exact h1

section
variable {P : Program} {id : Nat} {l : List Oper} {dst : Option Tmp} {elem ty : TypeId} {pos : String} {after : Array Edge} {x y : Operand} {Q : Exit → Act → World → Prop} {a : Act} {w : World} {c cap s r : Nat} {buf : Array Value} {tm : Bool} {v z : Value}

theorem run_select_send (hz : (zeroValue elem).run P w = .ok z w) (hx : a.eval x = .chan (some c)) (hy : a.eval y = v) :
    (execOp a.eval { dst, op := .select #[{ chan := x, send := some y, elem }] false, type := ty, pos, after, guard := Option.none }).run P w = .ok (.comm #[scase c v z] false .select) w := by
  simp [execOp, hx, hy, scase, hz]
theorem run_select_recv (hz : (zeroValue elem).run P w = .ok z w) (hx : a.eval x = .chan (some c)) :
    (execOp a.eval { dst, op := .select #[{ chan := x, send := Option.none, elem }] false, type := ty, pos, after, guard := Option.none }).run P w = .ok (.comm #[rcase c z] false .select) w := by
  simp [execOp, hx, rcase, hz]
theorem wp_send_room (hc : w.heap[c]? = some (.chan cap buf false s r tm)) (hroom : buf.size < cap)
    (hz : (zeroValue elem).run P w = .ok z w) (hx : a.eval x = .chan (some c)) (hy : a.eval y = v)
    (h : wpList P ({ dst, op := .select #[{ chan := x, send := some y, elem }] false, type := ty, pos, after, guard := Option.none } :: l).toArray Q l (a.put dst (.tuple #[goInt 0, .bool false])) (w.setChan c cap (buf.push v) false (s + 1) r tm)) :
    (Code.region id ({ dst, op := .select #[{ chan := x, send := some y, elem }] false, type := ty, pos, after, guard := Option.none } :: l).toArray false).wp P Q a w :=
  wp_region_comm rfl (run_select_send hz hx hy) (fun _ _ _ hs => step_lone_select_send_room hs hc hroom) h
theorem wp_send_full (hc : w.heap[c]? = some (.chan cap buf false s r tm)) (hfull : cap ≤ buf.size)
    (hz : (zeroValue elem).run P w = .ok z w) (hx : a.eval x = .chan (some c)) (hy : a.eval y = v)
    (h : wpList P ({ dst, op := .select #[{ chan := x, send := some y, elem }] false, type := ty, pos, after, guard := Option.none } :: l).toArray Q l (a.put dst (.tuple #[goInt (-1), .bool false])) w) :
    (Code.region id ({ dst, op := .select #[{ chan := x, send := some y, elem }] false, type := ty, pos, after, guard := Option.none } :: l).toArray false).wp P Q a w :=
  wp_region_comm rfl (run_select_send hz hx hy) (fun _ _ _ hs => step_lone_select_send_full hs hc hfull) h
theorem wp_recv_some (hc : w.heap[c]? = some (.chan cap buf false s r tm)) (hsome : 0 < buf.size)
    (hz : (zeroValue elem).run P w = .ok z w) (hx : a.eval x = .chan (some c))
    (h : wpList P ({ dst, op := .select #[{ chan := x, send := Option.none, elem }] false, type := ty, pos, after, guard := Option.none } :: l).toArray Q l (a.put dst (.tuple #[goInt 0, .bool true, buf.getD 0 undef])) (w.setChan c cap (buf.extract 1 buf.size) false s (r + 1) tm)) :
    (Code.region id ({ dst, op := .select #[{ chan := x, send := Option.none, elem }] false, type := ty, pos, after, guard := Option.none } :: l).toArray false).wp P Q a w :=
  wp_region_comm rfl (run_select_recv hz hx) (fun _ _ _ hs => step_lone_select_recv_buf hs hc hsome) h
theorem wp_recv_none (hc : w.heap[c]? = some (.chan cap #[] false s r tm))
    (hz : (zeroValue elem).run P w = .ok z w) (hx : a.eval x = .chan (some c))
    (h : wpList P ({ dst, op := .select #[{ chan := x, send := Option.none, elem }] false, type := ty, pos, after, guard := Option.none } :: l).toArray Q l (a.put dst (.tuple #[goInt (-1), .bool false, z])) w) :
    (Code.region id ({ dst, op := .select #[{ chan := x, send := Option.none, elem }] false, type := ty, pos, after, guard := Option.none } :: l).toArray false).wp P Q a w :=
  wp_region_comm rfl (run_select_recv hz hx) (fun _ _ _ hs => step_lone_select_default hs hc) h
end

theorem run_len_chan {P : Program} {t e ty : TypeId} {dir : ChanDir} {c cap : Nat} {buf : Array Value} {cl : Bool} {s r : Nat} {w : World} (ht : P.underlying t = some (.chan dir e)) (hc : w.heap[c]? = some (.chan cap buf cl s r false)) :
    (Builtin.len_ #[t] ty #[.chan (some c)]).run P w = .ok (.int .i64 buf.size) w := by
  simp [Builtin.len_, run_underlying ht, hc, goInt, getObj, Sem.run]
theorem run_cap_chan {P : Program} {t e ty : TypeId} {dir : ChanDir} {c cap : Nat} {buf : Array Value} {cl : Bool} {s r : Nat} {w : World} (ht : P.underlying t = some (.chan dir e)) (hc : w.heap[c]? = some (.chan cap buf cl s r false)) :
    (Builtin.cap_ #[t] ty #[.chan (some c)]).run P w = .ok (.int .i64 cap) w := by
  simp [Builtin.cap_, run_underlying ht, hc, goInt, getObj, Sem.run]

theorem Keeps.setChan {S : Nat → Prop} {a w : World} (h : Keeps S a w) {c : Nat} (hc : c < a.heap.size → S c) (cap : Nat) (buf : Array Value) (cl : Bool) (s r : Nat) (tm : Bool) : Keeps S a (w.setChan c cap buf cl s r tm) :=
  h.trans' (S' := At c) ⟨rfl, rfl, rfl, by simp [World.setChan], fun k _ hk => by simp only [World.setChan]; rw [Array.getElem?_setIfInBounds_ne (fun e => hk e.symm)]⟩ (fun x hx e => by rw [show x = c from e] at hx ⊢; exact hc hx)
theorem setChan_other {w : World} {c b : Nat} (h : b ≠ c) (cap : Nat) (buf : Array Value) (cl : Bool) (s r : Nat) (tm : Bool) : (w.setChan c cap buf cl s r tm).heap[b]? = w.heap[b]? := by
  simp only [World.setChan]; rw [Array.getElem?_setIfInBounds_ne (fun e => h e.symm)]
end Go.Proofs.Ytljfpihfffhpjaa
