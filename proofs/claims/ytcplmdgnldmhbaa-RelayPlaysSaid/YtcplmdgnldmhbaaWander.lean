/-
  A region that draws its order and holds calls that make memory: what gives the same value in whatever world follows may be taken first, a call too. No condition.
-/
import Derived.OrdersHeld
import Derived.Deep.RegionHeld
import Derived.Test.YtcplmdgnldmhbaaKit
namespace Go.Proofs.Ytcplmdgnldmhbaa
open Go.RowKit
set_option linter.unusedVariables false
section
variable {P : Program} {ops : Array Oper} {Q : Exit → Act → World → Prop} {md : Region.Mode} {R : World → World → Prop}

/-- In whatever world that follows w: o gives v, and a world that follows. -/
def Gives (P : Program) (ops : Array Oper) (R : World → World → Prop) (o : Oper) (v : Value) (a : Act) (w : World) : Prop :=
  (Region.wanted o (yielded ops a.tmps) = true ∧ ∀ w', R w w' →
    ((execOp a.eval o).run P w' = .ok (.value v) w' ∨ ∃ f args, (execOp a.eval o).run P w' = .ok (.enter f args) w' ∧ Calls P f args w' fun e w'' => e = .returned v ∧ R w' w'')) ∨
  (Region.wanted o (yielded ops a.tmps) = false ∧ v = undef)
theorem Gives.of_same {o : Oper} {v : Value} {a a' : Act} {w : World} (hy : Gives P ops R o v a w) (he : execOp a'.eval o = execOp a.eval o)
    (hw : Region.wanted o (yielded ops a'.tmps) = Region.wanted o (yielded ops a.tmps)) : Gives P ops R o v a' w := by
  unfold Gives at *
  rw [he, hw]
  exact hy
theorem Gives.wpOp {i : Nat} {o : Oper} {v : Value} {a : Act} {w w' : World} (hrefl : ∀ w, R w w) (hi : ops[i]? = some o) (hy : Gives P ops R o v a w) (hR : R w w')
    {K : Act → World → Prop} (h : ∀ w'', R w' w'' → K (a.put o.dst v) w'') : wpOp P ops Q i K a w' := by
  unfold Go.wpOp
  simp only [hi]
  rcases hy with ⟨hw, hv⟩ | ⟨hw, rfl⟩
  · simp only [hw, if_true]
    refine .inl ?_
    rcases hv w' hR with hv | ⟨f, args, hv, hc⟩
    · simp only [Oper.wp, hv, Oper.upon]; exact h w' (hrefl w')
    · simp only [Oper.wp, hv, Oper.upon]
      exact hc.mono fun e w'' ⟨he, hk⟩ => by subst he; exact h w'' hk
  · simp only [hw, Bool.false_eq_true, if_false]; exact h w' (hrefl w')
/-- One operation apart from another: whether the other's value is already there makes no difference to it. -/
theorem wpOp_putR {j : Nat} {oi oj : Oper} {v : Value} (hj : ops[j]? = some oj) (hap : oi.apart ops oj = true)
    (hsi : ∀ cs b, oi.op ≠ .select cs b) (hsj : ∀ cs b, oj.op ≠ .select cs b)
    (hQ : ∀ c a w, Q (.panic c) (a.put oi.dst v) w → Q (.panic c) a w) {K : Act → World → Prop} {a : Act} {w0 w : World}
    (hy : Gives P ops R oi v a w0) (h : wpOp P ops Q j K (a.put oi.dst v) w) :
    wpOp P ops Q j (fun a' w' => Gives P ops R oi v a' w0 ∧ K (a'.put oi.dst v) w') a w := by
  obtain ⟨h1, h2, h3⟩ := Oper.apart_spec hap
  have keep : ∀ (a : Act), Gives P ops R oi v a w0 → ∀ u, Gives P ops R oi v (a.put oj.dst u) w0 := fun a hy u =>
    hy.of_same (execOp_put oi hsi a oj.dst u h3) (wanted_put oi a oj.dst u h3)
  have keepD : ∀ d, Gives P ops R oi v { a with defers := d :: a.defers } w0 := fun d => hy.of_same rfl rfl
  unfold Go.wpOp at *
  simp only [hj] at *
  rw [wanted_put oj a oi.dst v h1] at h
  split
  · rename_i hw
    simp only [hw, if_true] at h
    rcases h with h | ⟨hasks, hlets⟩
    case inr => exact .inr ⟨by unfold Oper.asks at *; rw [execOp_put oj hsj a oi.dst v h1] at hasks; exact hasks, hlets⟩
    refine .inl ?_
    unfold Oper.wp at *
    rw [execOp_put oj hsj a oi.dst v h1] at h
    generalize (execOp a.eval oj).run P w = r at *
    cases r with
    | ok n w' =>
      cases n <;> simp only [Oper.upon] at h ⊢
      case value u => exact ⟨keep a hy u, by rw [← Act.put_comm a v u h2]; exact h⟩
      case skip => exact ⟨keep a hy _, by rw [← Act.put_comm a v undef h2]; exact h⟩
      case defer d =>
        refine ⟨keep _ (keepD d) _, ?_⟩
        rw [← Act.put_comm _ v undef h2, ← Act.put_defers]
        exact h
      case enter f args =>
        refine Calls.mono h fun e w'' he => ?_
        cases e with
        | returned u => exact ⟨keep a hy u, by rw [← Act.put_comm a v u h2]; exact he⟩
        | panicked c => exact hQ _ _ _ he
        | outgrown => exact he
      case row row args => exact Rows.mono h fun u w'' he => ⟨keep a hy u, by rw [← Act.put_comm a v u h2]; exact he⟩
    | halt x w' =>
      cases x <;> simp only [Oper.upon] at h ⊢
      case panic u => exact hQ _ _ _ h
  · rename_i hw
    simp only [hw] at h
    exact ⟨keep a hy _, by rw [← Act.put_comm a v undef h2]; exact h⟩

/-- What an operation waits for is listed where it is. -/
def Closed (md : Region.Mode) (ops : Array Oper) (listed : Array Bool) : Prop := ∀ (j : Nat) (oj : Oper), ops[j]? = some oj → listed.getD j false = true → ∀ e ∈ oj.after, Region.binds md e = true → listed.getD e.on false = true
def closedB (md : Region.Mode) (ops : Array Oper) (listed : Array Bool) : Bool := (List.range ops.size).all fun j => match ops[j]? with | some oj => !(listed.getD j false) || oj.after.all fun e => !(Region.binds md e) || listed.getD e.on false | none => true
theorem closed_of {listed : Array Bool} (h : closedB md ops listed = true) : Closed md ops listed := by
  intro j oj hj hl e he hb
  unfold closedB at h
  rw [List.all_eq_true] at h
  have hlt : j < ops.size := (Array.getElem?_eq_some_iff.1 hj).1
  have h1 := h j (List.mem_range.2 hlt)
  rw [hj] at h1
  simp only [hl, Bool.not_true, Bool.false_or, Array.all_eq_true] at h1
  obtain ⟨q, hq, e1⟩ := Array.mem_iff_getElem.1 he
  have h2 := h1 q hq
  rw [e1, hb] at h2
  simpa using h2
/-- The operations that one waits for, marked. -/
def preds (md : Region.Mode) (ops : Array Oper) (c m : Nat) : Nat :=
  match ops[c]? with | some o => o.after.toList.foldl (fun m e => if Region.binds md e then m ||| 2 ^ e.on else m) m | none => m
def marks (md : Region.Mode) (ops : Array Oper) : Nat → Nat → Nat
  | 0, m => m
  | c + 1, m => marks md ops c (if m.testBit c then preds md ops c m else m)
/-- Does the first wait for the second, by others too? -/
def reachB (md : Region.Mode) (ops : Array Oper) (c i : Nat) : Bool := (marks md ops c (preds md ops c 0)).testBit i
theorem preds_listed {listed : Array Bool} (c m : Nat) (hm : ∀ i, m.testBit i = true → listed.getD i false = true) (ha : ∀ oj, ops[c]? = some oj → ∀ e ∈ oj.after, Region.binds md e = true → listed.getD e.on false = true) :
    ∀ i, (preds md ops c m).testBit i = true → listed.getD i false = true := by
  unfold preds
  cases ho : ops[c]? with
  | none => exact hm
  | some o =>
    simp only
    have hl : ∀ e ∈ o.after.toList, Region.binds md e = true → listed.getD e.on false = true := fun e he hb => ha o ho e (by simpa using he) hb
    generalize o.after.toList = l at hl
    clear ha ho
    induction l generalizing m with
    | nil => exact hm
    | cons e r ih =>
      rw [List.foldl_cons]
      refine ih _ (fun i hi => ?_) (fun x hx => hl x (List.mem_cons_of_mem _ hx))
      split at hi
      · rename_i hb
        rw [Nat.testBit_or, Nat.testBit_two_pow] at hi
        rw [Bool.or_eq_true] at hi
        rcases hi with h | h
        · exact hm i h
        · rw [← of_decide_eq_true h]
          exact hl e List.mem_cons_self hb
      · exact hm i hi
theorem marks_listed {listed : Array Bool} (hc : Closed md ops listed) : ∀ (c m : Nat), (∀ i, m.testBit i = true → listed.getD i false = true) → ∀ i, (marks md ops c m).testBit i = true → listed.getD i false = true := by
  intro c
  induction c with
  | zero => intro m hm; exact hm
  | succ c ih =>
    intro m hm
    refine ih _ (fun i hi => ?_)
    split at hi
    · rename_i hb
      exact preds_listed c m hm (fun oj hj e he hbd => hc c oj hj (hm c hb) e he hbd) i hi
    · exact hm i hi
theorem reach_listed {listed : Array Bool} (hc : Closed md ops listed) (i c : Nat) (hb : reachB md ops c i = true) (ha : ∀ oj, ops[c]? = some oj → ∀ e ∈ oj.after, Region.binds md e = true → listed.getD e.on false = true) : listed.getD i false = true :=
  marks_listed hc c _ (preds_listed c 0 (fun i hi => by simp at hi) ha) i hb
/-- Whatever order is picked from here on, in whatever world follows; s: the operation that comes last. -/
def wpAnyR (P : Program) (md : Region.Mode) (ops : Array Oper) (Q : Exit → Act → World → Prop) (R : World → World → Prop) (s : Nat) : Nat → Array Bool → Act → World → Prop
  | 0, listed, a, w => Region.ready md ops listed = [] ∧ ∀ w', (listed.getD s false = false → R w w') → (listed.getD s false = true → w' = w) → Q .normal a w'
  | fuel + 1, listed, a, w =>
    (Region.ready md ops listed = [] → ∀ w', (listed.getD s false = false → R w w') → (listed.getD s false = true → w' = w) → Q .normal a w') ∧
    ∀ i ∈ Region.ready md ops listed, ∀ w', R w w' → wpOp P ops Q i (fun a1 w1 => (i ≠ s → R w' w1) ∧ wpAnyR P md ops Q R s fuel (listed.setIfInBounds i true) a1 w1) a w'
variable {s : Nat}
theorem wpAny_of_R (hrefl : ∀ w, R w w) : ∀ (fuel : Nat) (listed : Array Bool) (a : Act) (w : World), wpAnyR P md ops Q R s fuel listed a w → wpAny P md ops Q fuel listed a w
  | 0, _, _, w, h => ⟨h.1, h.2 w (fun _ => hrefl w) (fun _ => rfl)⟩
  | fuel + 1, _, _, w, h => ⟨fun hr => h.1 hr w (fun _ => hrefl w) (fun _ => rfl), fun i hi => wpOp_mono (fun a' w' h' => wpAny_of_R hrefl fuel _ a' w' h'.2) (h.2 i hi w (hrefl w))⟩
theorem wpAnyR.on (htr : ∀ a b c, R a b → R b c → R a c) {fuel : Nat} {listed : Array Bool} {a : Act} {w w1 : World} (h : wpAnyR P md ops Q R s fuel listed a w) (hs : listed.getD s false = false) (hR : R w w1) : wpAnyR P md ops Q R s fuel listed a w1 := by
  have hno : ∀ p : Prop, listed.getD s false = true → p := fun p e => by rw [hs] at e; cases e
  cases fuel with
  | zero => exact ⟨h.1, fun w' hw' _ => h.2 w' (fun e => htr _ _ _ hR (hw' e)) (hno _)⟩
  | succ n => exact ⟨fun hr w' hw' _ => h.1 hr w' (fun e => htr _ _ _ hR (hw' e)) (hno _), fun i hi w' hw' => h.2 i hi w' (htr _ _ _ hR hw')⟩
theorem Gives.on (htr : ∀ a b c, R a b → R b c → R a c) {o : Oper} {v : Value} {a : Act} {w w1 : World} (h : Gives P ops R o v a w) (hR : R w w1) : Gives P ops R o v a w1 :=
  h.imp (fun ⟨hw, hv⟩ => ⟨hw, fun w' hw' => hv w' (htr _ _ _ hR hw')⟩) id
theorem getD_set_false {l : Array Bool} {i j : Nat} (h : i ≠ j) : (l.setIfInBounds i true).getD j false = l.getD j false := by
  simp only [Array.getD_eq_getD_getElem?]
  rw [Array.getElem?_setIfInBounds_ne h]
theorem Closed.step {listed : Array Bool} (hc : Closed md ops listed) {j : Nat} (hj : j ∈ Region.ready md ops listed) : Closed md ops (listed.setIfInBounds j true) := by
  intro k ok hk hl e he hb
  obtain ⟨hjun, oj, hoj, hall⟩ := mem_ready.1 hj
  have up : ∀ q, listed.getD q false = true → (listed.setIfInBounds j true).getD q false = true := fun q hq => by
    by_cases e : j = q
    · subst e
      simp only [Array.getD_eq_getD_getElem?] at hq ⊢
      rcases Nat.lt_or_ge j listed.size with h' | h'
      · simp [h']
      · simp [Array.getElem?_eq_none h'] at hq
    · rw [getD_set_false e]; exact hq
  by_cases ek : j = k
  · subst ek
    rw [hoj] at hk
    injection hk with hk
    subst hk
    exact up _ (by simpa using hall e he hb)
  · rw [getD_set_false ek] at hl
    exact up _ (hc k ok hk hl e he hb)
theorem wpAnyR_first {i : Nat} {oi : Oper} {v : Value} (hrefl : ∀ w, R w w) (htr : ∀ a b c, R a b → R b c → R a c) (hi : ops[i]? = some oi) (hsel : ∀ (j : Nat) (o : Oper) cs b, ops[j]? = some o → o.op ≠ .select cs b)
    (hQ : ∀ c a w, Q (.panic c) (a.put oi.dst v) w → Q (.panic c) a w) (hch : reachB md ops s i = true) (his : i ≠ s) :
    ∀ (fuel : Nat) (listed : Array Bool) (a : Act) (w : World), Closed md ops listed → listed.getD s false = false →
      (∀ j oj, ops[j]? = some oj → j ≠ i → listed.getD j true = false → (∀ e ∈ oj.after, Region.binds md e = true → e.on ≠ i) → oi.apart ops oj = true) →
      i ∈ Region.ready md ops listed → Gives P ops R oi v a w →
      wpAnyR P md ops Q R s fuel (listed.setIfInBounds i true) (a.put oi.dst v) w → wpAnyR P md ops Q R s (fuel + 1) listed a w := by
  intro fuel
  have hset : ∀ listed : Array Bool, listed.getD s false = false → (listed.setIfInBounds i true).getD s false = false := fun listed h => by rw [getD_set_false his]; exact h
  induction fuel with
  | zero =>
    intro listed a w hc hs _ hr hy H
    refine ⟨fun h => (by rw [h] at hr; cases hr), fun j hj w' hw' => ?_⟩
    by_cases hji : j = i
    · subst hji; exact hy.wpOp hrefl hi hw' fun w'' hw'' => ⟨fun _ => hw'', H.on htr (hset _ hs) (htr _ _ _ hw' hw'')⟩
    · have := ready_mono hj hji
      rw [H.1] at this
      cases this
  | succ fuel ih =>
    intro listed a w hc hs hfree hr hy H
    refine ⟨fun h => (by rw [h] at hr; cases hr), fun j hj w' hw' => ?_⟩
    by_cases hji : j = i
    · subst hji; exact hy.wpOp hrefl hi hw' fun w'' hw'' => ⟨fun _ => hw'', H.on htr (hset _ hs) (htr _ _ _ hw' hw'')⟩
    · have h1 := H.2 j (ready_mono hj hji) w' hw'
      obtain ⟨hjun, oj, hoj, hall⟩ := mem_ready.1 hj
      have hiun : ¬ listed.getD i false = true := fun e => by
        have h0 := (mem_ready.1 hr).1
        simp only [Array.getD_eq_getD_getElem?] at h0 e
        rcases Nat.lt_or_ge i listed.size with h' | h'
        · simp [h'] at h0 e; rw [h0] at e; cases e
        · simp [Array.getElem?_eq_none h'] at e
      have hjs : j ≠ s := fun e => by
        subst e
        exact hiun (reach_listed hc i j hch (fun o ho e he hb => by rw [hoj] at ho; injection ho with ho; subst ho; simpa using hall e he hb))
      have hnot : ∀ e ∈ oj.after, Region.binds md e = true → e.on ≠ i := fun e he hb heq => by
        have h1 := hall e he hb
        rw [heq] at h1
        exact hiun (by simpa using h1)
      have h2 := wpOp_putR hoj (hfree j oj hoj hji hjun hnot) (fun cs b => hsel i oi cs b hi) (fun cs b => hsel j oj cs b hoj) hQ hy h1
      have hfree' : ∀ k ok, ops[k]? = some ok → k ≠ i → (listed.setIfInBounds j true).getD k true = false →
          (∀ e ∈ ok.after, Region.binds md e = true → e.on ≠ i) → oi.apart ops ok = true := fun k ok hk hki hun hno => by
        refine hfree k ok hk hki ?_ hno
        by_cases hjk : j = k
        · subst hjk; exact hjun
        · rw [getD_set_ne true hjk] at hun; exact hun
      have hri : i ∈ Region.ready md ops (listed.setIfInBounds j true) := ready_mono hr (Ne.symm hji)
      refine wpOp_mono (fun a' w1 h3 => ?_) h2
      have hRw : R w' w1 := h3.2.1 hjs
      refine ⟨fun _ => hRw, ih (listed.setIfInBounds j true) a' w1 (hc.step hj) (by rw [getD_set_false hjs]; exact hs) hfree' hri (h3.1.on htr (htr _ _ _ hw' hRw)) ?_⟩
      rw [Array.setIfInBounds_comm _ _ hji]
      exact h3.2.2

/-! The moves of a walk. -/
/-- Number i is taken first; the last one waits for it. -/
theorem wpAnyR_take {i : Nat} {oi : Oper} {v : Value} {fuel : Nat} {listed : Array Bool} {a : Act} {w : World} (hrefl : ∀ w, R w w) (htr : ∀ a b c, R a b → R b c → R a c) (hi : ops[i]? = some oi)
    (hs : Region.noSelect ops = true) (hf : Region.free md ops listed i = true) (hr : (Region.ready md ops listed).contains i = true)
    (hside : (closedB md ops listed && !(listed.getD s false) && reachB md ops s i && !(i == s)) = true)
    (hQ : ∀ c a w, Q (.panic c) (a.put oi.dst v) w → Q (.panic c) a w) (hy : Gives P ops R oi v a w)
    (h : wpAnyR P md ops Q R s fuel (listed.setIfInBounds i true) (a.put oi.dst v) w) : wpAnyR P md ops Q R s (fuel + 1) listed a w := by
  simp only [Bool.and_eq_true, Bool.not_eq_true', beq_iff_eq, beq_eq_false_iff_ne] at hside
  obtain ⟨⟨⟨h1, h2⟩, h3⟩, h6⟩ := hside
  exact wpAnyR_first hrefl htr hi (Region.noSelect_spec hs) hQ h3 h6 fuel listed a w (closed_of h1) h2 (Region.free_spec hi hf) (by simpa using hr) hy h
/-- One alone may come up. -/
theorem wpAnyR_one {i : Nat} {o : Oper} {fuel : Nat} {listed : Array Bool} {a : Act} {w : World} (hr : Region.ready md ops listed = [i]) (ho : ops[i]? = some o)
    (h : ∀ w', R w w' → ∀ K' : Act → World → Prop, Shut (∀ a1 w1, (i ≠ s → R w' w1) → wpAnyR P md ops Q R s fuel (listed.setIfInBounds i true) a1 w1 → K' a1 w1) → if Region.wanted o (yielded ops a.tmps) = true then Oper.wp P o a w' K' Q else K' (a.put o.dst undef) w') : wpAnyR P md ops Q R s (fuel + 1) listed a w := by
  refine ⟨fun h0 => (by rw [hr] at h0; cases h0), fun j hj w' hw' => ?_⟩
  rw [hr] at hj
  obtain rfl : j = i := by simpa using hj
  exact wpOp_step ho (fun K' hK => h w' hw' K' (fun a1 w1 hR hW => hK a1 w1 ⟨hR, hW⟩))
theorem wpAnyR_done {listed : Array Bool} {a : Act} {w : World} (hr : Region.ready md ops listed = []) (hs : listed.getD s false = true) (h : Q .normal a w) :
    ∀ fuel, wpAnyR P md ops Q R s fuel listed a w
  | 0 => ⟨hr, fun w' _ hw => by rw [hw hs]; exact h⟩
  | _ + 1 => ⟨fun _ w' _ hw => by rw [hw hs]; exact h, by rw [hr]; simp⟩
theorem wp_region_R {id : Nat} {a : Act} {w : World} (hrefl : ∀ w, R w w) (s : Nat) (hm : P.follows .mixedOrders = true)
    (h : wpAnyR P .any ops Q R s ops.size (Array.replicate ops.size false) a w.drew) : (Code.region id ops true).wp P Q a w :=
  wp_region_any hm (wpAny_of_R hrefl _ _ _ _ h)
end
end Go.Proofs.Ytcplmdgnldmhbaa
