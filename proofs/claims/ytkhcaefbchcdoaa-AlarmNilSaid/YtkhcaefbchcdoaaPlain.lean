/-
  The plain law of an alarm: what it reports, tick by tick, is what the document says of all defects so far; and that a report tells of a defect that lasted. No condition but the lowest defect.
-/
namespace Go.Proofs.Ytkhcaefbchcdoaa.Plain
/-- state, ticks, told -/
structure St where
  st : Int
  ti : Int
  to : Int

def calms (s : St) : St := if s.st = 2 ∧ s.ti + 1 < 10 then ⟨s.st, s.ti + 1, s.to⟩ else ⟨0, 0, 0⟩

/-- what lies behind the switch -/
def tells (to worst : Int) : St × Int := if worst ≤ to then (⟨2, 0, to⟩, 0) else (⟨2, 0, worst⟩, worst)

def tickW (lo : Int) (s : St) (m : Int) : St × Int :=
  if m < lo then (calms s, 0)
  else if s.st = 0 then (⟨1, 1, s.to⟩, 0)
  else if s.st = 1 then (if s.ti + 1 < 2 then (⟨1, s.ti + 1, s.to⟩, 0) else tells s.to m)
  else if s.st = 2 then tells s.to m
  else (if m ≤ s.to then (⟨s.st, 0, s.to⟩, 0) else (⟨s.st, 0, m⟩, m))
def tick (lo : Int) (s : St) (x : Int) : St × Int := tickW lo s (min x 4)

/-- the last first -/
def row (lo : Int) (is : Bool) : List Int → Int
  | [] => 0
  | x :: l => if decide (lo ≤ x) = is then row lo is l + 1 else 0

def at_ (lo : Int) : List Int → Int × Int × Int
  | [] => (0, 0, 0)
  | x :: l =>
    let (state, told, _) := at_ lo l
    let worst := min x 4
    if state < 2 then
      if worst < lo then (0, 0, 0)
      else if row lo true (x :: l) < 2 then (1, 0, 0) else (2, worst, worst)
    else if worst < lo then (if 10 ≤ row lo false (x :: l) then (0, 0, 0) else (2, told, 0))
    else if told < worst then (2, worst, worst) else (2, told, 0)

def run (lo : Int) : List Int → St
  | [] => ⟨0, 0, 0⟩
  | x :: l => (tick lo (run lo l) x).1

theorem row_nonneg (lo : Int) (is : Bool) (l : List Int) : 0 ≤ row lo is l := by
  induction l with
  | nil => simp [row]
  | cons x l ih => simp only [row]; split <;> omega

theorem there_min {lo x : Int} (h1 : lo ≤ 4) : (lo ≤ x) ↔ ¬ (min x 4 < lo) := by omega

structure Inv (lo : Int) (l : List Int) (s : St) : Prop where
  st : s.st = (at_ lo l).1
  to : s.to = (at_ lo l).2.1
  cases : (s.st = 0 ∧ s.ti = 0 ∧ s.to = 0 ∧ row lo true l = 0) ∨ (s.st = 1 ∧ s.ti = 1 ∧ s.to = 0 ∧ row lo true l = 1) ∨ (s.st = 2 ∧ s.ti = row lo false l ∧ 0 ≤ s.to)

theorem step {lo : Int} (h0 : 1 ≤ lo) (h1 : lo ≤ 4) {l : List Int} {s : St} (h : Inv lo l s) (x : Int) :
    Inv lo (x :: l) (tick lo s x).1 ∧ (tick lo s x).2 = (at_ lo (x :: l)).2.2 := by
  obtain ⟨st, ti, to⟩ := s
  obtain ⟨a, b, c⟩ := h
  have rf := row_nonneg lo false l
  have rt := row_nonneg lo true l
  generalize hat : at_ lo l = t at *
  obtain ⟨p, q, r⟩ := t
  simp only at a b c
  subst a; subst b
  by_cases hm : min x 4 < lo
  · have hx : ¬ lo ≤ x := by omega
    rcases c with ⟨rfl, rfl, rfl, c⟩ | ⟨rfl, rfl, rfl, c⟩ | ⟨rfl, rfl, c⟩
    · constructor
      · constructor <;> simp [tick, tickW, at_, hat, hm, calms, row, hx]
      · simp [tick, tickW, at_, hat, hm]
    · constructor
      · constructor <;> simp [tick, tickW, at_, hat, hm, calms, row, hx]
      · simp [tick, tickW, at_, hat, hm]
    · by_cases h10 : row lo false l + 1 < 10
      · have h10' : ¬ (10 ≤ row lo false l + 1) := by omega
        constructor
        · constructor <;> simp [tick, tickW, at_, hat, hm, calms, row, hx, h10, h10']; omega
        · simp [tick, tickW, at_, hat, hm, row, hx, h10']
      · have h10' : (10 ≤ row lo false l + 1) := by omega
        constructor
        · constructor <;> simp [tick, tickW, at_, hat, hm, calms, row, hx, h10, h10']
        · simp [tick, tickW, at_, hat, hm, row, hx, h10']
  · have hx : lo ≤ x := by omega
    rcases c with ⟨rfl, rfl, rfl, c⟩ | ⟨rfl, rfl, rfl, c⟩ | ⟨rfl, rfl, c⟩
    · constructor
      · constructor <;> simp [tick, tickW, at_, hat, hm, row, hx, c]
      · simp [tick, tickW, at_, hat, hm, row, hx, c]
    · have hw : ¬ (min x 4 ≤ 0) := by omega
      constructor
      · constructor <;> simp [tick, tickW, at_, hat, hm, row, hx, c, tells, hw]; omega
      · simp [tick, tickW, at_, hat, hm, row, hx, c, tells, hw]
    · by_cases hw : min x 4 ≤ to
      · have hw' : ¬ (to < min x 4) := by omega
        constructor
        · constructor <;> simp [tick, tickW, at_, hat, hm, row, hx, tells, hw, hw', c]
        · simp [tick, tickW, at_, hat, hm, tells, hw, hw']
      · have hw' : (to < min x 4) := by omega
        constructor
        · constructor <;> simp [tick, tickW, at_, hat, hm, row, hx, tells, hw, hw']; omega
        · simp [tick, tickW, at_, hat, hm, tells, hw, hw']

theorem inv_run {lo : Int} (h0 : 1 ≤ lo) (h1 : lo ≤ 4) : ∀ l, Inv lo l (run lo l)
  | [] => ⟨rfl, rfl, .inl ⟨rfl, rfl, rfl, rfl⟩⟩
  | x :: l => (step h0 h1 (inv_run h0 h1 l) x).1
/-- told, there, calm -/
structure Eye where
  told : Int
  there : Int
  calm : Int

/-- what the statement keeps, ahead of the tick -/
def Eye.sees (lo : Int) (e : Eye) (x : Int) : Eye :=
  if lo ≤ min x 4 then ⟨e.told, e.there + 1, 0⟩
  else if 10 ≤ e.calm + 1 then ⟨0, 0, e.calm + 1⟩ else ⟨e.told, 0, e.calm + 1⟩

structure Once (lo : Int) (n : Int) (e : Eye) (s : St) : Prop where
  to : s.to = e.told
  b : 0 ≤ e.there ∧ e.there ≤ n ∧ 0 ≤ e.calm ∧ e.calm ≤ n
  cases : (s.st = 0 ∧ s.ti = 0 ∧ s.to = 0 ∧ e.there = 0) ∨ (s.st = 1 ∧ s.ti = 1 ∧ s.to = 0 ∧ e.there = 1 ∧ e.calm = 0) ∨
    (s.st = 2 ∧ s.ti = e.calm ∧ e.calm < 10 ∧ lo ≤ s.to ∧ s.to ≤ 4)

theorem once {lo n : Int} (h0 : 1 ≤ lo) (h1 : lo ≤ 4) {e : Eye} {s : St} (h : Once lo n e s) (x : Int) :
    let e' := e.sees lo x
    let r := (tick lo s x).2
    Once lo (n + 1) ⟨max e'.told r, e'.there, e'.calm⟩ (tick lo s x).1 ∧
    ¬ (r ≠ 0 ∧ (r ≠ min x 4 ∨ r < lo ∨ r ≤ e'.told ∨ e'.there = 0 ∨ e'.told = 0 ∧ e'.there < 2)) ∧
    ¬ (2 ≤ e'.there ∧ max e'.told r < min x 4) ∧ (tick lo s x).1.to = max e'.told r ∧ ((tick lo s x).1.st = 2 ↔ 0 < max e'.told r) ∧ 0 ≤ r ∧ r ≤ 4 := by
  obtain ⟨st, ti, to⟩ := s
  obtain ⟨told, there, calm⟩ := e
  obtain ⟨a, b, c⟩ := h
  simp only at a b c
  subst a
  by_cases hm : min x 4 < lo
  · have hx : ¬ lo ≤ min x 4 := by omega
    rcases c with ⟨rfl, rfl, rfl, rfl⟩ | ⟨rfl, rfl, rfl, rfl, rfl⟩ | ⟨rfl, rfl, c⟩
    · by_cases h10 : 10 ≤ calm + 1 <;>
      (simp only [tick, tickW, Eye.sees, hm, hx, h10, if_true, if_false, calms]
       refine ⟨⟨?_, ?_, ?_⟩, ?_, ?_, ?_, ?_, ?_⟩ <;> (try simp) <;> omega)
    · simp only [tick, tickW, Eye.sees, hm, hx, if_true, if_false, calms]
      refine ⟨⟨?_, ?_, ?_⟩, ?_, ?_, ?_, ?_, ?_⟩ <;> (try simp) <;> omega
    · by_cases h10 : ti + 1 < 10
      · have h10' : ¬ (10 ≤ ti + 1) := by omega
        simp only [tick, tickW, Eye.sees, hm, hx, h10, h10', if_true, if_false, calms, and_self]
        refine ⟨⟨?_, ?_, ?_⟩, ?_, ?_, ?_, ?_, ?_⟩ <;> (try simp) <;> omega
      · have h10' : (10 ≤ ti + 1) := by omega
        simp only [tick, tickW, Eye.sees, hm, hx, h10, h10', if_true, if_false, calms, and_false]
        refine ⟨⟨?_, ?_, ?_⟩, ?_, ?_, ?_, ?_, ?_⟩ <;> (try simp) <;> omega
  · have hx : lo ≤ min x 4 := by omega
    rcases c with ⟨rfl, rfl, rfl, rfl⟩ | ⟨rfl, rfl, rfl, rfl, rfl⟩ | ⟨rfl, rfl, c⟩
    · simp only [tick, tickW, Eye.sees, hm, hx, if_true, if_false]
      refine ⟨⟨?_, ?_, ?_⟩, ?_, ?_, ?_, ?_, ?_⟩ <;> (try simp) <;> omega
    · have hw : ¬ (min x 4 ≤ 0) := by omega
      simp [tick, tickW, Eye.sees, hm, hx, tells, hw]
      refine ⟨⟨?_, ?_, ?_⟩, ?_⟩ <;> (try simp) <;> omega
    · by_cases hw : min x 4 ≤ to
      · simp [tick, tickW, Eye.sees, hm, hx, tells, hw]
        refine ⟨⟨?_, ?_, ?_⟩, ?_⟩ <;> (try simp) <;> omega
      · simp [tick, tickW, Eye.sees, hm, hx, tells, hw]
        refine ⟨⟨?_, ?_, ?_⟩, ?_⟩ <;> (try simp) <;> omega
end Go.Proofs.Ytkhcaefbchcdoaa.Plain
