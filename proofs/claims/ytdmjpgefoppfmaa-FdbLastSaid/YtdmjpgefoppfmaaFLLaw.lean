/-
  FdbLast, the plain law: the walk back through the acts tells what the database has. No program. Conditions: as each lemma says.
-/
import Derived.Test.YtdmjpgefoppfmaaFLPlain
namespace Go.Proofs.Ytdmjpgefoppfmaa
open Go.RowKit
set_option linter.unusedVariables false

def ticksP : List FAct → Int
  | [] => 0
  | a :: r => (if a.d = 0 then 1 else 0) + ticksP r
def flP : List FAct → Int
  | [] => 0
  | a :: r => if a.d = 1 then bits BinOp.or .u8 (flP r) a.ports else flP r
/-- Was a place pushed out by further acts? -/
noncomputable def pushL (k : Pl) : Tb → List FAct → Bool
  | _, [] => false
  | τ, a :: r => (a.mayB && decide (τ.L.length = 32) && decide ((τ.L.head?.map (·.p)) = some k) && (!((τ.does a).look k).2 || decide (((τ.does a).look k).1 = 0))) || pushL k (τ.does a) r
noncomputable def pushedP (more ahead : List FAct) : Bool :=
  match ((⟨[], []⟩ : Tb).runs ahead).L.getLast? with
  | none => true
  | some m => pushL m.p ((⟨[], []⟩ : Tb).runs ahead) more
noncomputable def fixedP (l : List FAct) (k : Pl) : Bool := (sget ((⟨[], []⟩ : Tb).runs l).S k).isSome
open Classical in
/-- What the law's walk back tells, from i acts on. -/
noncomputable def lp (l : List FAct) (k : Pl) : Nat → Int × Bool
  | 0 => (0, false)
  | i + 1 => match l[i]? with
    | none => (0, false)
    | some a =>
      if a.d = 0 ∨ a.d = 1 then lp l k i
      else if a.d = 2 ∧ a.q = k ∧ fixedP (l.take (i + 1)) k = true then (0, false)
      else if a.mayB = true ∧ fixedP (l.take i) a.q = false then
        if a.q = k then (a.port, decide (ticksP (l.drop (i + 1)) < 40) && (!(fbit (flP (l.drop (i + 1))) a.port)) && !(pushedP (l.drop (i + 1)) (l.take (i + 1)))) else lp l k i
      else lp l k i
/-- No act of these teaches or fixes the place. -/
def NE (k : Pl) : Tb → List FAct → Prop
  | _, [] => True
  | τ, a :: r => ¬ (a.mayB = true ∧ sget τ.S a.q = none ∧ a.q = k) ∧ ¬ (a.d = 2 ∧ a.q = k ∧ sget (τ.does a).S k ≠ none) ∧ NE k (τ.does a) r
theorem ticksP_nonneg : ∀ l, 0 ≤ ticksP l
  | [] => by simp [ticksP]
  | a :: r => by have := ticksP_nonneg r; unfold ticksP; split <;> omega
theorem ticksP_le : ∀ l, ticksP l ≤ l.length
  | [] => by simp [ticksP]
  | a :: r => by have := ticksP_le r; unfold ticksP; rw [List.length_cons]; split <;> omega
theorem flP_range : ∀ l, (∀ a ∈ l, FAct.Ok a) → 0 ≤ flP l ∧ flP l < 256
  | [], _ => by simp [flP]
  | a :: r, h => by
    have := flP_range r (fun b hb => h b (by simp [hb]))
    unfold flP
    split
    · exact or_range _ _ this (h a (by simp)).2.2.2
    · exact this
theorem fwd_none {k : Pl} : ∀ (more : List FAct) (τ : Tb) (j : Nat), τ.Apart → τ.Good j → (∀ a ∈ more, FAct.Ok a) → τ.ent k = none → NE k τ more → (τ.runs more).ent k = none
  | [], τ, j, _, _, _, he, _ => he
  | a :: r, τ, j, hA, hG, hok, he, hn => by
    obtain ⟨n1, n2, n3⟩ := hn
    have ha := hok a (by simp)
    refine fwd_none r (τ.does a) (j + 1) (hA.does a) (hG.does ha) (fun b hb => hok b (by simp [hb])) ?_ n3
    rcases ent_does hA hG.L ha.1 n1 n2 with ⟨_, e⟩ | ⟨_, e⟩ | ⟨_, e, _⟩ | ⟨_, _, _, _, e, _⟩
    · rw [e, he]; rfl
    · rw [e, he]; rfl
    · rw [e, he]
    · exact e
theorem lk_none {τ : Tb} {k : Pl} (hs : sget τ.S k = none) (he : τ.ent k = none) : τ.look k = (0, false) := by
  unfold Tb.look
  rw [hs]
  simp only
  unfold Tb.ent at he
  rw [he]
theorem lk_some {τ : Tb} {k : Pl} {x : En} (hs : sget τ.S k = none) (he : τ.ent k = some x) : τ.look k = (2 ^ x.port.toNat, true) := by
  unfold Tb.look
  rw [hs]
  simp only
  unfold Tb.ent at he
  rw [he]
theorem fwd {k : Pl} : ∀ (more : List FAct) (τ : Tb) (j : Nat) (x : En), τ.Apart → τ.Good j → (∀ a ∈ more, FAct.Ok a) → τ.ent k = some x → x.age < 40 → NE k τ more →
    (x.age + ticksP more < 40 ∧ fbit (flP more) x.port = false ∧ pushL k τ more = false → ∃ y, (τ.runs more).ent k = some y ∧ y.port = x.port) ∧
    (¬ (x.age + ticksP more < 40 ∧ fbit (flP more) x.port = false ∧ pushL k τ more = false) → (τ.runs more).ent k = none)
  | [], τ, j, x, _, hG, _, he, hage, _ => by
    have hr := hG.ent x (ent_mem he).1
    refine ⟨fun _ => ⟨x, he, rfl⟩, fun h => absurd ⟨by simpa [ticksP] using hage, by unfold flP; exact fbit_zero _ hr.1.1, rfl⟩ h⟩
  | a :: r, τ, j, x, hA, hG, hok, he, hage, hn => by
    obtain ⟨n1, n2, n3⟩ := hn
    have ha := hok a (by simp)
    have hokr : ∀ b ∈ r, FAct.Ok b := fun b hb => hok b (by simp [hb])
    have hr := hG.ent x (ent_mem he).1
    have hA' := hA.does a
    have hG' := hG.does ha
    have ht := ticksP_nonneg r
    have hfr := flP_range r hokr
    have hrun : τ.runs (a :: r) = (τ.does a).runs r := rfl
    have hnomay : a.d ≤ 3 → a.mayB = false := fun h => by
      cases hm : a.mayB with
      | false => rfl
      | true => have := ((FAct.mayB_iff a).1 hm).1; omega
    have hpush : ∀ c : Bool, (a.mayB && decide (τ.L.length = 32) && decide ((τ.L.head?.map (·.p)) = some k) && (!((τ.does a).look k).2 || decide (((τ.does a).look k).1 = 0))) = c → pushL k τ (a :: r) = (c || pushL k (τ.does a) r) := fun c hc => by
      show (_ || _) = _; rw [hc]
    rw [hrun]
    rcases ent_does hA hG.L ha.1 n1 n2 with ⟨d, e⟩ | ⟨d, e⟩ | ⟨d, e, es⟩ | ⟨d, hm, h32, hh, e, es⟩
    · rw [he] at e
      have hp : pushL k τ (a :: r) = pushL k (τ.does a) r := by rw [hpush false (by rw [hnomay (by omega)]; simp)]; simp
      have htk : ticksP (a :: r) = 1 + ticksP r := by
        show (if a.d = 0 then 1 else 0) + ticksP r = _
        rw [if_pos d]
      have hfl : flP (a :: r) = flP r := by
        show (if a.d = 1 then _ else flP r) = _
        rw [if_neg (by omega)]
      rw [hp, htk, hfl]
      by_cases h40 : 40 ≤ x.age + 1
      · have e2 : (τ.does a).ent k = none := by rw [e]; simp [Option.filter, older, h40]
        exact ⟨fun h => by omega, fun _ => fwd_none r _ _ hA' hG' hokr e2 n3⟩
      · have e2 : (τ.does a).ent k = some (older x) := by
          rw [e]
          have : ¬ 40 ≤ (older x).age := h40
          simp [Option.filter, this]
        have := fwd r _ _ _ hA' hG' hokr e2 (by show x.age + 1 < 40; omega) n3
        have h1 : (older x).age = x.age + 1 := rfl
        have h2 : (older x).port = x.port := rfl
        rw [h1, h2] at this
        rw [show x.age + (1 + ticksP r) = x.age + 1 + ticksP r from by omega]
        exact this
    · rw [he] at e
      have hp : pushL k τ (a :: r) = pushL k (τ.does a) r := by rw [hpush false (by rw [hnomay (by omega)]; simp)]; simp
      have htk : ticksP (a :: r) = ticksP r := by
        show (if a.d = 0 then 1 else 0) + ticksP r = _
        rw [if_neg (by omega)]; omega
      have hfl : flP (a :: r) = bits BinOp.or .u8 (flP r) a.ports := by
        show (if a.d = 1 then _ else flP r) = _
        rw [if_pos d]
      rw [hp, htk, hfl, fbit_or _ _ _ hfr ha.2.2.2 hr.1.1]
      cases hb : fbit a.ports x.port with
      | true =>
        have e2 : (τ.does a).ent k = none := by rw [e]; simp [Option.filter, hb]
        exact ⟨fun h => by simp at h, fun _ => fwd_none r _ _ hA' hG' hokr e2 n3⟩
      | false =>
        have e2 : (τ.does a).ent k = some x := by rw [e]; simp [Option.filter, hb]
        rw [Bool.or_false]
        exact fwd r _ _ _ hA' hG' hokr e2 hage n3
    · rw [he] at e
      have hp : pushL k τ (a :: r) = pushL k (τ.does a) r := by
        have hne : ¬ (2 : Int) ^ x.port.toNat = 0 := by
          have : (0 : Int) < 2 ^ x.port.toNat := Int.pow_pos (by omega)
          omega
        rw [hpush false (by rw [lk_some (es x he) e]; simp [hne])]; simp
      have htk : ticksP (a :: r) = ticksP r := by
        show (if a.d = 0 then 1 else 0) + ticksP r = _
        rw [if_neg (by omega)]; omega
      have hfl : flP (a :: r) = flP r := by
        show (if a.d = 1 then _ else flP r) = _
        rw [if_neg (by omega)]
      rw [hp, htk, hfl]
      exact fwd r _ _ _ hA' hG' hokr e hage n3
    · have hp : pushL k τ (a :: r) = true := by
        rw [hpush true (by rw [lk_none es e, hm, h32, hh]; simp)]; simp
      rw [hp]
      exact ⟨fun h => by simp at h, fun _ => fwd_none r _ _ hA' hG' hokr e n3⟩
theorem learns_last {τ : Tb} {j : Nat} (hG : τ.Good j) {a : FAct} (hm : a.mayB = true) (hs : sget τ.S a.q = none) : ∃ M : List En, (τ.does a).L = M ++ [(⟨a.q, a.port, 0⟩ : En)] ∧ (τ.does a).S = τ.S := by
  obtain ⟨h3, hl⟩ := (FAct.mayB_iff a).1 hm
  have e : τ.does a = τ.learn a.q a.port := by unfold Tb.does; rw [if_neg (by omega), if_neg (by omega), if_neg (by omega), if_neg (by omega)]
  rw [e]
  unfold Tb.learn
  rw [if_pos ⟨hl, hs⟩]
  exact ⟨_, rfl, rfl⟩
/-- The walk back tells the entry of a place that is not static. -/
theorem learnt_law (l : List FAct) (hok : ∀ a ∈ l, FAct.Ok a) (k : Pl) :
    ∀ i, i ≤ l.length → NE k ((⟨[], []⟩ : Tb).runs (l.take i)) (l.drop i) →
      (lp l k i).2 = (((⟨[], []⟩ : Tb).runs l).ent k).isSome ∧ ∀ y, ((⟨[], []⟩ : Tb).runs l).ent k = some y → (lp l k i).1 = y.port := by
  have hsplit : ∀ i, ((⟨[], []⟩ : Tb).runs l) = ((⟨[], []⟩ : Tb).runs (l.take i)).runs (l.drop i) := fun i => by
    unfold Tb.runs
    rw [← List.foldl_append, List.take_append_drop]
  have hA : ∀ i, ((⟨[], []⟩ : Tb).runs (l.take i)).Apart := fun i => Tb.Apart.start.runs _
  have hG : ∀ i, ∃ j, ((⟨[], []⟩ : Tb).runs (l.take i)).Good j := fun i => ⟨_, Tb.Good.start.runs (fun a ha => hok a (List.mem_of_mem_take ha))⟩
  have hokd : ∀ i, ∀ a ∈ l.drop i, FAct.Ok a := fun i a ha => hok a (List.mem_of_mem_drop ha)
  intro i
  induction i with
  | zero =>
    intro _ hne
    obtain ⟨j, hj⟩ := hG 0
    have := fwd_none _ _ _ (hA 0) hj (hokd 0) (by rfl) hne
    rw [← hsplit] at this
    rw [this]
    exact ⟨rfl, fun y hy => by cases hy⟩
  | succ i ih =>
    intro hi hne
    obtain ⟨a, ha⟩ : ∃ a, l[i]? = some a := ⟨_, List.getElem?_eq_getElem (by omega)⟩
    have hstep := runs_take ha (⟨[], []⟩ : Tb)
    have hdrop : l.drop i = a :: l.drop (i + 1) := by
      obtain ⟨hlt, hv⟩ := List.getElem?_eq_some_iff.1 ha
      rw [List.drop_eq_getElem_cons hlt, hv]
    have haok := hok a (List.mem_of_getElem? ha)
    obtain ⟨j, hj⟩ := hG i
    obtain ⟨j1, hj1⟩ := hG (i + 1)
    have back : ¬ (a.mayB = true ∧ sget ((⟨[], []⟩ : Tb).runs (l.take i)).S a.q = none ∧ a.q = k) → ¬ (a.d = 2 ∧ a.q = k ∧ sget (((⟨[], []⟩ : Tb).runs (l.take i)).does a).S k ≠ none) →
        (lp l k i).2 = (((⟨[], []⟩ : Tb).runs l).ent k).isSome ∧ ∀ y, ((⟨[], []⟩ : Tb).runs l).ent k = some y → (lp l k i).1 = y.port := fun h1 h2 => by
      refine ih (by omega) ?_
      rw [hdrop]
      exact ⟨h1, h2, by rw [← hstep]; exact hne⟩
    have hnomay : a.d ≤ 3 → ¬ a.mayB = true := fun h hm => by
      have := ((FAct.mayB_iff a).1 hm).1; omega
    have hfx : ∀ m q, fixedP (l.take m) q = false ↔ sget ((⟨[], []⟩ : Tb).runs (l.take m)).S q = none := fun m q => by
      unfold fixedP
      cases sget ((⟨[], []⟩ : Tb).runs (l.take m)).S q <;> simp
    have hfx' : ∀ m q, fixedP (l.take m) q = true ↔ sget ((⟨[], []⟩ : Tb).runs (l.take m)).S q ≠ none := fun m q => by
      unfold fixedP
      cases sget ((⟨[], []⟩ : Tb).runs (l.take m)).S q <;> simp
    unfold lp
    simp only [ha]
    by_cases h01 : a.d = 0 ∨ a.d = 1
    · rw [if_pos h01]
      exact back (fun h => hnomay (by omega) h.1) (fun h => by omega)
    rw [if_neg h01]
    by_cases hset : a.d = 2 ∧ a.q = k ∧ fixedP (l.take (i + 1)) k = true
    · rw [if_pos hset]
      have hs := (hfx' _ _).1 hset.2.2
      have he : ((⟨[], []⟩ : Tb).runs (l.take (i + 1))).ent k = none := by
        cases hx : ((⟨[], []⟩ : Tb).runs (l.take (i + 1))).ent k with
        | none => rfl
        | some x =>
          obtain ⟨m1, m2⟩ := ent_mem hx
          exact absurd (by rw [← m2]; exact (hA (i + 1)).free x m1) hs
      have := fwd_none _ _ _ (hA (i + 1)) hj1 (hokd (i + 1)) he hne
      rw [← hsplit] at this
      rw [this]
      exact ⟨rfl, fun y hy => by cases hy⟩
    rw [if_neg hset]
    have h2 : ¬ (a.d = 2 ∧ a.q = k ∧ sget (((⟨[], []⟩ : Tb).runs (l.take i)).does a).S k ≠ none) := fun ⟨e1, e2, e3⟩ => hset ⟨e1, e2, (hfx' _ _).2 (by rw [hstep]; exact e3)⟩
    by_cases hl : a.mayB = true ∧ fixedP (l.take i) a.q = false
    · rw [if_pos hl]
      have hs := (hfx _ _).1 hl.2
      by_cases hq : a.q = k
      · rw [if_pos hq]
        obtain ⟨M, hM, hS⟩ := learns_last hj hl.1 hs
        have hmem : (⟨a.q, a.port, 0⟩ : En) ∈ (((⟨[], []⟩ : Tb).runs (l.take i)).does a).L := by rw [hM]; simp
        have he : ((⟨[], []⟩ : Tb).runs (l.take (i + 1))).ent k = some ⟨a.q, a.port, 0⟩ := by
          rw [hstep]
          have hnd := (hA (i + 1)).nodup
          rw [hstep, hM, List.map_append, List.nodup_append] at hnd
          unfold Tb.ent
          rw [hM, List.find?_append]
          have : M.find? (fun x => decide (k = x.p)) = none := by
            simp
            intro x hx e
            exact hnd.2.2 x.p (List.mem_map.2 ⟨x, hx, rfl⟩) a.q (by simp) (by rw [← e, hq])
          rw [this]
          simp [hq]
        have hlast : ((⟨[], []⟩ : Tb).runs (l.take (i + 1))).L.getLast? = some ⟨a.q, a.port, 0⟩ := by rw [hstep, hM]; simp
        have hpd : pushedP (l.drop (i + 1)) (l.take (i + 1)) = pushL k ((⟨[], []⟩ : Tb).runs (l.take (i + 1))) (l.drop (i + 1)) := by
          unfold pushedP
          rw [hlast]
          simp only [hq]
        have hf := fwd _ _ _ _ (hA (i + 1)) hj1 (hokd (i + 1)) he (by show (0 : Int) < 40; decide) hne
        rw [← hsplit] at hf
        rw [hpd]
        by_cases hc : (0 : Int) + ticksP (l.drop (i + 1)) < 40 ∧ fbit (flP (l.drop (i + 1))) a.port = false ∧ pushL k ((⟨[], []⟩ : Tb).runs (l.take (i + 1))) (l.drop (i + 1)) = false
        · obtain ⟨y, hy, hyp⟩ := hf.1 hc
          rw [hy]
          obtain ⟨c1, c2, c3⟩ := hc
          rw [Int.zero_add] at c1
          refine ⟨by simp [c1, c2, c3], fun z hz => ?_⟩
          injection hz with hz
          subst hz
          exact hyp.symm
        · rw [hf.2 hc]
          refine ⟨?_, fun y hy => by cases hy⟩
          rw [Int.zero_add] at hc
          simp only [Option.isSome_none]
          by_cases c1 : ticksP (l.drop (i + 1)) < 40
          · cases c2 : fbit (flP (l.drop (i + 1))) a.port with
            | true => simp
            | false =>
              cases c3 : pushL k ((⟨[], []⟩ : Tb).runs (l.take (i + 1))) (l.drop (i + 1)) with
              | true => simp
              | false => exact absurd ⟨c1, c2, c3⟩ hc
          · simp [c1]
      · rw [if_neg hq]
        exact back (fun h => hq h.2.2) h2
    · rw [if_neg hl]
      exact back (fun h => hl ⟨h.1, (hfx _ _).2 h.2.1⟩) h2
theorem learnt_whole (l : List FAct) (hok : ∀ a ∈ l, FAct.Ok a) (k : Pl) (hs : sget ((⟨[], []⟩ : Tb).runs l).S k = none) :
    (((⟨[], []⟩ : Tb).runs l).look k).2 = (lp l k l.length).2 ∧ ((lp l k l.length).2 = true → 0 ≤ (lp l k l.length).1 ∧ (lp l k l.length).1 < 8 ∧ (((⟨[], []⟩ : Tb).runs l).look k).1 = 2 ^ (lp l k l.length).1.toNat) ∧ ((lp l k l.length).2 = false → (((⟨[], []⟩ : Tb).runs l).look k).1 = 0) := by
  obtain ⟨h1, h2⟩ := learnt_law l hok k l.length (Nat.le_refl _) (by rw [List.drop_length]; trivial)
  cases he : ((⟨[], []⟩ : Tb).runs l).ent k with
  | none =>
    rw [he] at h1
    rw [lk_none hs he, h1]
    simp
  | some y =>
    rw [he] at h1
    have h2 := h2 y he
    have hr := (Tb.Good.start.runs hok).ent y (ent_mem he).1
    rw [lk_some hs he, h1, h2]
    exact ⟨rfl, fun _ => ⟨hr.1.1, hr.1.2, rfl⟩, fun h => by cases h⟩

/-! ## Which places are fixed, as the law counts them -/
noncomputable def fstep (S : List (Pl × Int)) (a : FAct) : List (Pl × Int) :=
  if a.d = 2 ∧ 1 ≤ a.q.v ∧ a.q.v ≤ 4094 ∧ ((sget S a.q).isSome = true ∨ S.length < 16) then sput S a.q 1 else if a.d = 3 then sdel S a.q else S
noncomputable def fset (l : List FAct) : List (Pl × Int) := l.foldl fstep []
theorem keys_sget {S T : List (Pl × Int)} (h : S.map (·.1) = T.map (·.1)) (k : Pl) : (sget S k).isSome = (sget T k).isSome := by
  have e : ∀ U : List (Pl × Int), (sget U k).isSome = (U.map (·.1)).any (fun x => decide (x = k)) := fun U => by
    unfold sget
    rw [Option.isSome_map, List.any_map]
    induction U with
    | nil => rfl
    | cons y r ih =>
      rw [List.find?_cons, List.any_cons]
      cases hd : decide (y.1 = k) with
      | true => simp [hd]
      | false => simp only [Bool.false_or, Function.comp]; rw [ih]; simp [hd, Function.comp]
  rw [e, e, h]
theorem keys_put (S : List (Pl × Int)) (p : Pl) (v : Int) : (sput S p v).map (·.1) = if (sget S p).isSome then S.map (·.1) else S.map (·.1) ++ [p] := by
  unfold sput
  split
  · rw [List.map_map]
    apply List.map_congr_left
    intro x _
    simp only [Function.comp]
    by_cases hx : x.1 = p <;> simp [hx]
  · simp
theorem keys_del (S : List (Pl × Int)) (p : Pl) : (sdel S p).map (·.1) = (S.map (·.1)).filter (fun x => decide (x ≠ p)) := by
  unfold sdel
  rw [List.filter_map]
  rfl
theorem fset_keys (l : List FAct) : (fset l).map (·.1) = ((⟨[], []⟩ : Tb).runs l).S.map (·.1) := by
  suffices h : ∀ (l : List FAct) (S : List (Pl × Int)) (τ : Tb), τ.Apart → S.map (·.1) = τ.S.map (·.1) → (l.foldl fstep S).map (·.1) = (l.foldl Tb.does τ).S.map (·.1) from h l [] _ Tb.Apart.start rfl
  intro l
  induction l with
  | nil => exact fun S τ _ h => h
  | cons a r ih =>
    intro S τ hA h
    refine ih _ _ (hA.does a) ?_
    have hs := keys_sget h a.q
    have hlen : S.length = τ.S.length := by
      have := congrArg List.length h
      simpa using this
    have hrng : ¬ (1 ≤ a.q.v ∧ a.q.v ≤ 4094) → sget τ.S a.q = none := fun hv => by
      cases hg : sget τ.S a.q with
      | none => rfl
      | some u =>
        unfold sget at hg
        rw [Option.map_eq_some_iff] at hg
        obtain ⟨x, hx, _⟩ := hg
        have h1 := List.mem_of_find?_eq_some hx
        have h2 := List.find?_some hx
        have h2 : x.1 = a.q := by simpa using h2
        exact absurd (by rw [← h2]; exact hA.rng x h1) hv
    unfold fstep Tb.does
    by_cases d2 : a.d = 2
    · rw [if_neg (show ¬ a.d = 0 by omega), if_neg (show ¬ a.d = 1 by omega), if_pos d2, if_neg (show ¬ a.d = 3 by omega)]
      unfold Tb.set
      by_cases hv : 1 ≤ a.q.v ∧ a.q.v ≤ 4094
      · rw [if_pos hv]
        by_cases hf : sget τ.S a.q = none ∧ 16 ≤ τ.S.length
        · rw [if_pos hf, if_neg (by rw [hs, hf.1, hlen]; simp; omega)]
          exact h
        · rw [if_neg hf, if_pos ⟨d2, hv.1, hv.2, by
            rw [hs, hlen]
            cases hg : sget τ.S a.q with
            | some u => exact .inl rfl
            | none => exact .inr (by have : ¬ 16 ≤ τ.S.length := fun e => hf ⟨hg, e⟩; omega)⟩]
          show (sput S a.q 1).map (·.1) = (sput τ.S a.q a.ports).map (·.1)
          rw [keys_put, keys_put, hs, h]
      · rw [if_neg hv, if_neg (fun e => hv ⟨e.2.1, e.2.2.1⟩)]
        exact h
    · rw [if_neg (fun e => d2 e.1)]
      by_cases d3 : a.d = 3
      · rw [if_pos d3, if_neg (show ¬ a.d = 0 by omega), if_neg (show ¬ a.d = 1 by omega), if_neg d2, if_pos d3]
        have hsame : sget τ.S a.q = none → sdel S a.q = S := fun hg => by
          have : (sget S a.q).isSome = false := by rw [hs, hg]; rfl
          have hn : sget S a.q = none := by cases hx : sget S a.q with
            | none => rfl
            | some u => rw [hx] at this; cases this
          unfold sdel
          rw [List.filter_eq_self]
          intro x hx
          simpa using sget_none hn x hx
        unfold Tb.unset
        by_cases hv : 1 ≤ a.q.v ∧ a.q.v ≤ 4094
        · rw [if_pos hv]
          by_cases hg : sget τ.S a.q = none
          · rw [if_pos hg, hsame hg]; exact h
          · rw [if_neg hg]
            show (sdel S a.q).map (·.1) = (sdel τ.S a.q).map (·.1)
            rw [keys_del, keys_del, h]
        · rw [if_neg hv, hsame (hrng hv)]; exact h
      · rw [if_neg d3, if_neg d2, if_neg d3]
        by_cases d0 : a.d = 0
        · rw [if_pos d0]; exact h
        · rw [if_neg d0]
          by_cases d1 : a.d = 1
          · rw [if_pos d1]; exact h
          · rw [if_neg d1]
            unfold Tb.learn
            split <;> exact h
theorem fixed_eq (l : List FAct) (k : Pl) : (sget (fset l) k).isSome = fixedP l k := keys_sget (fset_keys l) k
theorem fset_once : ∀ l, Once (fset l) := by
  suffices h : ∀ (l : List FAct) (S : List (Pl × Int)), Once S → Once (l.foldl fstep S) from fun l => h l [] (by simp [Once])
  intro l
  induction l with
  | nil => exact fun S h => h
  | cons a r ih =>
    intro S h
    refine ih _ ?_
    unfold fstep
    split
    · exact once_put h _ _
    · split
      · exact once_del h _
      · exact h
theorem fset_len (l : List FAct) (hok : ∀ a ∈ l, FAct.Ok a) : (fset l).length ≤ 16 := by
  have h1 := congrArg List.length (fset_keys l)
  have h2 := (Tb.Good.start.runs hok).S
  simp at h1
  omega
end Go.Proofs.Ytdmjpgefoppfmaa
