/-
  FdbLast, the plain law: where a place was learnt last. No program. Conditions: as each lemma says.
-/
import Derived.Test.YtdmjpgefoppfmaaFHead
namespace Go.Proofs.Ytdmjpgefoppfmaa
open Go.RowKit
set_option linter.unusedVariables false

/-! ## Bits of a set of ports -/
def fbit (q port : Int) : Bool := bits BinOp.and .u8 (q / 2 ^ port.toNat) 1 == 1
theorem and_zero (a : Int) (h : 0 ≤ a) (h' : a < 256) : (bits BinOp.and .u8 a 1 == 0) = !(bits BinOp.and .u8 a 1 == 1) := by
  have key : ∀ n : Fin 256, (bits BinOp.and .u8 ((n : Nat) : Int) 1 == 0) = !(bits BinOp.and .u8 ((n : Nat) : Int) 1 == 1) := by decide +kernel
  have := key ⟨a.toNat, by omega⟩
  rwa [show (((⟨a.toNat, by omega⟩ : Fin 256) : Nat) : Int) = a from by simp; omega] at this
theorem bits_or8 (x y : Int) (hx : 0 ≤ x ∧ x < 256) (hy : 0 ≤ y ∧ y < 256) : bits BinOp.or .u8 x y = ((x.toNat ||| y.toNat : Nat) : Int) ∧ (x.toNat ||| y.toNat) < 256 := by
  have hlt : (x.toNat ||| y.toNat) < 2 ^ 8 := Nat.or_lt_two_pow (by omega) (by omega)
  refine ⟨?_, by omega⟩
  have e : ∀ z : Int, 0 ≤ z ∧ z < 256 → (BitVec.ofInt 8 z).toNat = z.toNat := fun z hz => by
    rw [BitVec.toNat_ofInt]; omega
  show IntKind.u8.wrap (((BitVec.ofInt 8 x ||| BitVec.ofInt 8 y : BitVec 8).toNat : Nat) : Int) = _
  rw [BitVec.toNat_or, e x hx, e y hy, IntKind.wrap_u8]
  omega
theorem div_bit (n p : Nat) : (n / 2 ^ p) % 2 = 1 ↔ n.testBit p = true := by
  rw [Nat.testBit_eq_decide_div_mod_eq]; simp
theorem fbit_nat (n : Nat) (hn : n < 256) (p : Int) (hp : 0 ≤ p) : fbit (n : Int) p = n.testBit p.toNat := by
  have h1 : ((n : Int) / 2 ^ p.toNat) = ((n / 2 ^ p.toNat : Nat) : Int) := by simp
  have h0 := Nat.div_le_self n (2 ^ p.toNat)
  unfold fbit
  rw [h1]
  generalize hg : n / 2 ^ p.toNat = m at *
  rw [and_one _ (by omega) (by omega)]
  have := div_bit n p.toNat
  rw [hg] at this
  cases h : n.testBit p.toNat with
  | true => simp; have := this.2 h; omega
  | false => simp; have : ¬ m % 2 = 1 := fun e => by rw [this.1 e] at h; cases h
             omega
theorem fbit_or (x y p : Int) (hx : 0 ≤ x ∧ x < 256) (hy : 0 ≤ y ∧ y < 256) (hp : 0 ≤ p) : fbit (bits BinOp.or .u8 x y) p = (fbit x p || fbit y p) := by
  obtain ⟨e, hlt⟩ := bits_or8 x y hx hy
  rw [e, fbit_nat _ hlt p hp, Nat.testBit_or]
  have h1 := fbit_nat x.toNat (by omega) p hp
  have h2 := fbit_nat y.toNat (by omega) p hp
  rw [show ((x.toNat : Nat) : Int) = x from by omega] at h1
  rw [show ((y.toNat : Nat) : Int) = y from by omega] at h2
  rw [h1, h2]
theorem or_range (x y : Int) (hx : 0 ≤ x ∧ x < 256) (hy : 0 ≤ y ∧ y < 256) : 0 ≤ bits BinOp.or .u8 x y ∧ bits BinOp.or .u8 x y < 256 := by
  obtain ⟨e, hlt⟩ := bits_or8 x y hx hy
  rw [e]; omega
theorem fbit_zero (p : Int) (hp : 0 ≤ p) : fbit 0 p = false := by
  have := fbit_nat 0 (by omega) p hp
  simpa using this

/-! ## Acts and what they do -/
def FAct.mayB (a : FAct) : Bool := decide (3 < a.d) && (decide (a.port < 8) && (decide (1 ≤ a.q.v) && (decide (a.q.v ≤ 4094) && decide (¬ a.q.a % 2 = 1))))
theorem FAct.mayB_iff (a : FAct) : a.mayB = true ↔ 3 < a.d ∧ mayLearn a.q a.port := by
  unfold FAct.mayB mayLearn
  simp only [Bool.and_eq_true, decide_eq_true_eq]
  constructor
  · rintro ⟨h1, h2, h3, h4, h5⟩; exact ⟨h1, h5, h2, h3, h4⟩
  · rintro ⟨h1, h5, h2, h3, h4⟩; exact ⟨h1, h2, h3, h4, h5⟩
noncomputable def Tb.does (τ : Tb) (a : FAct) : Tb :=
  if a.d = 0 then τ.tick else if a.d = 1 then τ.flush a.ports else if a.d = 2 then (τ.set a.q a.ports).1 else if a.d = 3 then (τ.unset a.q).1 else τ.learn a.q a.port
noncomputable def Tb.runs (τ : Tb) (l : List FAct) : Tb := l.foldl Tb.does τ
theorem Tb.Good.does {τ : Tb} {k : Nat} (h : τ.Good k) {a : FAct} (ok : a.Ok) : (τ.does a).Good (k + 1) := by
  unfold Tb.does
  split
  · exact h.tick
  · split
    · exact h.flush _
    · split
      · exact h.set _ _
      · split
        · exact h.unset _
        · exact h.learn _ _ ok.2.2.1.1
theorem Tb.Good.runs {τ : Tb} {k : Nat} (h : τ.Good k) {l : List FAct} (ok : ∀ a ∈ l, a.Ok) : (τ.runs l).Good (k + l.length) := by
  induction l generalizing τ k with
  | nil => exact h
  | cons a r ih =>
    have := ih (h.does (ok a (by simp))) (fun b hb => ok b (by simp [hb]))
    rw [List.length_cons, show k + (r.length + 1) = k + 1 + r.length from by omega]
    exact this
theorem runs_take {l : List FAct} {i : Nat} {a : FAct} (h : l[i]? = some a) (τ : Tb) : τ.runs (l.take (i + 1)) = (τ.runs (l.take i)).does a := by
  have hi := (List.getElem?_eq_some_iff.1 h)
  obtain ⟨hlt, hv⟩ := hi
  unfold Tb.runs
  rw [List.take_add_one, h]
  simp

/-- No place twice, none static too, statics in range. -/
structure Tb.Apart (τ : Tb) : Prop where
  nodup : (τ.L.map (·.p)).Nodup
  free : ∀ x ∈ τ.L, sget τ.S x.p = none
  rng : ∀ x ∈ τ.S, 1 ≤ x.1.v ∧ x.1.v ≤ 4094
theorem Tb.Apart.start : (⟨[], []⟩ : Tb).Apart := ⟨by simp, by simp, by simp⟩
theorem older_p (x : En) : (older x).p = x.p := rfl
theorem mem_sput {S : List (Pl × Int)} {q : Pl} {v : Int} {x : Pl × Int} (h : x ∈ sput S q v) : x = (q, v) ∨ x ∈ S := by
  unfold sput at h
  split at h
  · obtain ⟨y, hy, e⟩ := List.mem_map.1 h
    split at e
    · exact .inl e.symm
    · exact .inr (e ▸ hy)
  · rcases List.mem_append.1 h with h | h
    · exact .inr h
    · simp at h; exact .inl h
theorem Tb.Apart.does {τ : Tb} (h : τ.Apart) (a : FAct) : (τ.does a).Apart := by
  have hf : ∀ P : En → Bool, (((τ.L.filter P).map (·.p)).Nodup) ∧ ∀ x ∈ τ.L.filter P, x ∈ τ.L := fun P =>
    ⟨List.Nodup.sublist (List.Sublist.map _ List.filter_sublist) h.nodup, fun x hx => (List.mem_filter.1 hx).1⟩
  unfold Tb.does
  split
  · have e1 : (τ.L.map older).map (·.p) = τ.L.map (·.p) := by rw [List.map_map]; rfl
    refine ⟨List.Nodup.sublist (List.Sublist.map _ List.filter_sublist) (by rw [e1]; exact h.nodup), fun x hx => ?_, h.rng⟩
    obtain ⟨y, hy, rfl⟩ := List.mem_map.1 (List.mem_filter.1 hx).1
    exact h.free y hy
  · split
    · exact ⟨(hf _).1, fun x hx => h.free x ((hf _).2 x hx), h.rng⟩
    · split
      · unfold Tb.set
        split
        · rename_i hv
          split
          · exact h
          · refine ⟨(hf _).1, fun x hx => ?_, fun x hx => ?_⟩
            · have h2 := (List.mem_filter.1 hx).2
              show sget (sput τ.S a.q a.ports) x.p = none
              rw [sget_put, if_neg (by simpa using h2)]
              exact h.free x ((hf _).2 x hx)
            · rcases mem_sput hx with e | hx
              · subst e; exact hv
              · exact h.rng x hx
        · exact h
      · split
        · unfold Tb.unset
          split
          · split
            · exact h
            · refine ⟨h.nodup, fun x hx => ?_, fun x hx => ?_⟩
              · show sget (sdel τ.S a.q) x.p = none
                rw [sget_del]
                split
                · rfl
                · exact h.free x hx
              · have hx : x ∈ sdel τ.S a.q := hx
                exact h.rng x (List.mem_filter.1 hx).1
          · exact h
        · unfold Tb.learn
          split
          · rename_i hm
            have hsub : ∀ P : En → Bool, ∀ M : List En, List.Sublist M (τ.L.filter P) → (∀ x ∈ M, P x = true) ∧ (M.map (·.p)).Nodup ∧ ∀ x ∈ M, x ∈ τ.L := fun P M hM =>
              ⟨fun x hx => (List.mem_filter.1 (hM.subset hx)).2, List.Nodup.sublist (List.Sublist.map _ hM) (hf P).1, fun x hx => (hf P).2 x (hM.subset hx)⟩
            have hgen : ∀ M : List En, List.Sublist M (τ.L.filter (fun x => !(decide (a.q = x.p)))) → Tb.Apart ⟨M ++ [(⟨a.q, a.port, 0⟩ : En)], τ.S⟩ := by
              intro M hM
              obtain ⟨h1, h2, h3⟩ := hsub _ M hM
              refine ⟨?_, fun x hx => ?_, h.rng⟩
              · show ((M ++ [(⟨a.q, a.port, 0⟩ : En)]).map (fun x : En => x.p)).Nodup
                rw [List.map_append, List.nodup_append]
                refine ⟨h2, by simp, fun y hy z hz => ?_⟩
                obtain ⟨x, hx, rfl⟩ := List.mem_map.1 hy
                simp at hz
                subst hz
                have := h1 x hx
                intro e
                rw [e] at this
                simp at this
              · rcases List.mem_append.1 hx with hx | hx
                · exact h.free x (h3 x hx)
                · simp at hx; subst hx; exact hm.2
            split
            · exact hgen _ (List.Sublist.refl _)
            · exact hgen _ (List.drop_sublist _ _)
          · exact h
theorem Tb.Apart.runs {τ : Tb} (h : τ.Apart) (l : List FAct) : (τ.runs l).Apart := by
  induction l generalizing τ with
  | nil => exact h
  | cons a r ih => exact ih (h.does a)

/-- The entry of a place. -/
def Tb.ent (τ : Tb) (k : Pl) : Option En := τ.L.find? (fun x => decide (k = x.p))
theorem find_filter (k : Pl) (P : En → Bool) : ∀ {L : List En}, (L.map (·.p)).Nodup → (L.filter P).find? (fun x => decide (k = x.p)) = (L.find? (fun x => decide (k = x.p))).filter P
  | [], _ => rfl
  | y :: r, h => by
    rw [List.map_cons, List.nodup_cons] at h
    have ih := find_filter k P h.2
    rw [List.filter_cons, List.find?_cons]
    by_cases hk : k = y.p
    · have hno : r.find? (fun x => decide (k = x.p)) = none := by
        simp
        intro x hx e
        exact h.1 (List.mem_map.2 ⟨x, hx, by rw [← e, hk]⟩)
      rw [hno] at ih
      cases hp : P y with
      | true => simp [hk, hp, Option.filter]
      | false =>
        simp only [hk, decide_true, Bool.false_eq_true, if_false]
        rw [← hk, ih]
        simp [Option.filter, hp]
    · have hd : decide (k = y.p) = false := by simp [hk]
      rw [hd]
      cases hp : P y with
      | true => simp only [if_true, List.find?_cons, hd]; exact ih
      | false => simp only [Bool.false_eq_true, if_false]; exact ih
theorem ent_mem {τ : Tb} {k : Pl} {x : En} (h : τ.ent k = some x) : x ∈ τ.L ∧ x.p = k :=
  ⟨List.mem_of_find?_eq_some h, by have := List.find?_some h; simpa using (by simpa using this : k = x.p).symm⟩
theorem find_map_older (k : Pl) : ∀ L : List En, (L.map older).find? (fun x => decide (k = x.p)) = (L.find? (fun x => decide (k = x.p))).map older
  | [] => rfl
  | y :: r => by
    rw [List.map_cons, List.find?_cons, List.find?_cons, older_p, find_map_older k r]
    split <;> rfl
/-- A learn that counts. -/
def learns (τ : Tb) (a : FAct) : Prop := a.mayB = true ∧ sget τ.S a.q = none
/-- One act, seen from a place that it neither teaches nor fixes. -/
theorem ent_does {τ : Tb} (h : τ.Apart) (hL : τ.L.length ≤ 32) {a : FAct} {k : Pl} (hd : 0 ≤ a.d) (n1 : ¬ (a.mayB = true ∧ sget τ.S a.q = none ∧ a.q = k)) (n2 : ¬ (a.d = 2 ∧ a.q = k ∧ sget (τ.does a).S k ≠ none)) :
    (a.d = 0 ∧ (τ.does a).ent k = ((τ.ent k).map older).filter (fun x => !(decide (40 ≤ x.age)))) ∨
    (a.d = 1 ∧ (τ.does a).ent k = (τ.ent k).filter (fun x => !(fbit a.ports x.port))) ∨
    (1 < a.d ∧ (τ.does a).ent k = τ.ent k ∧ (∀ x, τ.ent k = some x → sget (τ.does a).S k = none)) ∨
    (1 < a.d ∧ a.mayB = true ∧ τ.L.length = 32 ∧ (τ.L.head?.map (·.p)) = some k ∧ (τ.does a).ent k = none ∧ sget (τ.does a).S k = none) := by
  have hfree : ∀ x, τ.ent k = some x → sget τ.S k = none := fun x hx => by
    obtain ⟨h1, h2⟩ := ent_mem hx
    rw [← h2]; exact h.free x h1
  by_cases d0 : a.d = 0
  · refine .inl ⟨d0, ?_⟩
    have e : τ.does a = τ.tick := by unfold Tb.does; rw [if_pos d0]
    rw [e]
    show ((τ.L.map older).filter _).find? _ = _
    rw [find_filter k _ (by rw [List.map_map]; exact h.nodup), find_map_older]
    rfl
  by_cases d1 : a.d = 1
  · refine .inr (.inl ⟨d1, ?_⟩)
    have e : τ.does a = τ.flush a.ports := by unfold Tb.does; rw [if_neg d0, if_pos d1]
    rw [e]
    exact find_filter k _ h.nodup
  by_cases d2 : a.d = 2
  · refine .inr (.inr (.inl ⟨by omega, ?_⟩))
    have e : τ.does a = (τ.set a.q a.ports).1 := by unfold Tb.does; rw [if_neg d0, if_neg d1, if_pos d2]
    rw [e] at n2 ⊢
    unfold Tb.set at n2 ⊢
    split
    · rename_i hv
      rw [if_pos hv] at n2
      split
      · exact ⟨rfl, hfree⟩
      · rename_i hn
        rw [if_neg hn] at n2
        have hq : ¬ a.q = k := fun e => n2 ⟨d2, e, by show sget (sput τ.S a.q a.ports) k ≠ none; rw [sget_put, if_pos e]; simp⟩
        refine ⟨?_, fun x hx => ?_⟩
        · show (τ.L.filter _).find? _ = _
          rw [find_filter k _ h.nodup]
          show (τ.ent k).filter _ = τ.ent k
          cases hx : τ.ent k with
          | none => rfl
          | some x =>
            obtain ⟨_, h2⟩ := ent_mem hx
            have : ¬ a.q = x.p := by rw [h2]; exact hq
            simp [Option.filter, this]
        · show sget (sput τ.S a.q a.ports) k = none
          rw [sget_put, if_neg hq]; exact hfree x hx
    · exact ⟨rfl, hfree⟩
  by_cases d3 : a.d = 3
  · refine .inr (.inr (.inl ⟨by omega, ?_⟩))
    have e : τ.does a = (τ.unset a.q).1 := by unfold Tb.does; rw [if_neg d0, if_neg d1, if_neg d2, if_pos d3]
    rw [e]
    unfold Tb.unset
    split
    · split
      · exact ⟨rfl, hfree⟩
      · refine ⟨rfl, fun x hx => ?_⟩
        show sget (sdel τ.S a.q) k = none
        rw [sget_del]
        split
        · rfl
        · exact hfree x hx
    · exact ⟨rfl, hfree⟩
  have e : τ.does a = τ.learn a.q a.port := by unfold Tb.does; rw [if_neg d0, if_neg d1, if_neg d2, if_neg d3]
  rw [e]
  unfold Tb.learn
  split
  · rename_i hm
    have hmay : a.mayB = true := (FAct.mayB_iff a).2 ⟨by omega, hm.1⟩
    have hq : ¬ a.q = k := fun e => n1 ⟨hmay, hm.2, e⟩
    have hfk : (τ.L.filter (fun x => !(decide (a.q = x.p)))).find? (fun x => decide (k = x.p)) = τ.ent k := by
      rw [find_filter k _ h.nodup]
      show (τ.ent k).filter _ = τ.ent k
      cases hx : τ.ent k with
      | none => rfl
      | some x =>
        obtain ⟨_, h2⟩ := ent_mem hx
        have : ¬ a.q = x.p := by rw [h2]; exact hq
        simp [Option.filter, this]
    have hnew : ∀ M : List En, (M ++ [(⟨a.q, a.port, 0⟩ : En)]).find? (fun x : En => decide (k = x.p)) = M.find? (fun x : En => decide (k = x.p)) := fun M => by
      rw [List.find?_append]
      have : ¬ k = a.q := fun e => hq e.symm
      cases M.find? (fun x => decide (k = x.p)) <;> simp [this]
    split
    · refine .inr (.inr (.inl ⟨by omega, ?_, hfree⟩))
      show (_ ++ [_]).find? _ = _
      rw [hnew]; exact hfk
    · rename_i hlen
      have hfl : (τ.L.filter (fun x => !(decide (a.q = x.p)))) = τ.L := by
        have h1 := List.length_filter_le (fun x => !(decide (a.q = x.p))) τ.L
        exact (List.filter_sublist (p := fun x : En => !(decide (a.q = x.p)))).eq_of_length (by omega)
      have hl32 : τ.L.length = 32 := by rw [hfl] at hlen; omega
      obtain ⟨y, r, hyr⟩ : ∃ y r, τ.L = y :: r := by
        cases hL' : τ.L with
        | nil => rw [hL'] at hl32; simp at hl32
        | cons y r => exact ⟨y, r, rfl⟩
      by_cases hy : k = y.p
      · refine .inr (.inr (.inr ⟨by omega, hmay, hl32, by rw [hyr]; simp [hy], ?_, ?_⟩))
        · show (_ ++ [_]).find? _ = _
          rw [hnew, hfl, hyr, List.drop_one, List.tail_cons]
          have := h.nodup
          rw [hyr, List.map_cons, List.nodup_cons] at this
          simp
          intro x hx e
          exact this.1 (List.mem_map.2 ⟨x, hx, by rw [← e, hy]⟩)
        · show sget τ.S k = none
          rw [hy]
          exact h.free y (by rw [hyr]; simp)
      · refine .inr (.inr (.inl ⟨by omega, ?_, hfree⟩))
        show (_ ++ [_]).find? _ = _
        rw [hnew, hfl, hyr, List.drop_one, List.tail_cons]
        unfold Tb.ent
        rw [hyr, List.find?_cons]
        have : decide (k = y.p) = false := by simp [hy]
        rw [this]
  · exact .inr (.inr (.inl ⟨by omega, rfl, hfree⟩))
end Go.Proofs.Ytdmjpgefoppfmaa
