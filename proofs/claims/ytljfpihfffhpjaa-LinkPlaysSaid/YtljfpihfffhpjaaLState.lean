/-
  A link's state as plain data (layer 23), how acts turn it, and that link.Link and the document's link both follow it. Conditions: the numbers are little.
-/
import Derived.Test.YtljfpihfffhpjaaRDown
import Derived.Test.YtljfpihfffhpjaaRSend2
namespace Go.Proofs.Ytljfpihfffhpjaa
open Go.RowKit Go.Conc
set_option linter.unusedVariables false

structure LS where
  u : Bool
  d0 : Int
  l0 : Int
  xs0 : List ByteArray
  d1 : Int
  l1 : Int
  xs1 : List ByteArray
def strsV (l : List ByteArray) : List Value := l.map Value.string
theorem strsV_len (l : List ByteArray) : (strsV l).length = l.length := by simp [strsV]
theorem strsV_one (l : List ByteArray) : ∀ u ∈ strsV l, u.oneCell' = true := by
  intro u hu; simp only [strsV, List.mem_map] at hu; obtain ⟨a, _, rfl⟩ := hu; rfl
theorem strsV_push (l : List ByteArray) (s : ByteArray) : strsV l ++ [.string s] = strsV (l ++ [s]) := by simp [strsV]

def LS.come (σ : LS) (e : Int) : LS × ByteArray × Int :=
  if e = 0 then match σ.xs0 with
    | s :: ys => ({ σ with xs0 := ys }, s, 0)
    | [] => (σ, ⟨#[]⟩, 7)
  else if e = 1 then match σ.xs1 with
    | s :: ys => ({ σ with xs1 := ys }, s, 0)
    | [] => (σ, ⟨#[]⟩, 7)
  else (σ, ⟨#[]⟩, 2)
def LS.lose (σ : LS) (e : Int) : LS × Int :=
  if e = 0 then match σ.xs0 with
    | s :: ys => ({ σ with xs0 := ys, l0 := σ.l0 + 1 }, 0)
    | [] => (σ, 7)
  else if e = 1 then match σ.xs1 with
    | s :: ys => ({ σ with xs1 := ys, l1 := σ.l1 + 1 }, 0)
    | [] => (σ, 7)
  else (σ, 2)
def LS.down (σ : LS) : LS × Int :=
  ({ σ with u := false, l0 := σ.l0 + (strsV σ.xs0).length, xs0 := [], l1 := σ.l1 + (strsV σ.xs1).length, xs1 := [] }, ((strsV σ.xs0).length + (strsV σ.xs1).length : Nat))
def LS.send (σ : LS) (e : Int) (s : ByteArray) : LS × Int :=
  if e = 0 then
    if 1522 < s.size then (σ, 2) else if σ.u = false then (σ, 9) else if (strsV σ.xs0).length < 64 then ({ σ with xs0 := σ.xs0 ++ [s] }, 0) else ({ σ with d0 := σ.d0 + 1 }, 6)
  else if e = 1 then
    if 1522 < s.size then (σ, 2) else if σ.u = false then (σ, 9) else if (strsV σ.xs1).length < 64 then ({ σ with xs1 := σ.xs1 ++ [s] }, 0) else ({ σ with d1 := σ.d1 + 1 }, 6)
  else (σ, 2)

/-- The numbers are little. -/
structure LS.Ok (σ : LS) (k : Nat) : Prop where
  n0 : (strsV σ.xs0).length ≤ 64
  n1 : (strsV σ.xs1).length ≤ 64
  d0 : 0 ≤ σ.d0 ∧ σ.d0 ≤ k
  d1 : 0 ≤ σ.d1 ∧ σ.d1 ≤ k
  l0 : 0 ≤ σ.l0 ∧ σ.l0 ≤ 64 * k
  l1 : 0 ≤ σ.l1 ∧ σ.l1 ≤ 64 * k
theorem LS.Ok.more {σ : LS} {k : Nat} (h : σ.Ok k) : σ.Ok (k + 1) := ⟨h.n0, h.n1, by have := h.d0; omega, by have := h.d1; omega, by have := h.l0; omega, by have := h.l1; omega⟩
theorem LS.Ok.up {σ : LS} {k : Nat} (h : σ.Ok k) (b : Bool) : ({ σ with u := b } : LS).Ok k := ⟨h.n0, h.n1, h.d0, h.d1, h.l0, h.l1⟩
theorem LS.Ok.come {σ : LS} {k : Nat} (h : σ.Ok k) (e : Int) : (σ.come e).1.Ok (k + 1) := by
  obtain ⟨a1, a2, a3, a4, a5, a6⟩ := h.more
  unfold LS.come
  split
  · split
    · rename_i hx
      rw [hx] at a1
      exact ⟨by simp [strsV] at a1 ⊢; omega, a2, a3, a4, a5, a6⟩
    · exact ⟨a1, a2, a3, a4, a5, a6⟩
  · split
    · split
      · rename_i hx
        rw [hx] at a2
        exact ⟨a1, by simp [strsV] at a2 ⊢; omega, a3, a4, a5, a6⟩
      · exact ⟨a1, a2, a3, a4, a5, a6⟩
    · exact ⟨a1, a2, a3, a4, a5, a6⟩
theorem LS.Ok.lose {σ : LS} {k : Nat} (h : σ.Ok k) (e : Int) : (σ.lose e).1.Ok (k + 1) := by
  obtain ⟨a1, a2, a3, a4, a5, a6⟩ := h.more
  have b5 := h.l0
  have b6 := h.l1
  unfold LS.lose
  split
  · split
    · rename_i hx
      rw [hx] at a1
      exact ⟨by simp [strsV] at a1 ⊢; omega, a2, a3, a4, by show 0 ≤ σ.l0 + 1 ∧ σ.l0 + 1 ≤ _; omega, a6⟩
    · exact ⟨a1, a2, a3, a4, a5, a6⟩
  · split
    · split
      · rename_i hx
        rw [hx] at a2
        exact ⟨a1, by simp [strsV] at a2 ⊢; omega, a3, a4, a5, by show 0 ≤ σ.l1 + 1 ∧ σ.l1 + 1 ≤ _; omega⟩
      · exact ⟨a1, a2, a3, a4, a5, a6⟩
    · exact ⟨a1, a2, a3, a4, a5, a6⟩
theorem LS.Ok.down {σ : LS} {k : Nat} (h : σ.Ok k) : σ.down.1.Ok (k + 1) := by
  have b1 := h.n0
  have b2 := h.n1
  have b5 := h.l0
  have b6 := h.l1
  obtain ⟨a1, a2, a3, a4, a5, a6⟩ := h.more
  exact ⟨by simp [LS.down, strsV], by simp [LS.down, strsV], a3, a4, by show 0 ≤ σ.l0 + _ ∧ σ.l0 + _ ≤ _; omega, by show 0 ≤ σ.l1 + _ ∧ σ.l1 + _ ≤ _; omega⟩
theorem LS.Ok.send {σ : LS} {k : Nat} (h : σ.Ok k) (e : Int) (s : ByteArray) : (σ.send e s).1.Ok (k + 1) := by
  have b3 := h.d0
  have b4 := h.d1
  obtain ⟨a1, a2, a3, a4, a5, a6⟩ := h.more
  unfold LS.send
  split
  · split
    · exact ⟨a1, a2, a3, a4, a5, a6⟩
    · split
      · exact ⟨a1, a2, a3, a4, a5, a6⟩
      · split
        · rename_i hl
          exact ⟨by simp [strsV] at hl ⊢; omega, a2, a3, a4, a5, a6⟩
        · exact ⟨a1, a2, by show 0 ≤ σ.d0 + 1 ∧ σ.d0 + 1 ≤ _; omega, a4, a5, a6⟩
  · split
    · split
      · exact ⟨a1, a2, a3, a4, a5, a6⟩
      · split
        · exact ⟨a1, a2, a3, a4, a5, a6⟩
        · split
          · rename_i hl
            exact ⟨a1, by simp [strsV] at hl ⊢; omega, a3, a4, a5, a6⟩
          · exact ⟨a1, a2, a3, by show 0 ≤ σ.d1 + 1 ∧ σ.d1 + 1 ≤ _; omega, a5, a6⟩
    · exact ⟨a1, a2, a3, a4, a5, a6⟩

/-! The program's link. -/
abbrev LkS (w : World) (x q0 c0 q1 c1 : Nat) (σ : LS) : Prop := Lk w x σ.u q0 c0 σ.d0 σ.l0 (strsV σ.xs0) q1 c1 σ.d1 σ.l1 (strsV σ.xs1)
theorem Keeps.anyOwn {S : Nat → Prop} {w w' : World} (k : Keeps Nil w w') : Keeps S w w' := k.mono (fun _ e => e.elim)

theorem p_come {w : World} {x q0 c0 q1 c1 : Nat} {σ : LS} (h : LkS w x q0 c0 q1 c1 σ) (e : Int) :
    Calls Try.prog 9 #[.pointer (some ⟨x, 0, Option.none⟩), .int .i64 e] w fun ee w' => ee = .returned (.tuple #[.string (σ.come e).2.1, .int .i64 (σ.come e).2.2]) ∧ LkS w' x q0 c0 q1 c1 (σ.come e).1 ∧ Keeps (Own x c0 c1) w w' := by
  by_cases h0 : e = 0
  · subst h0
    rcases hx : σ.xs0 with _ | ⟨s, ys⟩
    · have e1 : σ.come 0 = (σ, ⟨#[]⟩, 7) := by simp [LS.come, hx]
      rw [e1]
      refine (come0_none _ _ _ _ _ _ _ _ _ _ _ _ _ h (by rw [hx]; rfl)).mono ?_
      rintro ee w' ⟨rfl, k⟩
      exact ⟨rfl, h.keepN k, k.anyOwn⟩
    · have e1 : σ.come 0 = ({ σ with xs0 := ys }, s, 0) := by simp [LS.come, hx]
      rw [e1]
      refine (come0_some _ _ _ _ _ _ _ _ _ _ _ _ _ h s (strsV ys) (by rw [hx]; rfl)).mono ?_
      rintro ee w' ⟨rfl, i, k⟩
      exact ⟨rfl, i, k⟩
  · by_cases h1 : e = 1
    · subst h1
      rcases hx : σ.xs1 with _ | ⟨s, ys⟩
      · have e1 : σ.come 1 = (σ, ⟨#[]⟩, 7) := by simp [LS.come, hx]
        rw [e1]
        refine (come1_none _ _ _ _ _ _ _ _ _ _ _ _ _ h (by rw [hx]; rfl)).mono ?_
        rintro ee w' ⟨rfl, k⟩
        exact ⟨rfl, h.keepN k, k.anyOwn⟩
      · have e1 : σ.come 1 = ({ σ with xs1 := ys }, s, 0) := by simp [LS.come, hx]
        rw [e1]
        refine (come1_some _ _ _ _ _ _ _ _ _ _ _ _ _ h s (strsV ys) (by rw [hx]; rfl)).mono ?_
        rintro ee w' ⟨rfl, i, k⟩
        exact ⟨rfl, i, k⟩
    · have e1 : σ.come e = (σ, ⟨#[]⟩, 2) := by simp [LS.come, h0, h1]
      rw [e1]
      refine (come_out x e (by omega) w).mono ?_
      rintro ee w' ⟨rfl, k⟩
      exact ⟨rfl, h.keepN k, k.anyOwn⟩

theorem p_lose {w : World} {x q0 c0 q1 c1 : Nat} {σ : LS} {k : Nat} (h : LkS w x q0 c0 q1 c1 σ) (ok : σ.Ok k) (hk : k ≤ 300) (e : Int) :
    Calls Try.prog 10 #[.pointer (some ⟨x, 0, Option.none⟩), .int .i64 e] w fun ee w' => ee = .returned (.int .i64 (σ.lose e).2) ∧ LkS w' x q0 c0 q1 c1 (σ.lose e).1 ∧ Keeps (Own x c0 c1) w w' := by
  have b5 := ok.l0
  have b6 := ok.l1
  by_cases h0 : e = 0
  · subst h0
    rcases hx : σ.xs0 with _ | ⟨s, ys⟩
    · have e1 : σ.lose 0 = (σ, 7) := by simp [LS.lose, hx]
      rw [e1]
      refine (lose0_none _ _ _ _ _ _ _ _ _ _ _ _ _ h (by rw [hx]; rfl)).mono ?_
      rintro ee w' ⟨rfl, rfl⟩
      exact ⟨rfl, h, Keeps.refl _ _⟩
    · have e1 : σ.lose 0 = ({ σ with xs0 := ys, l0 := σ.l0 + 1 }, 0) := by simp [LS.lose, hx]
      rw [e1]
      refine (lose0_some _ _ _ _ _ _ _ _ _ _ _ _ _ h (.string s) (strsV ys) (by rw [hx]; rfl) (by omega) (by omega)).mono ?_
      rintro ee w' ⟨rfl, i, k⟩
      exact ⟨rfl, i, k⟩
  · by_cases h1 : e = 1
    · subst h1
      rcases hx : σ.xs1 with _ | ⟨s, ys⟩
      · have e1 : σ.lose 1 = (σ, 7) := by simp [LS.lose, hx]
        rw [e1]
        refine (lose1_none _ _ _ _ _ _ _ _ _ _ _ _ _ h (by rw [hx]; rfl)).mono ?_
        rintro ee w' ⟨rfl, rfl⟩
        exact ⟨rfl, h, Keeps.refl _ _⟩
      · have e1 : σ.lose 1 = ({ σ with xs1 := ys, l1 := σ.l1 + 1 }, 0) := by simp [LS.lose, hx]
        rw [e1]
        refine (lose1_some _ _ _ _ _ _ _ _ _ _ _ _ _ h (.string s) (strsV ys) (by rw [hx]; rfl) (by omega) (by omega)).mono ?_
        rintro ee w' ⟨rfl, i, k⟩
        exact ⟨rfl, i, k⟩
    · have e1 : σ.lose e = (σ, 2) := by simp [LS.lose, h0, h1]
      rw [e1]
      refine (lose_out x e (by omega) w).mono ?_
      rintro ee w' ⟨rfl, k⟩
      exact ⟨rfl, h.keepN k, k.anyOwn⟩

theorem p_down {w : World} {x q0 c0 q1 c1 : Nat} {σ : LS} {k : Nat} (h : LkS w x q0 c0 q1 c1 σ) (ok : σ.Ok k) (hk : k ≤ 300) :
    Calls Try.prog 12 #[.pointer (some ⟨x, 0, Option.none⟩)] w fun ee w' => ee = .returned (.int .i64 σ.down.2) ∧ LkS w' x q0 c0 q1 c1 σ.down.1 ∧ Keeps (Own x c0 c1) w w' := by
  have b5 := ok.l0
  have b6 := ok.l1
  exact down_any _ _ _ _ _ _ _ _ _ _ _ _ _ h ok.n0 ok.n1 (by omega) (by omega) (by omega) (by omega)

theorem p_up {w : World} {x q0 c0 q1 c1 : Nat} {σ : LS} (h : LkS w x q0 c0 q1 c1 σ) :
    Calls Try.prog 11 #[.pointer (some ⟨x, 0, Option.none⟩)] w fun ee w' => ee = .returned (.tuple #[]) ∧ LkS w' x q0 c0 q1 c1 { σ with u := true } ∧ Keeps (Own x c0 c1) w w' :=
  up_any _ _ _ _ _ _ _ _ _ _ _ _ _ h

theorem p_send {w : World} {x q0 c0 q1 c1 : Nat} {σ : LS} {k : Nat} (h : LkS w x q0 c0 q1 c1 σ) (ok : σ.Ok k) (hk : k ≤ 300) (e : Int) (s : ByteArray) :
    Calls Try.prog 13 #[.pointer (some ⟨x, 0, Option.none⟩), .int .i64 e, .string s] w fun ee w' => ee = .returned (.int .i64 (σ.send e s).2) ∧ LkS w' x q0 c0 q1 c1 (σ.send e s).1 ∧ Keeps (Own x c0 c1) w w' := by
  have b3 := ok.d0
  have b4 := ok.d1
  by_cases h0 : e = 0
  · subst h0
    by_cases hs : 1522 < s.size
    · have e1 : σ.send 0 s = (σ, 2) := by simp [LS.send, hs]
      rw [e1]
      refine (send0_great _ _ _ _ _ _ _ _ _ _ _ _ _ h s hs).mono ?_
      rintro ee w' ⟨rfl, k⟩
      exact ⟨rfl, h.keepN k, k.anyOwn⟩
    · by_cases hu : σ.u = false
      · have e1 : σ.send 0 s = (σ, 9) := by simp [LS.send, hs, hu]
        rw [e1]
        refine (send0_down _ _ _ _ _ _ _ _ _ _ _ _ _ h s (by omega) hu).mono ?_
        rintro ee w' ⟨rfl, k⟩
        exact ⟨rfl, h.keepN k, k.anyOwn⟩
      · have hu' : σ.u = true := by simpa using hu
        by_cases hl : (strsV σ.xs0).length < 64
        · have e1 : σ.send 0 s = ({ σ with xs0 := σ.xs0 ++ [s] }, 0) := by simp [LS.send, hs, hu', hl]
          rw [e1]
          refine (send0_room _ _ _ _ _ _ _ _ _ _ _ _ _ h s (by omega) hu' hl).mono ?_
          rintro ee w' ⟨rfl, i, k⟩
          rw [strsV_push] at i
          exact ⟨rfl, i, k⟩
        · have e1 : σ.send 0 s = ({ σ with d0 := σ.d0 + 1 }, 6) := by simp [LS.send, hs, hu', hl]
          rw [e1]
          refine (send0_full _ _ _ _ _ _ _ _ _ _ _ _ _ h s (by omega) hu' (by omega) (by omega) (by omega)).mono ?_
          rintro ee w' ⟨rfl, i, k⟩
          exact ⟨rfl, i, k⟩
  · by_cases h1 : e = 1
    · subst h1
      by_cases hs : 1522 < s.size
      · have e1 : σ.send 1 s = (σ, 2) := by simp [LS.send, hs]
        rw [e1]
        refine (send1_great _ _ _ _ _ _ _ _ _ _ _ _ _ h s hs).mono ?_
        rintro ee w' ⟨rfl, k⟩
        exact ⟨rfl, h.keepN k, k.anyOwn⟩
      · by_cases hu : σ.u = false
        · have e1 : σ.send 1 s = (σ, 9) := by simp [LS.send, hs, hu]
          rw [e1]
          refine (send1_down _ _ _ _ _ _ _ _ _ _ _ _ _ h s (by omega) hu).mono ?_
          rintro ee w' ⟨rfl, k⟩
          exact ⟨rfl, h.keepN k, k.anyOwn⟩
        · have hu' : σ.u = true := by simpa using hu
          by_cases hl : (strsV σ.xs1).length < 64
          · have e1 : σ.send 1 s = ({ σ with xs1 := σ.xs1 ++ [s] }, 0) := by simp [LS.send, hs, hu', hl]
            rw [e1]
            refine (send1_room _ _ _ _ _ _ _ _ _ _ _ _ _ h s (by omega) hu' hl).mono ?_
            rintro ee w' ⟨rfl, i, k⟩
            rw [strsV_push] at i
            exact ⟨rfl, i, k⟩
          · have e1 : σ.send 1 s = ({ σ with d1 := σ.d1 + 1 }, 6) := by simp [LS.send, hs, hu', hl]
            rw [e1]
            refine (send1_full _ _ _ _ _ _ _ _ _ _ _ _ _ h s (by omega) hu' (by omega) (by omega) (by omega)).mono ?_
            rintro ee w' ⟨rfl, i, k⟩
            exact ⟨rfl, i, k⟩
    · have e1 : σ.send e s = (σ, 2) := by simp [LS.send, h0, h1]
      rw [e1]
      refine (send_out x e (by omega) w s).mono ?_
      rintro ee w' ⟨rfl, k⟩
      exact ⟨rfl, h.keepN k, k.anyOwn⟩
end Go.Proofs.Ytljfpihfffhpjaa
