/-
  The contracts of queue.Queue's All and Clear. Conditions: no more things than there is room for, and at most 1024.
-/
import Derived.Test.YtifplckiginijaaQueue
namespace Go.Proofs.Ytifplckiginijaa
open Go.RowKit Go.Conc
set_option linter.unusedVariables false

namespace Qi
theorem info : (Try.prog.info? 3).map (fun i => (i.zero, i.size, i.bytes)) = some (some (.int .i64 0), 1, 8) := by kernel_rfl

set_option maxHeartbeats 1000000 in
theorem all_any (q c cap : Nat) (xs : List Value) (w : World) (h : Is w q c cap xs) (hl : xs.length ≤ cap) (hm : xs.length ≤ 1024) (ho : ∀ u ∈ xs, ∃ n, u = .int .i64 n) :
    Calls Try.prog 21 #[.pointer (some ⟨q, 0, Option.none⟩)] w fun e w' => ∃ v, e = .returned v ∧ w'.ownsRow w.heap.size 3 1 v xs.length xs ∧ Is w' q c cap xs ∧ Keeps (At c) w w' := by
  obtain ⟨i0, hi, hz0, hz1, hz2⟩ := info_parts info
  have HO := hid ho
  have HI := hid (And.intro hi (And.intro hz0 (And.intro hz1 hz2)))
  have H := hid h
  have hcl := h.lt.2
  have hql := h.lt.1
  clear ho hi hz0 hz1 hz2 h
  go_enter Try.func21, Try.ntmps21
  go_wp2_with (go_at_call 22; refine (len_any q c cap xs _ H.out).mono ?_; rintro e w' ⟨rfl, rfl⟩)
  go_loopw [3, 8] (fun v i wr => ∃ k : Nat, k ≤ xs.length ∧ i = .int .i64 k ∧ Hid (Is wr q c cap (xs.drop k ++ xs.take k)) ∧ wr.ownsRow w.heap.size 3 1 v k (xs.take k) ∧ Keeps (At c) w wr) (fun _ i _ => xs.length - (intOf i).toNat)
  case atStart => exact ⟨0, Nat.zero_le _, rfl, hid (by simpa using H.out), World.ownsRow_nil _ _ _ _, Keeps.refl _ _⟩
  case round =>
    obtain ⟨k, hk, rfl, hI, hown, hkeep⟩ := hrel
    by_cases hlt : k < xs.length
    · have hd : xs.drop k = xs[k] :: xs.drop (k + 1) := List.drop_eq_getElem_cons hlt
      have ht : xs.take (k + 1) = xs.take k ++ [xs[k]] := (List.take_succ_eq_append_getElem hlt)
      have hone := HO.out xs[k] (List.getElem_mem hlt)
      obtain ⟨x, ex⟩ : ∃ x, xs[k] = x := ⟨_, rfl⟩
      rw [ex] at hd ht hone
      have hI1 := hI.out
      rw [hd] at hI1
      obtain ⟨n, rfl⟩ := hone
      have HP := hid hI1
      have HT := hid ht
      have hlen : (xs.drop (k + 1) ++ xs.take k).length < cap := by simp; omega
      have HL := hid hlen
      clear hd ht hI1 hI ex hlen
      go_wp2_with fail
      refine (pop_some q c cap _ _ _ HP.out).mono ?_; rintro e w1 ⟨rfl, i1, k1⟩
      have own1 := ownsRow_keep hown k1 (fun g hg e => by rw [At] at e; omega)
      have hs1 : w.heap.size ≤ w1.heap.size := Nat.le_trans hkeep.size k1.size
      go_wp2_with (at_builtin; refine wpList_append_own _ rfl _ _ 39 rfl w.heap.size 3 i0 (.int .i64 0) 1 8 Try.underlying39 HI.out.1 HI.out.2.1 HI.out.2.2.1 HI.out.2.2.2 rfl (by decide) _ _ _ rfl (own1.alloc _) ⟨w1.heap.size, 0, Option.none⟩ 1 1 [.int .i64 n] rfl rfl ?c1 ?c2 ?c3 ?c4 ?c5 ?_)
      case c1 => exact cell_one_new _ _ _
      case c2 => simp [Value.oneCell']
      case c3 => unfold maxLen; omega
      case c4 => omega
      case c5 => simp; omega
      intro v' w2 own2 hgrow _
      have hb := hown.lt
      have HB := hid hb
      have k2 : Keeps (fun g => u3.ownBlock = some g) w1 w2 := ((Keeps.refl _ _).alloc _).grown hgrow (fun g hg _ => hg)
      have i2 : Is w2 q c cap (xs.drop (k + 1) ++ xs.take k) := i1.keep k2 (fun e => by have := (HB.out q e).1; omega) (fun e => by have := (HB.out c e).1; omega)
      have I2 := hid i2
      have hkw : Keeps (At c) w w2 := (hkeep.trans k1).trans' k2 (fun x hx e => by have := (HB.out x e).1; omega)
      rw [← HT.out] at own2
      clear hb i2 i1 own1 hown hgrow
      go_wp2_with fail
      refine (push_room q c cap _ _ _ I2.out HL.out).mono ?_; rintro e w3 ⟨rfl, i3, k3⟩
      go_wp2_with fail
      rw [List.append_assoc, ← HT.out] at i3
      go_roundw
      case rel => exact ⟨k + 1, by omega, by go_num, i3, ownsRow_keep own2 k3 (fun g hg e => by rw [At] at e; omega), hkw.trans k3⟩
      case measure => simp only [intOf]; omega
    · obtain rfl : k = xs.length := by omega
      go_wp2
      go_ret
      exact ⟨_, rfl, by simpa using hown, by simpa using hI.out, hkeep⟩

set_option maxHeartbeats 1000000 in
theorem clear_any (q c cap : Nat) (xs : List Value) (w : World) (h : Is w q c cap xs) (hm : xs.length ≤ 1024) :
    Calls Try.prog 17 #[.pointer (some ⟨q, 0, Option.none⟩)] w fun e w' => e = .returned (.int .i64 xs.length) ∧ Is w' q c cap [] ∧ Keeps (At c) w w' := by
  have H := hid h
  clear h
  go_enter Try.func17, Try.ntmps17
  go_wp2
  go_loopw [3] (fun i wr => ∃ k : Nat, k ≤ xs.length ∧ i = .int .i64 k ∧ Hid (Is wr q c cap (xs.drop k)) ∧ Keeps (At c) w wr) (fun i _ => xs.length - (intOf i).toNat)
  case atStart => exact ⟨0, Nat.zero_le _, rfl, hid (by simpa using H.out), Keeps.refl _ _⟩
  case round =>
    obtain ⟨k, hk, rfl, hI, hkeep⟩ := hrel
    by_cases hlt : k < xs.length
    · have hI1 := hI.out
      rw [List.drop_eq_getElem_cons hlt] at hI1
      have HP := hid hI1
      clear hI1
      go_wp2_with fail
      refine (pop_some q c cap _ _ _ HP.out).mono ?_; rintro e w1 ⟨rfl, i1, k1⟩
      go_wp2_with fail
      go_roundw
      case rel => exact ⟨k + 1, by omega, by go_num, i1, hkeep.trans k1⟩
      case measure => simp only [intOf]; omega
    · obtain rfl : k = xs.length := by omega
      have hI1 := hI.out
      rw [List.drop_of_length_le (Nat.le_refl _)] at hI1
      have HP := hid hI1
      clear hI1
      go_wp2_with fail
      refine (pop_none q c cap _ HP.out).mono ?_; rintro e w1 ⟨rfl, rfl⟩
      go_wp2_with fail
      go_ret
      exact ⟨rfl, HP.out, hkeep⟩
end Qi

namespace Qs
theorem info : (Try.prog.info? 9).map (fun i => (i.zero, i.size, i.bytes)) = some (some (.string ⟨#[]⟩), 1, 16) := by kernel_rfl

set_option maxHeartbeats 1000000 in
theorem all_any (q c cap : Nat) (xs : List Value) (w : World) (h : Is w q c cap xs) (hl : xs.length ≤ cap) (hm : xs.length ≤ 1024) (ho : ∀ u ∈ xs, ∃ n, u = .string n) :
    Calls Try.prog 10 #[.pointer (some ⟨q, 0, Option.none⟩)] w fun e w' => ∃ v, e = .returned v ∧ w'.ownsRow w.heap.size 9 1 v xs.length xs ∧ Is w' q c cap xs ∧ Keeps (At c) w w' := by
  obtain ⟨i0, hi, hz0, hz1, hz2⟩ := info_parts info
  have HO := hid ho
  have HI := hid (And.intro hi (And.intro hz0 (And.intro hz1 hz2)))
  have H := hid h
  have hcl := h.lt.2
  have hql := h.lt.1
  clear ho hi hz0 hz1 hz2 h
  go_enter Try.func10, Try.ntmps10
  go_wp2_with (go_at_call 12; refine (len_any q c cap xs _ H.out).mono ?_; rintro e w' ⟨rfl, rfl⟩)
  go_loopw [3, 8] (fun v i wr => ∃ k : Nat, k ≤ xs.length ∧ i = .int .i64 k ∧ Hid (Is wr q c cap (xs.drop k ++ xs.take k)) ∧ wr.ownsRow w.heap.size 9 1 v k (xs.take k) ∧ Keeps (At c) w wr) (fun _ i _ => xs.length - (intOf i).toNat)
  case atStart => exact ⟨0, Nat.zero_le _, rfl, hid (by simpa using H.out), World.ownsRow_nil _ _ _ _, Keeps.refl _ _⟩
  case round =>
    obtain ⟨k, hk, rfl, hI, hown, hkeep⟩ := hrel
    by_cases hlt : k < xs.length
    · have hd : xs.drop k = xs[k] :: xs.drop (k + 1) := List.drop_eq_getElem_cons hlt
      have ht : xs.take (k + 1) = xs.take k ++ [xs[k]] := (List.take_succ_eq_append_getElem hlt)
      have hone := HO.out xs[k] (List.getElem_mem hlt)
      obtain ⟨x, ex⟩ : ∃ x, xs[k] = x := ⟨_, rfl⟩
      rw [ex] at hd ht hone
      have hI1 := hI.out
      rw [hd] at hI1
      obtain ⟨n, rfl⟩ := hone
      have HP := hid hI1
      have HT := hid ht
      have hlen : (xs.drop (k + 1) ++ xs.take k).length < cap := by simp; omega
      have HL := hid hlen
      clear hd ht hI1 hI ex hlen
      go_wp2_with fail
      refine (pop_some q c cap _ _ _ HP.out).mono ?_; rintro e w1 ⟨rfl, i1, k1⟩
      have own1 := ownsRow_keep hown k1 (fun g hg e => by rw [At] at e; omega)
      have hs1 : w.heap.size ≤ w1.heap.size := Nat.le_trans hkeep.size k1.size
      go_wp2_with (at_builtin; refine wpList_append_own _ rfl _ _ 22 rfl w.heap.size 9 i0 (.string ⟨#[]⟩) 1 16 Try.underlying22 HI.out.1 HI.out.2.1 HI.out.2.2.1 HI.out.2.2.2 rfl (by decide) _ _ _ rfl (own1.alloc _) ⟨w1.heap.size, 0, Option.none⟩ 1 1 [.string n] rfl rfl ?c1 ?c2 ?c3 ?c4 ?c5 ?_)
      case c1 => exact cell_one_new _ _ _
      case c2 => simp [Value.oneCell']
      case c3 => unfold maxLen; omega
      case c4 => omega
      case c5 => simp; omega
      intro v' w2 own2 hgrow _
      have hb := hown.lt
      have HB := hid hb
      have k2 : Keeps (fun g => u3.ownBlock = some g) w1 w2 := ((Keeps.refl _ _).alloc _).grown hgrow (fun g hg _ => hg)
      have i2 : Is w2 q c cap (xs.drop (k + 1) ++ xs.take k) := i1.keep k2 (fun e => by have := (HB.out q e).1; omega) (fun e => by have := (HB.out c e).1; omega)
      have I2 := hid i2
      have hkw : Keeps (At c) w w2 := (hkeep.trans k1).trans' k2 (fun x hx e => by have := (HB.out x e).1; omega)
      rw [← HT.out] at own2
      clear hb i2 i1 own1 hown hgrow
      go_wp2_with fail
      refine (push_room q c cap _ _ _ I2.out HL.out).mono ?_; rintro e w3 ⟨rfl, i3, k3⟩
      go_wp2_with fail
      rw [List.append_assoc, ← HT.out] at i3
      go_roundw
      case rel => exact ⟨k + 1, by omega, by go_num, i3, ownsRow_keep own2 k3 (fun g hg e => by rw [At] at e; omega), hkw.trans k3⟩
      case measure => simp only [intOf]; omega
    · obtain rfl : k = xs.length := by omega
      go_wp2
      go_ret
      exact ⟨_, rfl, by simpa using hown, by simpa using hI.out, hkeep⟩
end Qs
end Go.Proofs.Ytifplckiginijaa
