/-
  QueueKeeps walked. Conditions: the acts lie in the slice's cells.
-/
import Derived.Test.YtifplckiginijaaQWakes
import Derived.Test.YtifplckiginijaaOpen
namespace Go.Proofs.Ytifplckiginijaa
open Go.RowKit Go.Conc
set_option linter.unusedVariables false

/-- The acts of a slice lie in its cells. -/
def Acts (w : World) (b off n : Nat) (l : List (Int × Int)) : Prop :=
  l.length = n ∧ ∀ i a, l[i]? = some a → w.cell? ⟨b, off + i * 2, Option.none⟩ = some (.int .u8 a.1) ∧ w.cell? ⟨b, off + i * 2 + 1, Option.none⟩ = some (.int .i64 a.2)

def ints (l : List Int) : List Value := l.map (Value.int .i64)
theorem ints_len (l : List Int) : (ints l).length = l.length := by simp [ints]

structure KRel (w : World) (B q c R : Nat) (put : List Int) (t : Nat) (v : Value) (wr : World) : Prop where
  keeps : Keeps Nil w wr
  is : Qi.Is wr q c R (ints (put.drop t))
  own : wr.ownsRow B 3 1 v put.length (ints put)
  room : put.length - t ≤ R
  size : B ≤ wr.heap.size

theorem len_eq {q c cap m : Nat} {xs : List Value} {w : World} (h : Qi.Is w q c cap xs) (hm : xs.length = m) :
    Calls Try.prog 22 #[.pointer (some ⟨q, 0, Option.none⟩)] w fun e w' => e = .returned (.int .i64 m) ∧ w = w' := by
  subst hm; exact Qi.len_any q c cap xs w h
theorem room_eq {q c cap m : Nat} {xs : List Value} {w : World} (h : Qi.Is w q c cap xs) (hm : xs.length = m) (hl : m ≤ cap) (hc : cap ≤ 1024) :
    Calls Try.prog 23 #[.pointer (some ⟨q, 0, Option.none⟩)] w fun e w' => e = .returned (.int .i64 ((cap : Int) - m)) ∧ Keeps Nil w w' := by
  subst hm; exact Qi.room_any q c cap xs w h hl hc
theorem clear_eq {q c cap m : Nat} {xs : List Value} {w : World} (h : Qi.Is w q c cap xs) (hm : xs.length = m) (hl : m ≤ 1024) :
    Calls Try.prog 17 #[.pointer (some ⟨q, 0, Option.none⟩)] w fun e w' => e = .returned (.int .i64 m) ∧ Qi.Is w' q c cap [] ∧ Keeps (At c) w w' := by
  subst hm; exact Qi.clear_any q c cap xs w h hl

set_option maxHeartbeats 400000 in
theorem keeps_great (R : Nat) (p : Option Addr) (len cap : Nat) (w : World) (hm : len ≤ 9223372036854775807) (h : 300 < len ∨ R = 0) :
    Calls Try.prog 6 #[.int .u8 R, .slice p len cap] w fun e w' => e = .returned (.bool true) ∧ Keeps Nil w w' := by
  by_cases h1 : 300 < len
  · clear h
    go_enter Try.func6, Try.ntmps6
    go_wp2_with (go_at_call 7; refine (wakes_any _).mono ?_; rintro e w1 ⟨rfl, k1⟩)
    go_ret
    exact ⟨rfl, k1⟩
  · obtain rfl : R = 0 := by omega
    clear h
    go_enter Try.func6, Try.ntmps6
    go_wp2_with (go_at_call 7; refine (wakes_any _).mono ?_; rintro e w1 ⟨rfl, k1⟩)
    go_ret
    exact ⟨rfl, k1⟩

theorem krel_close {w : World} {B q c R len k P m : Nat} {pp : Option Addr} {cc : Nat} {w2 w5 : World} {xs : List Value} (put1 : List Int) (t1 : Nat) (hk : Keeps Nil w w2) (hI : Qi.Is w2 q c R xs)
    (ho : w2.ownsRow B 3 1 (.slice pp P cc) P (ints put1)) (k5 : Keeps Nil w2 w5) (hx : xs.length = m) (hp : put1.length = P) (hm : m ≤ R) (h1 : k + 1 ≤ len) (h2 : P ≤ k + 1) (h3 : t1 ≤ P) (h4 : B ≤ w2.heap.size) (hxs : xs = ints (put1.drop t1) := by rfl) :
    ∃ (k' : Nat) (put : List Int) (at_ : Nat) (pp' : Option Addr) (cc' : Nat), Value.slice pp P cc = .slice pp' put.length cc' ∧ Value.int .i64 ((k : Int) + 1) = .int .i64 k' ∧ Value.int .i64 (t1 : Int) = .int .i64 at_ ∧ k' ≤ len ∧ put.length ≤ k' ∧ at_ ≤ put.length ∧ KRel w B q c R put at_ (.slice pp' put.length cc') w5 := by
  subst hp
  subst hxs
  exact ⟨k + 1, put1, t1, pp, cc, rfl, by go_num, rfl, h1, h2, h3, hk.thenNil k5, hI.keep k5 (fun h => h) (fun h => h), ownsRow_keep ho k5 (fun g hg h => h), by rw [ints_len, List.length_drop] at hx; omega, Nat.le_trans h4 k5.size⟩

set_option maxRecDepth 100000 in
set_option maxHeartbeats 8000000 in
theorem keeps_any (R : Nat) (p : Option Addr) (len cap : Nat) (l : List (Int × Int)) (w : World) (hl : len ≤ 300) (hcap : len ≤ cap) (h1 : 1 ≤ R) (h2 : R ≤ 255)
    (hp : 0 < len → ∃ b off, p = some ⟨b, off, Option.none⟩ ∧ b < w.heap.size ∧ Acts w b off len l) :
    Calls Try.prog 6 #[.int .u8 R, .slice p len cap] w fun e w' => e = .returned (.bool true) ∧ Keeps Nil w w' := by
  have HP := hid hp
  clear hp
  obtain ⟨i0, hi, hz0, hz1, hz2⟩ := info_parts Qi.info
  have HI := hid (And.intro hi (And.intro hz0 (And.intro hz1 hz2)))
  clear hi hz0 hz1 hz2
  have hR0 : ((R : Int) == 0) = false := by rw [beq_eq_false_iff_ne]; omega
  have hl0 : decide (300 < (len : Int)) = false := by simp; omega
  go_enter Try.func6, Try.ntmps6
  go_wp2_with fail
  refine (Qi.new_ok R w h1 (by omega)).mono ?_; rintro e w1 ⟨q, c, rfl, i1, hq, hc, k1⟩
  have hlt := i1.lt
  go_wp2_with fail
  go_loopw [7, 8, 9] (fun v t i wr => ∃ (k : Nat) (put : List Int) (at_ : Nat) (pp : Option Addr) (cc : Nat), v = .slice pp put.length cc ∧ i = .int .i64 k ∧ t = .int .i64 at_ ∧ k ≤ len ∧ put.length ≤ k ∧ at_ ≤ put.length ∧ KRel w w1.heap.size q c R put at_ (.slice pp put.length cc) wr) (fun _ _ i _ => len - (intOf i).toNat)
  case atStart => exact ⟨0, [], 0, Option.none, 0, rfl, rfl, rfl, Nat.zero_le _, Nat.le_refl _, Nat.le_refl _, k1, i1, World.ownsRow_nil _ _ _ _, Nat.zero_le _, Nat.le_refl _⟩
  case round =>
    obtain ⟨k, put, t, pp, cc, rfl, rfl, rfl, hk, hput, ht, hR⟩ := hrel
    obtain ⟨hkeep, hI, hown, hroom, hsz⟩ := hR
    by_cases hlt : k < len
    · obtain ⟨b, off, rfl, hb, hlen, hA⟩ := HP.out (by omega)
      obtain ⟨a, ha⟩ : ∃ a, l[k]? = some a := ⟨_, List.getElem?_eq_getElem (by omega)⟩
      have hc0 := (hA k a ha).1
      rw [← hkeep.cell (p := ⟨b, off + k * 2, Option.none⟩) hb (fun h => h)] at hc0
      obtain ⟨d, n⟩ := a
      simp only at hc0
      clear hA ha
      have HII := hid hI
      have HH := hid hown
      have hrd := fun (x : Int) (hx : put[t]? = some x) => ownsRow_read hown
      have hplt : put.length ≤ 300 := by omega
      have hbt : t ≤ put.length := ht
      obtain ⟨P, eP⟩ : ∃ P, put.length = P := ⟨_, rfl⟩
      have EP := hid eP
      obtain ⟨m, em⟩ : ∃ m, P - t = m := ⟨_, rfl⟩
      have hm1 : m + t ≤ P := by omega
      have hm2 : P ≤ m + t := by omega
      have hmR : m ≤ R := by omega
      have hPk : P ≤ k := by omega
      have HM : Hid ((ints (put.drop t)).length = m) := by rw [ints_len, List.length_drop, eP]; exact em
      by_cases hd0 : d = 0
      · subst hd0
        by_cases hpop : t < P
        · obtain ⟨x, hx⟩ : ∃ x, put[t]? = some x := ⟨_, List.getElem?_eq_getElem (by omega)⟩
          have hcell : ∃ g, pp = some ⟨g, 0, Option.none⟩ ∧ w1.heap.size ≤ g ∧ P ≤ cc ∧ wr.cell? ⟨g, t, Option.none⟩ = some (.int .i64 x) := by
            rcases ownsRow_read hown with ⟨h, h', _⟩ | ⟨g, cc', h, h1, h2, h3, h4, h5⟩
            · omega
            · injection h with h6 h7 h8
              subst h8
              exact ⟨g, h6, h1, by omega, h5 t _ (by simp [ints, hx])⟩
          obtain ⟨g, rfl, hg, hPc, hcell⟩ := hcell
          have hdrop : ints (put.drop t) = .int .i64 x :: ints (put.drop (t + 1)) := by
            rw [List.drop_eq_getElem_cons (by omega)]
            have : put[t] = x := by rw [List.getElem?_eq_getElem (by omega)] at hx; exact Option.some.inj hx
            simp [ints, this]
          rw [hdrop] at hI
          have HI2 := hid hI
          obtain ⟨m', hm'⟩ : ∃ m', m = m' + 1 := ⟨m - 1, by omega⟩
          have HM2 : Hid ((ints (put.drop (t + 1))).length = m') := by rw [ints_len, List.length_drop, eP]; show P - (t + 1) = m'; omega
          have f1 : decide ((t : Int) < (P : Int)) = true := by simp; omega
          have f2 : decide (t < P) = true := by simp; omega
          have f3 : ((m' : Int) != (P : Int) - ((t : Int) + 1)) = false := by rw [bne_eq_false_iff_eq]; omega
          have f4 : m' + t + 1 ≤ P := by omega
          have f5 : P ≤ m' + t + 1 := by omega
          have f6 : ((m' : Int) + ((R : Int) - m') != R) = false := by rw [bne_eq_false_iff_eq]; omega
          rw [eP] at HH ⊢
          clear hdrop hI hown hrd hm' em eP hx
          go_wp2_with fail
          refine (Qi.pop_some q c R _ _ _ HI2.out).mono ?_; rintro e w2 ⟨rfl, i2, k2⟩
          have own2 := hid (ownsRow_keep HH.out k2 (fun g hg h => by rw [At] at h; omega))
          have hcell2 : w2.cell? ⟨g, t, Option.none⟩ = some (.int .i64 x) := by rw [k2.cell (p := ⟨g, t, Option.none⟩) (block_lt hcell) (by simp only [At]; omega)]; exact hcell
          have I2 := hid i2
          have hsz2 := Nat.le_trans hsz k2.size
          clear i2
          go_wp2_with fail
          refine (len_eq I2.out HM2.out).mono ?_; rintro e w' ⟨rfl, rfl⟩
          go_wp2_with fail
          refine (len_eq I2.out HM2.out).mono ?_; rintro e w' ⟨rfl, rfl⟩
          go_wp2_with fail
          refine (room_eq I2.out HM2.out (by omega) (by omega)).mono ?_; rintro e w5 ⟨rfl, k5⟩
          go_wp2_with fail
          go_roundw
          case rel => exact krel_close put (t + 1) (hkeep.thenAt k2 hc) I2.out own2.out k5 HM2.out EP.out (by omega) (by omega) (by omega) (by omega) hsz2
          case measure => simp only [intOf]; omega
        · obtain rfl : t = P := by omega
          have hI3 := hI
          rw [show put.drop t = [] from List.drop_eq_nil_of_le (by omega)] at hI3
          have I3 := hid hI3
          have HM3 : Hid ((ints []).length = 0) := rfl
          have f1 : decide ((t : Int) < (t : Int)) = false := by simp
          have f2 : decide (t < t) = false := by simp
          have f3 : (((0 : Nat) : Int) != (t : Int) - (t : Int)) = false := by rw [bne_eq_false_iff_eq]; omega
          have f6 : (((0 : Nat) : Int) + ((R : Int) - ((0 : Nat) : Int)) != R) = false := by rw [bne_eq_false_iff_eq]; omega
          rw [eP] at HH ⊢
          clear hI3 hI hown hrd em eP
          go_wp2_with fail
          refine (Qi.pop_none q c R _ I3.out).mono ?_; rintro e w2 ⟨rfl, rfl⟩
          go_wp2_with fail
          refine (len_eq I3.out HM3.out).mono ?_; rintro e w' ⟨rfl, rfl⟩
          go_wp2_with fail
          refine (len_eq I3.out HM3.out).mono ?_; rintro e w' ⟨rfl, rfl⟩
          go_wp2_with fail
          refine (room_eq I3.out HM3.out (by omega) (by omega)).mono ?_; rintro e w5 ⟨rfl, k5⟩
          go_wp2_with fail
          go_roundw
          case rel => exact krel_close put t hkeep I3.out HH.out k5 HM3.out EP.out (by omega) (by omega) (by omega) (by omega) hsz (by rw [List.drop_eq_nil_of_le (by have := EP.out; omega)])
          case measure => simp only [intOf]; omega
      · have g0 : (d == 0) = false := by rw [beq_eq_false_iff_ne]; exact hd0
        by_cases hd1 : d = 1
        · subst hd1
          have g1 : ((m : Int) != (P : Int) - (t : Int)) = false := by rw [bne_eq_false_iff_eq]; omega
          have HM3 : Hid ((ints []).length = 0) := rfl
          have f3 : (((0 : Nat) : Int) != (P : Int) - (P : Int)) = false := by rw [bne_eq_false_iff_eq]; omega
          have f6 : (((0 : Nat) : Int) + ((R : Int) - ((0 : Nat) : Int)) != R) = false := by rw [bne_eq_false_iff_eq]; omega
          rw [eP] at HH ⊢
          clear hI hown hrd em eP hd0
          go_wp2_with fail
          refine (clear_eq HII.out HM.out (by omega)).mono ?_; rintro e w2 ⟨rfl, i2, k2⟩
          have own2 := hid (ownsRow_keep HH.out k2 (fun g hg h => by rw [At] at h; omega))
          have I2 := hid i2
          have hsz2 := Nat.le_trans hsz k2.size
          clear i2
          go_wp2_with fail
          refine (len_eq I2.out HM3.out).mono ?_; rintro e w' ⟨rfl, rfl⟩
          go_wp2_with fail
          refine (len_eq I2.out HM3.out).mono ?_; rintro e w' ⟨rfl, rfl⟩
          go_wp2_with fail
          refine (room_eq I2.out HM3.out (by omega) (by omega)).mono ?_; rintro e w5 ⟨rfl, k5⟩
          go_wp2_with fail
          go_roundw
          case rel => exact krel_close put P (hkeep.thenAt k2 hc) I2.out own2.out k5 HM3.out EP.out (by omega) (by omega) (by omega) (by omega) hsz2 (by rw [List.drop_eq_nil_of_le (by have := EP.out; omega)]; rfl)
          case measure => simp only [intOf]; omega
        · have g1 : (d == 1) = false := by rw [beq_eq_false_iff_ne]; exact hd1
          by_cases hroom' : m < R
          · have f1 : decide ((P : Int) - (t : Int) < (R : Int)) = true := by simp; omega
            have f3 : (((m + 1 : Nat) : Int) != (P : Int) + 1 - (t : Int)) = false := by rw [bne_eq_false_iff_eq]; omega
            have f6 : (((m + 1 : Nat) : Int) + ((R : Int) - ((m + 1 : Nat) : Int)) != R) = false := by rw [bne_eq_false_iff_eq]; omega
            have hdrop : ints (put.drop t) ++ [.int .i64 k] = ints ((put ++ [(k : Int)]).drop t) := by
              rw [List.drop_append_of_le_length (by omega)]; simp [ints]
            have HM2 : Hid ((ints ((put ++ [(k : Int)]).drop t)).length = m + 1) := by
              rw [ints_len, List.length_drop, List.length_append, eP]; show P + 1 - t = m + 1; omega
            have EP2 : Hid ((put ++ [(k : Int)]).length = P + 1) := by rw [List.length_append, eP]; rfl
            have HD := hid hdrop
            rw [eP] at HH ⊢
            clear hI hown hrd em eP hd0 hd1 hdrop
            go_wp2_with fail
            refine (Qi.push_room q c R _ _ _ HII.out (by have := HM.out; omega)).mono ?_; rintro e w2 ⟨rfl, i2, k2⟩
            have own2 := ownsRow_keep HH.out k2 (fun g hg h => by rw [At] at h; omega)
            rw [HD.out] at i2
            have I2 := hid i2
            have hsz2 := Nat.le_trans hsz k2.size
            clear i2
            go_wp2_with (at_builtin; refine wpList_append_own _ rfl _ _ 39 rfl w1.heap.size 3 i0 (.int .i64 0) 1 8 Try.underlying39 HI.out.1 HI.out.2.1 HI.out.2.2.1 HI.out.2.2.2 rfl (by decide) _ _ _ rfl (own2.alloc _) ⟨w2.heap.size, 0, Option.none⟩ 1 1 [.int .i64 k] rfl rfl ?c1 ?c2 ?c3 ?c4 ?c5 ?_)
            case c1 => exact cell_one_new _ _ _
            case c2 => simp [Value.oneCell']
            case c3 => unfold maxLen; omega
            case c4 => omega
            case c5 => simp; omega
            intro v' w3 own3 hgrow _
            obtain ⟨pp', cc', hv⟩ := own_shape own3
            rw [hv] at own3
            rw [hv]
            have hb := HH.out.lt
            have k3 : Keeps (fun g => (Value.slice pp P cc).ownBlock = some g) w2 w3 := ((Keeps.refl _ _).alloc _).grown hgrow (fun g hg _ => hg)
            have i3 := hid (I2.out.keep k3 (fun e => by have := (hb q e).1; omega) (fun e => by have := (hb c e).1; omega))
            have hkw : Keeps Nil w w3 := (hkeep.thenAt k2 hc).thenOwn k3 (fun g e => by have := (hb g e).1; omega)
            have hsz3 := Nat.le_trans hsz2 k3.size
            have OWN3 := hid own3
            clear hb own3 own2 hgrow hv
            go_wp2_with fail
            refine (len_eq i3.out HM2.out).mono ?_; rintro e w' ⟨rfl, rfl⟩
            go_wp2_with fail
            refine (len_eq i3.out HM2.out).mono ?_; rintro e w' ⟨rfl, rfl⟩
            go_wp2_with fail
            refine (room_eq i3.out HM2.out (by omega) (by omega)).mono ?_; rintro e w5 ⟨rfl, k5⟩
            go_wp2_with fail
            go_roundw
            case rel => exact krel_close (put ++ [(k : Int)]) t hkw i3.out (by rw [ints, List.map_append]; exact OWN3.out) k5 HM2.out EP2.out (by omega) (by omega) (by omega) (by omega) hsz3
            case measure => simp only [intOf]; omega
          · have f1 : decide ((P : Int) - (t : Int) < (R : Int)) = false := by simp; omega
            have f3 : ((m : Int) != (P : Int) - (t : Int)) = false := by rw [bne_eq_false_iff_eq]; omega
            have f6 : ((m : Int) + ((R : Int) - (m : Int)) != R) = false := by rw [bne_eq_false_iff_eq]; omega
            rw [eP] at HH ⊢
            clear hI hown hrd em eP hd0 hd1
            go_wp2_with fail
            refine (Qi.push_full q c R _ _ _ HII.out (by have := HM.out; omega)).mono ?_; rintro e w2 ⟨rfl, rfl⟩
            go_wp2_with fail
            refine (len_eq HII.out HM.out).mono ?_; rintro e w' ⟨rfl, rfl⟩
            go_wp2_with fail
            refine (len_eq HII.out HM.out).mono ?_; rintro e w' ⟨rfl, rfl⟩
            go_wp2_with fail
            refine (room_eq HII.out HM.out (by omega) (by omega)).mono ?_; rintro e w5 ⟨rfl, k5⟩
            go_wp2_with fail
            go_roundw
            case rel => exact krel_close put t hkeep HII.out HH.out k5 HM.out EP.out (by omega) (by omega) (by omega) (by omega) hsz
            case measure => simp only [intOf]; omega
    · go_wp2_with (go_at_call 7; refine (wakes_any _).mono ?_; rintro e w2 ⟨rfl, k2⟩)
      go_ret
      exact ⟨rfl, hkeep.trans k2⟩
end Go.Proofs.Ytifplckiginijaa
