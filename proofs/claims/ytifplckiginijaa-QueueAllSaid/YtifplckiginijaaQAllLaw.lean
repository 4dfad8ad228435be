/-
  QueueAll walked. Conditions: the strings lie in the slice's cells.
-/
import Derived.Test.YtifplckiginijaaQOpen
namespace Go.Proofs.Ytifplckiginijaa
open Go.RowKit Go.Conc
set_option linter.unusedVariables false

def strsV (l : List ByteArray) : List Value := l.map Value.string
theorem strsV_len (l : List ByteArray) : (strsV l).length = l.length := by simp [strsV]
def Strs (w : World) (b off n : Nat) (l : List ByteArray) : Prop := l.length = n ∧ ∀ i s, l[i]? = some s → w.cell? ⟨b, off + i, Option.none⟩ = some (.string s)

set_option maxHeartbeats 400000 in
theorem qall_great (p : Option Addr) (len cap : Nat) (w : World) (hm : len ≤ 9223372036854775807) (h : 200 < len) :
    Calls Try.prog 3 #[.slice p len cap] w fun e w' => e = .returned (.bool true) ∧ Keeps Nil w w' := by
  go_enter Try.func3, Try.ntmps3
  go_wp2_with (go_at_call 7; refine (wakes_any _).mono ?_; rintro e w1 ⟨rfl, k1⟩)
  go_ret
  exact ⟨rfl, k1⟩

theorem slen_eq {q c cap m : Nat} {xs : List Value} {w : World} (h : Qs.Is w q c cap xs) (hm : xs.length = m) :
    Calls Try.prog 12 #[.pointer (some ⟨q, 0, Option.none⟩)] w fun e w' => e = .returned (.int .i64 m) ∧ w = w' := by
  subst hm; exact Qs.len_any q c cap xs w h

set_option maxRecDepth 100000 in
set_option maxHeartbeats 4000000 in
theorem qall_any (p : Option Addr) (len cap : Nat) (l : List ByteArray) (w : World) (hl : len ≤ 200) (hcap : len ≤ cap) (hll : l.length = len)
    (hp : 0 < len → ∃ b off, p = some ⟨b, off, Option.none⟩ ∧ b < w.heap.size ∧ Strs w b off len l) :
    Calls Try.prog 3 #[.slice p len cap] w fun e w' => e = .returned (.bool true) ∧ Keeps Nil w w' := by
  have HP := hid hp
  have HLL := hid hll
  clear hp hll
  have hl0 : decide (200 < (len : Int)) = false := by simp; omega
  go_enter Try.func3, Try.ntmps3
  go_wp2_with fail
  refine (Qs.new_ok 200 w (by omega) (by omega)).mono ?_; rintro e w1 ⟨q, c, rfl, i1, hq, hc, k1⟩
  have hlt := i1.lt
  go_wp2_with fail
  go_loopw [5] (fun i wr => ∃ (k : Nat), i = .int .i64 k ∧ k ≤ len ∧ Qs.Is wr q c 200 (strsV (l.take k)) ∧ Keeps Nil w wr) (fun i _ => len - (intOf i).toNat)
  case atStart => exact ⟨0, rfl, Nat.zero_le _, i1, k1⟩
  case round =>
    obtain ⟨k, rfl, hk, hI, hkeep⟩ := hrel
    by_cases hlt : k < len
    · obtain ⟨b, off, rfl, hb, hlen, hA⟩ := HP.out (by omega)
      obtain ⟨s, hs⟩ : ∃ s, l[k]? = some s := ⟨_, List.getElem?_eq_getElem (by omega)⟩
      have hc0 := hA k s hs
      rw [← hkeep.cell (p := ⟨b, off + k, Option.none⟩) hb (fun h => h)] at hc0
      have hT : strsV (l.take k) ++ [.string s] = strsV (l.take (k + 1)) := by
        have h' : k < l.length := by omega
        rw [List.take_succ_eq_append_getElem h']
        have : l[k] = s := by rw [List.getElem?_eq_getElem h'] at hs; exact Option.some.inj hs
        simp [strsV, this]
      have HT := hid hT
      have HII := hid hI
      have hTl : (strsV (l.take k)).length < 200 := by rw [strsV_len, List.length_take]; omega
      have HTL := hid hTl
      clear hT hI hA hs hTl hlen
      go_wp2_with fail
      refine (Qs.push_room q c 200 _ _ _ HII.out HTL.out).mono ?_; rintro e w2 ⟨rfl, i2, k2⟩
      rw [HT.out] at i2
      go_wp2_with fail
      go_roundw
      case rel => exact ⟨k + 1, by go_num, by omega, i2, hkeep.thenAt k2 hc⟩
      case measure => simp only [intOf]; omega
    · obtain rfl : k = len := by omega
      rw [List.take_of_length_le (by have := HLL.out; omega)] at hI
      have HII := hid hI
      have hall : ∀ u ∈ strsV l, ∃ n, u = .string n := by
        intro u hu
        obtain ⟨s, _, rfl⟩ := List.mem_map.1 hu
        exact ⟨s, rfl⟩
      have hsl : (strsV l).length ≤ 200 := by rw [strsV_len]; have := HLL.out; omega
      have HALL := hid hall
      have HSL := hid hsl
      have HLV : Hid ((strsV l).length = k) := by rw [strsV_len]; exact HLL.out
      clear hI hall hsl
      go_wp2_with fail
      refine (Qs.all_any q c 200 _ _ HII.out HSL.out (by have := HSL.out; omega) HALL.out).mono ?_; rintro e w2 ⟨va, rfl, owna, i2, k2⟩
      go_wp2_with fail
      refine (Qs.all_any q c 200 _ _ i2 HSL.out (by have := HSL.out; omega) HALL.out).mono ?_; rintro e w3 ⟨vb, rfl, ownb, i3, k3⟩
      rw [HLV.out] at owna ownb
      have hsz2 := k2.size
      have hszr := hkeep.size
      have owna3 := ownsRow_keep owna k3 (fun g hg h => by rw [At] at h; have := HII.out.lt; omega)
      obtain ⟨pa, ca, hva⟩ := own_shape owna3
      rw [hva] at owna3
      rw [hva]
      obtain ⟨pb, cb, hvb⟩ := own_shape ownb
      rw [hvb] at ownb
      rw [hvb]
      clear hva hvb owna
      have OA := hid owna3
      have OB := hid ownb
      have I3 := hid i3
      have hkw := (hkeep.thenAt k2 hc).thenAt k3 hc
      clear owna3 ownb i3 i2
      have g1 : ((k : Int) != (k : Int)) = false := by simp
      obtain ⟨B, hB⟩ : ∃ B, wr.heap.size = B := ⟨_, rfl⟩
      obtain ⟨B2, hB2⟩ : ∃ B, w2.heap.size = B := ⟨_, rfl⟩
      have hcB : q < B ∧ c < B := by have := HII.out.lt; omega
      have hBB : B ≤ B2 := by omega
      have hwB : w.heap.size ≤ B := by omega
      rw [hB] at OA
      rw [hB2] at OB
      clear HII hB hB2 k2 k3 hsz2 hszr hkeep
      go_wp2_with fail
      go_loopw [8] (fun i wr => ∃ (j : Nat), i = .int .i64 j ∧ j ≤ k ∧ Qs.Is wr q c 200 (strsV (l.drop j)) ∧ wr.ownsRow B 9 1 (.slice pa k ca) k (strsV l) ∧ wr.ownsRow B2 9 1 (.slice pb k cb) k (strsV l) ∧ Keeps Nil w wr) (fun i _ => k - (intOf i).toNat)
      case atStart => exact ⟨0, rfl, Nat.zero_le _, I3.out, OA.out, OB.out, hkw⟩
      case round =>
        obtain ⟨j, rfl, hj, hI, hoa, hob, hkeep⟩ := hrel
        by_cases hlt : j < k
        · obtain ⟨b, off, rfl, hb, hlen, hA⟩ := HP.out (by omega)
          obtain ⟨s, hs⟩ : ∃ s, l[j]? = some s := ⟨_, List.getElem?_eq_getElem (by omega)⟩
          have hc0 := hA j s hs
          rw [← hkeep.cell (p := ⟨b, off + j, Option.none⟩) hb (fun h => h)] at hc0
          have hd : strsV (l.drop j) = .string s :: strsV (l.drop (j + 1)) := by
            have h' : j < l.length := by omega
            have : l[j] = s := by rw [List.getElem?_eq_getElem h'] at hs; exact Option.some.inj hs
            rw [List.drop_eq_getElem_cons h', this]; rfl
          rw [hd] at hI
          have hsv : (strsV l)[j]? = some (.string s) := by simp [strsV, hs]
          have HII := hid hI
          obtain ⟨ga, rfl, hga, hgal, hka, hca⟩ := own_at hoa hsv
          obtain ⟨gb, rfl, hgb, hgbl, hkb, hcb⟩ := own_at hob hsv
          have HOA := hid hoa
          have HOB := hid hob
          clear hI hoa hob hA hs hsv hd hlen
          go_wp2_with fail
          refine (Qs.pop_some q c 200 _ _ _ HII.out).mono ?_; rintro e w4 ⟨rfl, i4, k4⟩
          have hca4 : w4.cell? ⟨ga, j, Option.none⟩ = some (.string s) := by rw [k4.cell (p := ⟨ga, j, Option.none⟩) hgal (by simp only [At]; omega)]; exact hca
          have hcb4 : w4.cell? ⟨gb, j, Option.none⟩ = some (.string s) := by rw [k4.cell (p := ⟨gb, j, Option.none⟩) hgbl (by simp only [At]; omega)]; exact hcb
          have hc04 : w4.cell? ⟨b, off + j, Option.none⟩ = some (.string s) := by rw [k4.cell (p := ⟨b, off + j, Option.none⟩) (block_lt hc0) (by simp only [At]; omega)]; exact hc0
          have hoa4 := ownsRow_keep HOA.out k4 (fun g hg h => by rw [At] at h; omega)
          have hob4 := ownsRow_keep HOB.out k4 (fun g hg h => by rw [At] at h; omega)
          have HA4 := hid hoa4
          have HB4 := hid hob4
          have I4 := hid i4
          have g2 : ((0 : Int) != 0) = false := rfl
          clear hca hcb hc0 hoa4 hob4 i4
          go_wp2_with fail
          go_quiet (fail)
          go_wp2_with fail
          go_roundw
          case rel => exact ⟨j + 1, by go_num, by omega, I4.out, HA4.out, HB4.out, (hkeep.thenAt k4 hc).thenNil (Keeps.drewN _ _)⟩
          case measure => simp only [intOf]; omega
        · obtain rfl : j = k := by omega
          have HI0 : Hid ((strsV (l.drop j)).length = 0) := by rw [strsV_len, List.length_drop]; have := HLL.out; show _ - _ = 0; omega
          have HII := hid hI
          clear hI
          go_wp2_with fail
          refine (slen_eq HII.out HI0.out).mono ?_; rintro e w' ⟨rfl, rfl⟩
          go_wp2_with fail
          refine (wakes_any _).mono ?_; rintro e w4 ⟨rfl, k4⟩
          go_wp2_with fail
          go_ret
          exact ⟨rfl, hkeep.thenNil k4⟩
end Go.Proofs.Ytifplckiginijaa
