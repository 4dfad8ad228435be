/-
  QueuePlays walked. Conditions: the acts lie in the slice's cells.
-/
import Derived.Test.YtifplckiginijaaQSame
import Derived.Deep.DeepCutAuto
namespace Go.Proofs.Ytifplckiginijaa
open Go.RowKit Go.Conc
set_option linter.unusedVariables false

set_option maxHeartbeats 400000 in
theorem plays_great (R : Int) (p : Option Addr) (len cap : Nat) (w : World) (hm : len ≤ 9223372036854775807) (h : 200 < len) :
    Calls Try.prog 4 #[.int .i64 R, .slice p len cap] w fun e w' => e = .returned (.bool true) ∧ Keeps Nil w w' := by
  go_enter Try.func4, Try.ntmps4
  go_wp2_with (go_at_call 7; refine (wakes_any _).mono ?_; rintro e w1 ⟨rfl, k1⟩)
  go_ret
  exact ⟨rfl, k1⟩

set_option maxHeartbeats 400000 in
theorem plays_none (R : Int) (p : Option Addr) (len cap : Nat) (w : World) (hm : len ≤ 200) (h : R < 1 ∨ 1024 < R) :
    Calls Try.prog 4 #[.int .i64 R, .slice p len cap] w fun e w' => e = .returned (.bool true) ∧ Keeps Nil w w' := by
  have HN := fun w => hid (Qi.new_no R w h)
  have hmay : (decide (0 < R) && decide (R < 1025)) = false := by
    rw [← Bool.decide_and]; exact decide_eq_false (fun h' => by omega)
  have HM := fun w => hid (may_any R w)
  rw [hmay] at HM
  clear hmay h
  go_enter Try.func4, Try.ntmps4
  go_wp2_with fail
  refine (HN _).out.mono ?_; rintro e w' ⟨rfl, rfl⟩
  go_wp2_with fail
  refine (HM _).out.mono ?_; rintro e w' ⟨rfl, rfl⟩
  go_wp2_with (go_at_call 7; refine (wakes_any _).mono ?_; rintro e w1 ⟨rfl, k1⟩)
  go_ret
  exact ⟨rfl, k1⟩

theorem rpush_room {R : Int} {B0 B n c : Nat} {x : Int} {p : Option Addr} {l : List Int} {w : World} (hv : View w B0 p n c (ints l)) (hR : (n : Int) < R) (hB : B ≤ w.heap.size) (hm : n ≤ 100000) :
    Calls Try.prog 18 #[.agg #[.int .i64 R, .slice p n c], .int .i64 x] w fun e w' => QE R B (ints (l ++ [x])) 0 e w' ∧ Keeps Nil w w' := by
  rcases Nat.eq_zero_or_pos n with rfl | hn
  · have hl : l = [] := List.eq_nil_of_length_eq_zero (by have := hv.1; rwa [ints_len] at this)
    subst hl
    exact rpush_none R B x p c w (by omega) hB
  · obtain ⟨g, off, rfl, _⟩ := hv.2.2 hn
    exact push_some R B x g off n c l w hv hn hR hB hm

theorem qe_len {R : Int} {B : Nat} {l : List Int} {err : Int} {e : Ending} {w' : World} (h : QE R B (ints l) err e w') :
    ∃ p c, e = .returned (.tuple #[.agg #[.int .i64 R, .slice p l.length c], .int .i64 err]) ∧ View w' B p l.length c (ints l) := by
  obtain ⟨p, n, c, he, hv⟩ := h
  have : n = l.length := by have := hv.1; rw [ints_len] at this; exact this.symm
  subst this
  exact ⟨p, c, he, hv⟩
theorem qie_len {R : Int} {B : Nat} {l : List Int} {x err : Int} {e : Ending} {w' : World} (h : QIE R B (ints l) x err e w') :
    ∃ p c, e = .returned (.tuple #[.agg #[.int .i64 R, .slice p l.length c], .int .i64 x, .int .i64 err]) ∧ View w' B p l.length c (ints l) := by
  obtain ⟨p, n, c, he, hv⟩ := h
  have : n = l.length := by have := hv.1; rw [ints_len] at this; exact this.symm
  subst this
  exact ⟨p, c, he, hv⟩

theorem set_doc {W : World} {b : Nat} {x y : Value} (o : Obj) (u v : Value) (h : W.heap[b]? = some (.cells #[x, y] 41 (0, 0))) :
    (((W.setCell ⟨b, 0, Option.none⟩ u).setCell ⟨b, 1, Option.none⟩ v).alloc o).heap[b]? = some (.cells #[u, v] 41 (0, 0)) ∧ Keeps (At b) W (((W.setCell ⟨b, 0, Option.none⟩ u).setCell ⟨b, 1, Option.none⟩ v).alloc o) :=
  ⟨((Keeps.refl Nil _).alloc o).lies (setCell_block (setCell_block h 0 _) 1 _), (((Keeps.refl _ _).set b 0 (at_self b) _).set b 1 (at_self b) _).alloc _⟩

theorem set_doc1 {W : World} {b : Nat} {x y : Value} (v : Value) (h : W.heap[b]? = some (.cells #[x, y] 41 (0, 0))) :
    (W.setCell ⟨b, 1, Option.none⟩ v).heap[b]? = some (.cells #[x, v] 41 (0, 0)) ∧ Keeps (At b) W (W.setCell ⟨b, 1, Option.none⟩ v) :=
  ⟨setCell_block h 1 _, (Keeps.refl _ _).set b 1 (at_self b) _⟩

theorem set_doc2 {W : World} {b : Nat} {x y : Value} (u v : Value) (h : W.heap[b]? = some (.cells #[x, y] 41 (0, 0))) :
    ((W.setCell ⟨b, 0, Option.none⟩ u).setCell ⟨b, 1, Option.none⟩ v).heap[b]? = some (.cells #[u, v] 41 (0, 0)) ∧ Keeps (At b) W ((W.setCell ⟨b, 0, Option.none⟩ u).setCell ⟨b, 1, Option.none⟩ v) :=
  ⟨setCell_block (setCell_block h 0 _) 1 _, (((Keeps.refl _ _).set b 0 (at_self b) _).set b 1 (at_self b) _)⟩

theorem push_int (q c R : Nat) (l : List Int) (x : Int) (w : World) (h : Qi.Is w q c R (ints l)) (hl : l.length < R) :
    Calls Try.prog 19 #[.pointer (some ⟨q, 0, Option.none⟩), .int .i64 x] w fun e w' => e = .returned (.int .i64 0) ∧ Qi.Is w' q c R (ints (l ++ [x])) ∧ Keeps (At c) w w' := by
  have := Qi.push_room q c R (ints l) (.int .i64 x) w h (by rw [ints_len]; exact hl)
  rwa [show ints l ++ [.int .i64 x] = ints (l ++ [x]) from by simp [ints]] at this

/-- Between the acts: the queue in q and c, the document's in block b. -/
structure PRel (w : World) (B q c b R : Nat) (l : List Int) (wr : World) : Prop where
  keeps : Keeps Nil w wr
  is : Qi.Is wr q c R (ints l)
  doc : ∃ p cc, wr.heap[b]? = some (.cells #[.int .i64 R, .slice p l.length cc] 41 (0, 0)) ∧ View wr B p l.length cc (ints l)
  room : l.length ≤ R
  size : B ≤ wr.heap.size

set_option maxRecDepth 100000 in
set_option maxHeartbeats 8000000 in
theorem plays_any (R : Nat) (p : Option Addr) (len cap : Nat) (acts : List (Int × Int)) (w : World) (hl : len ≤ 200) (hcap : len ≤ cap) (h1 : 1 ≤ R) (h2 : R ≤ 1024)
    (hp : 0 < len → ∃ b off, p = some ⟨b, off, Option.none⟩ ∧ b < w.heap.size ∧ Acts w b off len acts) :
    Calls Try.prog 4 #[.int .i64 R, .slice p len cap] w fun e w' => e = .returned (.bool true) ∧ Keeps Nil w w' := by
  have HP := hid hp
  have HM := fun w => hid (may_any R w)
  have hmay : (decide ((0 : Int) < R) && decide ((R : Int) < 1025)) = true := by simp; omega
  rw [hmay] at HM
  clear hp hmay
  have hl0 : decide (200 < (len : Int)) = false := by simp; omega
  go_enter Try.func4, Try.ntmps4
  go_wp2_with fail
  refine (Qi.new_ok R w h1 h2).mono ?_; rintro e w1 ⟨q, c, rfl, i1, hq, hc, k1⟩
  have hlt := i1.lt
  go_wp2_with fail
  refine (HM _).out.mono ?_; rintro e w' ⟨rfl, rfl⟩
  go_wp2_with fail
  obtain ⟨b, hb⟩ : ∃ b, w1.heap.size = b := ⟨_, rfl⟩
  have hbw : w.heap.size ≤ b := by have := k1.size; omega
  have hqb : q < b ∧ c < b := by omega
  have kw1 : Keeps Nil w (w1.alloc (.cells #[.int .i64 R, .slice Option.none 0 0] 41)) := k1.thenNil ((Keeps.refl _ _).alloc _)
  have iw1 := i1.keep ((Keeps.refl Nil w1).alloc (.cells #[.int .i64 R, .slice Option.none 0 0] 41)) (fun h => h) (fun h => h)
  have bw1 : (w1.alloc (.cells #[.int .i64 R, .slice Option.none 0 0] 41)).heap[b]? = some (.cells #[.int .i64 R, .slice Option.none 0 0] 41 (0, 0)) := by rw [← hb]; exact alloc_block _ _
  have sw1 : b + 1 ≤ (w1.alloc (.cells #[.int .i64 R, .slice Option.none 0 0] 41)).heap.size := by rw [← hb]; simp
  have KW1 := hid kw1
  have IW1 := hid iw1
  have BW1 := hid bw1
  have SW1 := hid sw1
  clear kw1 iw1 bw1 sw1 i1 k1 hlt
  generalize w1.alloc (.cells #[.int .i64 R, .slice Option.none 0 0] 41) = W1 at *
  subst hb
  generalize w1.heap.size = b at *
  go_loopw [8] (fun i wr => ∃ (k : Nat) (l : List Int), i = .int .i64 k ∧ k ≤ len ∧ PRel w (b + 1) q c b R l wr) (fun i _ => len - (intOf i).toNat)
  case atStart => exact ⟨0, [], rfl, Nat.zero_le _, KW1.out, IW1.out, ⟨Option.none, 0, BW1.out, rfl, Nat.le_refl _, fun h => by simp at h⟩, Nat.zero_le _, SW1.out⟩
  case round =>
    obtain ⟨k, l, rfl, hk, hkeep, hI, ⟨pd, cd, hdoc, hview⟩, hroom, hsz⟩ := hrel
    by_cases hlt : k < len
    · obtain ⟨ba, off, rfl, hba, hlen, hA⟩ := HP.out (by omega)
      obtain ⟨a, ha⟩ : ∃ a, acts[k]? = some a := ⟨_, List.getElem?_eq_getElem (by omega)⟩
      have hc0 := (hA k a ha).1
      have hc1 := (hA k a ha).2
      rw [← hkeep.cell (p := ⟨ba, off + k * 2, Option.none⟩) hba (fun h => h)] at hc0
      rw [← hkeep.cell (p := ⟨ba, off + k * 2 + 1, Option.none⟩) hba (fun h => h)] at hc1
      obtain ⟨d, x⟩ := a
      simp only at hc0 hc1
      clear hA ha
      have HI := hid hI
      have HV := hid hview
      have HD := hid hdoc
      obtain ⟨hb0, hb1⟩ := two_cells hdoc
      obtain ⟨hf0, hf1⟩ := two_free hdoc
      clear hdoc hview hI hlen
      by_cases hd0 : d = 0
      · subst hd0
        cases l with
        | nil =>
          go_wp2_with fail
          refine (Qi.pop_none q c R _ HI.out).mono ?_; rintro e w' ⟨rfl, rfl⟩
          go_wp2_with fail
          refine (rpop_none _ (b + 1) _ _ _).mono ?_; rintro e w3 ⟨hq3, k3⟩
          obtain ⟨p3, c3, rfl, v3⟩ := qie_len (l := []) hq3
          have hD3 := k3.lies HD.out
          have i3 := HI.out.keep k3 (fun h => h) (fun h => h)
          have ksz := k3.size
          have hbl := lt_of_block hD3
          obtain ⟨hb0, hb1⟩ := two_cells hD3
          obtain ⟨hf0, hf1⟩ := two_free hD3
          have HD3 := hid hD3
          have V3 := hid v3
          have I3 := hid i3
          clear hD3 v3 i3
          go_wp2_with fail
          obtain ⟨hDx, kx⟩ := set_doc (.cells #[.int .i64 R, .slice p3 (0) c3] 41) (.int .i64 R) (.slice p3 (0) c3) HD3.out
          have ix := I3.out.keep kx (fun e => by rw [At] at e; omega) (fun e => by rw [At] at e; omega)
          have vx := V3.out.keep kx (fun g hg _ e => by rw [At] at e; omega)
          have kwx : Keeps Nil w _ := (hkeep.trans k3).thenAt kx hbw
          have sx := Nat.le_trans (Nat.le_trans hsz ksz) kx.size
          refine (same_any q c R 0 c3 (b + 1) p3 [] _ ix vx (by simp) h2 (by omega)).mono ?_; rintro e w5 ⟨rfl, i5, k5⟩
          have hD5 := k5.lies hDx (fun e => by rw [At] at e; omega)
          have v5 := vx.keep k5 (fun g hg _ e => by rw [At] at e; omega)
          have kw5 := kwx.thenAt k5 hc
          have s5 := Nat.le_trans sx k5.size
          clear hDx ix vx kx
          go_wp2_with fail
          go_roundw
          case rel => exact ⟨k + 1, [], by go_num, by omega, kw5, i5, ⟨p3, c3, hD5, v5⟩, by simp, s5⟩
          case measure => simp only [intOf]; omega
        | cons y l =>
          rw [List.length_cons] at HD HV hb1 hroom
          obtain ⟨g, og, rfl, _⟩ := HV.out.2.2 (by omega)
          have hRn : l.length ≤ R := by omega
          go_wp2_with fail
          refine (Qi.pop_some q c R (.int .i64 y) (ints l) _ HI.out).mono ?_; rintro e w2 ⟨rfl, i2, k2⟩
          have hD2 := k2.lies HD.out (fun e => by rw [At] at e; omega)
          obtain ⟨hb0, hb1⟩ := two_cells hD2
          have v2 := HV.out.keep k2 (fun g hg _ e => by rw [At] at e; omega)
          have HD2 := hid hD2
          have V2 := hid v2
          have I2 := hid i2
          clear hD2 v2 i2
          go_wp2_with fail
          refine (rpop_some _ (b + 1) _ _ _ _ y l _ V2.out (by omega)).mono ?_; rintro e w3 ⟨hq3, k3⟩
          obtain ⟨p3, c3, rfl, v3⟩ := qie_len hq3
          have hD3 := k3.lies HD2.out
          have i3 := I2.out.keep k3 (fun h => h) (fun h => h)
          have ksz := Nat.le_trans (Nat.le_trans hsz k2.size) k3.size
          clear hq3
          have hbl := lt_of_block hD3
          obtain ⟨hb0, hb1⟩ := two_cells hD3
          obtain ⟨hf0, hf1⟩ := two_free hD3
          have HD3 := hid hD3
          have V3 := hid v3
          have I3 := hid i3
          clear hD3 v3 i3
          go_wp2_with fail
          obtain ⟨hDx, kx⟩ := set_doc (.cells #[.int .i64 R, .slice p3 (l.length) c3] 41) (.int .i64 R) (.slice p3 (l.length) c3) HD3.out
          have ix := I3.out.keep kx (fun e => by rw [At] at e; omega) (fun e => by rw [At] at e; omega)
          have vx := V3.out.keep kx (fun g hg _ e => by rw [At] at e; omega)
          have kwx : Keeps Nil w _ := ((hkeep.thenAt k2 hc).thenNil k3).thenAt kx hbw
          have sx := Nat.le_trans ksz kx.size
          refine (same_any q c R (l.length) c3 (b + 1) p3 l _ ix vx hRn h2 (by omega)).mono ?_; rintro e w5 ⟨rfl, i5, k5⟩
          have hD5 := k5.lies hDx (fun e => by rw [At] at e; omega)
          have v5 := vx.keep k5 (fun g hg _ e => by rw [At] at e; omega)
          have kw5 := kwx.thenAt k5 hc
          have s5 := Nat.le_trans sx k5.size
          clear hDx ix vx kx
          go_wp2_with fail
          go_roundw
          case rel => exact ⟨k + 1, l, by go_num, by omega, kw5, i5, ⟨p3, c3, hD5, v5⟩, hRn, s5⟩
          case measure => simp only [intOf]; omega
      · have g0 : (d == 0) = false := by rw [beq_eq_false_iff_ne]; exact hd0
        by_cases hd1 : d = 1
        · subst hd1
          have hRn : 0 ≤ R := by omega
          have hL : (ints l).length = l.length := ints_len l
          obtain ⟨n, hn⟩ : ∃ n, l.length = n := ⟨_, rfl⟩
          rw [hn] at hL HD HV hb1 hroom
          have HL := hid hL
          clear hn hL
          go_wp2_with fail
          go_region_held3 (fun w' => w'.cell? ⟨b, 1, Option.none⟩ = some (.slice pd n cd)) (first | go_keep | (rw [k2.cell (p := ⟨b, 1, Option.none⟩) (by simpa using lt_of_block HD.out) (by simp only [At]; omega)]; assumption))
            ((go_at_call 17; refine (clear_eq (w := wr.drew) HI.out HL.out (by omega)).mono ?_; rintro e w2 ⟨rfl, i2, k2⟩))
          have hD2 := k2.lies HD.out (fun e => by rw [At] at e; omega)
          have ksz := Nat.le_trans hsz k2.size
          have hbl := lt_of_block hD2
          obtain ⟨hb0, hb1⟩ := two_cells hD2
          obtain ⟨hf0, hf1⟩ := two_free hD2
          have HD2 := hid hD2
          have I2 := hid i2
          clear hD2 i2
          go_wp2_with fail
          obtain ⟨hDx, kx⟩ := set_doc1 (.slice Option.none 0 0) HD2.out
          have ix := I2.out.keep kx (fun e => by rw [At] at e; omega) (fun e => by rw [At] at e; omega)
          have kwx : Keeps Nil w _ := ((hkeep.drew).thenAt k2 hc).thenAt kx hbw
          have sx := Nat.le_trans ksz kx.size
          refine (same_any q c R 0 0 (b + 1) Option.none [] _ ix ⟨rfl, Nat.le_refl _, fun h => by simp at h⟩ hRn h2 (by omega)).mono ?_; rintro e w5 ⟨rfl, i5, k5⟩
          have hD5 := k5.lies hDx (fun e => by rw [At] at e; omega)
          have kw5 := kwx.thenAt k5 hc
          have s5 := Nat.le_trans sx k5.size
          clear hDx ix kx
          go_wp2_with fail
          go_roundw
          case rel => exact ⟨k + 1, [], by go_num, by omega, kw5, i5, ⟨Option.none, 0, hD5, rfl, Nat.le_refl _, fun h => by simp at h⟩, hRn, s5⟩
          case measure => simp only [intOf]; omega
        · have g1 : (d == 1) = false := by rw [beq_eq_false_iff_ne]; exact hd1
          obtain ⟨n, hn⟩ : ∃ n, l.length = n := ⟨_, rfl⟩
          rw [hn] at HD HV hb1 hroom
          have hnl := hn
          have HN := hid hn
          clear hn
          by_cases hful : n < R
          · go_upto_region 13 with (fail)
            have HS : ∀ W, Keeps Nil wr W → W.cell? ⟨b, 0, Option.none⟩ = some (.int .i64 R) ∧ W.cell? ⟨b, 1, Option.none⟩ = some (.slice pd n cd) ∧ W.cell? ⟨ba, off + k * 2 + 1, Option.none⟩ = some (.int .i64 x) :=
              fun W kW => ⟨(kW.cell (p := ⟨b, 0, Option.none⟩) (lt_of_block HD.out) (fun h => h)).trans hb0, (kW.cell (p := ⟨b, 1, Option.none⟩) (lt_of_block HD.out) (fun h => h)).trans hb1, (kW.cell (p := ⟨ba, off + k * 2 + 1, Option.none⟩) (Nat.lt_of_lt_of_le hba hkeep.size) (fun h => h)).trans hc1⟩
            go_cut [14, 15] (fun s14 s15 wx => ∃ g p2 c2, s14 = .pointer (some ⟨g, 0, Option.none⟩) ∧ s15 = .int .i64 0 ∧ b < g ∧ wx.heap[g]? = some (.cells #[.int .i64 R, .slice p2 (n + 1) c2] 41 (0, 0)) ∧ View wx (b + 1) p2 (n + 1) c2 (ints (l ++ [x])) ∧ Keeps Nil wr wx)
            case first =>
              have HS' := hid HS
              clear HS
              go_region_held3 (fun w' => w'.cell? ⟨b, 0, Option.none⟩ = some (.int .i64 R) ∧ w'.cell? ⟨b, 1, Option.none⟩ = some (.slice pd n cd) ∧ w'.cell? ⟨ba, off + k * 2 + 1, Option.none⟩ = some (.int .i64 x)) (first | go_keep | exact HS'.out _ ((Keeps.refl Nil wr).alloc _) | exact HS'.out _ kk | exact HS'.out _ (kk.alloc _) | exact HS'.out _ ((kk.setCell (p := ⟨wr.heap.size, 0, Option.none⟩) (fun h => absurd h (Nat.lt_irrefl _)) _).setCell (p := ⟨wr.heap.size, 1, Option.none⟩) (fun h => absurd h (Nat.lt_irrefl _)) _))
                ((first | (go_at_call 18; refine (rpush_room (w := wr.drew) (R := (R : Int)) (B := b + 1) HV.out (by omega) hsz (by omega)).mono ?_; rintro e w2 ⟨hq2, k2⟩; obtain ⟨p2, c2, rfl, v2⟩ := qe_len hq2; have kk : Keeps Nil wr w2 := ((Keeps.refl Nil wr).drew).trans k2) | (go_at_call 18; refine (rpush_room (w := (wr.alloc (.cells #[.int .i64 0, .slice Option.none 0 0] 41)).drew) (R := (R : Int)) (B := wr.heap.size + 1) (HV.out.keep (((Keeps.refl Nil wr).alloc _).drew) (fun _ _ _ h => h)) (by omega) (by simp) (by omega)).mono ?_; rintro e w2 ⟨hq2, k2⟩; obtain ⟨p2, c2, rfl, v2⟩ := qe_len hq2; have kk : Keeps Nil wr w2 := (((Keeps.refl Nil wr).alloc _).drew).trans k2; have hl2 := k2.lies (alloc_block wr _); obtain ⟨hg0, hg1⟩ := two_cells hl2; obtain ⟨hg2, hg3⟩ := two_free hl2; have HL2 := hid hl2; clear hl2)))
              all_goals (go_wp2_with fail; go_meet)
              all_goals (rw [show (l ++ [x]).length = n + 1 from by simp [hnl]] at v2)
              all_goals first
                | exact ⟨_, p2, c2, rfl, rfl, by have := kk.size; omega, alloc_block _ _, v2.keep ((Keeps.refl Nil _).alloc _) (fun _ _ _ h => h), kk.alloc _⟩
                | exact ⟨wr.heap.size, p2, c2, rfl, rfl, by omega, setCell_block (setCell_block HL2.out 0 _) 1 _, (v2.keep (((Keeps.refl (At wr.heap.size) w2).set _ 0 (at_self _) _).set _ 1 (at_self _) _) (fun g hg _ e => by rw [At] at e; omega)).mono (by omega), (kk.setCell (p := ⟨wr.heap.size, 0, Option.none⟩) (fun h => absurd h (Nat.lt_irrefl _)) _).setCell (p := ⟨wr.heap.size, 1, Option.none⟩) (fun h => absurd h (Nat.lt_irrefl _)) _⟩
            case rest =>
              obtain ⟨g, p2, c2, rfl, rfl, hbg, hg, v2, k2⟩ := hcut
              have hD2 := k2.lies HD.out
              obtain ⟨hb0, hb1⟩ := two_cells hD2
              obtain ⟨hf0, hf1⟩ := two_free hD2
              obtain ⟨hg0, hg1⟩ := two_cells hg
              obtain ⟨hx0, hx1, hx2⟩ := HS _ k2
              have i2 := HI.out.keep k2 (fun h => h) (fun h => h)
              have ksz := Nat.le_trans hsz k2.size
              have I2 := hid i2
              have V2 := hid v2
              have HD2 := hid hD2
              clear hg hD2 v2 i2 HS
              go_wp2_with fail
              obtain ⟨hDx, kx⟩ := set_doc2 (.int .i64 R) (.slice p2 (n + 1) c2) HD2.out
              have ix := I2.out.keep kx (fun e => by rw [At] at e; omega) (fun e => by rw [At] at e; omega)
              have vx := V2.out.keep kx (fun g hg _ e => by rw [At] at e; omega)
              have kwx : Keeps Nil w _ := (hkeep.thenNil k2).thenAt kx hbw
              have sx := Nat.le_trans ksz kx.size
              refine (push_int q c R l x _ ix (by omega)).mono ?_; rintro e w4 ⟨rfl, i4, k4⟩
              have hD4 := k4.lies hDx (fun e => by rw [At] at e; omega)
              have v4 := vx.keep k4 (fun g hg _ e => by rw [At] at e; omega)
              have kw4 := kwx.thenAt k4 hc
              have s4 := Nat.le_trans sx k4.size
              obtain ⟨hb0, hb1⟩ := two_cells hD4
              have HD4 := hid hD4
              have V4 := hid v4
              have I4 := hid i4
              have HKW4 := hid kw4
              clear hDx ix vx kx kwx sx hD4 v4 i4 kw4
              go_wp2_with fail
              refine (same_any q c R (n + 1) c2 (b + 1) p2 (l ++ [x]) _ I4.out V4.out (by omega) h2 (by omega)).mono ?_; rintro e w5 ⟨rfl, i5, k5⟩
              have hD5 := k5.lies HD4.out (fun e => by rw [At] at e; omega)
              have v5 := V4.out.keep k5 (fun g hg _ e => by rw [At] at e; omega)
              have kw5 := HKW4.out.thenAt k5 hc
              have s5 := Nat.le_trans s4 k5.size
              go_wp2_with fail
              go_roundw
              case rel =>
                have e1 : (l ++ [x]).length = n + 1 := by simp [HN.out]
                exact ⟨k + 1, l ++ [x], by go_num, by omega, kw5, i5, ⟨p2, c2, by rw [e1]; exact hD5, by rw [e1]; exact v5⟩, by omega, s5⟩
              case measure => simp only [intOf]; omega
          · go_upto_region 13 with (fail)
            have HS : ∀ W, Keeps Nil wr W → W.cell? ⟨b, 0, Option.none⟩ = some (.int .i64 R) ∧ W.cell? ⟨b, 1, Option.none⟩ = some (.slice pd n cd) ∧ W.cell? ⟨ba, off + k * 2 + 1, Option.none⟩ = some (.int .i64 x) :=
              fun W kW => ⟨(kW.cell (p := ⟨b, 0, Option.none⟩) (lt_of_block HD.out) (fun h => h)).trans hb0, (kW.cell (p := ⟨b, 1, Option.none⟩) (lt_of_block HD.out) (fun h => h)).trans hb1, (kW.cell (p := ⟨ba, off + k * 2 + 1, Option.none⟩) (Nat.lt_of_lt_of_le hba hkeep.size) (fun h => h)).trans hc1⟩
            go_cut [14, 15] (fun s14 s15 wx => ∃ g p2 c2, s14 = .pointer (some ⟨g, 0, Option.none⟩) ∧ s15 = .int .i64 6 ∧ b < g ∧ wx.heap[g]? = some (.cells #[.int .i64 R, .slice p2 n c2] 41 (0, 0)) ∧ View wx (b + 1) p2 n c2 (ints l) ∧ Keeps Nil wr wx)
            case first =>
              have HS' := hid HS
              clear HS
              go_region_held3 (fun w' => w'.cell? ⟨b, 0, Option.none⟩ = some (.int .i64 R) ∧ w'.cell? ⟨b, 1, Option.none⟩ = some (.slice pd n cd) ∧ w'.cell? ⟨ba, off + k * 2 + 1, Option.none⟩ = some (.int .i64 x)) (first | go_keep | exact HS'.out _ ((Keeps.refl Nil wr).alloc _) | exact HS'.out _ kk | exact HS'.out _ (kk.alloc _) | exact HS'.out _ ((kk.setCell (p := ⟨wr.heap.size, 0, Option.none⟩) (fun h => absurd h (Nat.lt_irrefl _)) _).setCell (p := ⟨wr.heap.size, 1, Option.none⟩) (fun h => absurd h (Nat.lt_irrefl _)) _))
                ((first | (go_at_call 18; refine (rpush_full R n cd pd x wr.drew (by omega)).mono ?_; rintro e w2 ⟨rfl, k2⟩; have kk : Keeps Nil wr w2 := ((Keeps.refl Nil wr).drew).trans k2) | (go_at_call 18; refine (rpush_full R n cd pd x (wr.alloc (.cells #[.int .i64 0, .slice Option.none 0 0] 41)).drew (by omega)).mono ?_; rintro e w2 ⟨rfl, k2⟩; have kk : Keeps Nil wr w2 := (((Keeps.refl Nil wr).alloc _).drew).trans k2; have hl2 := k2.lies (alloc_block wr _); obtain ⟨hg0, hg1⟩ := two_cells hl2; obtain ⟨hg2, hg3⟩ := two_free hl2; have HL2 := hid hl2; clear hl2)))
              all_goals (go_wp2_with fail; go_meet)
              all_goals first
                | exact ⟨_, pd, cd, rfl, rfl, by have := kk.size; omega, alloc_block _ _, HV.out.keep (kk.alloc _) (fun _ _ _ h => h), kk.alloc _⟩
                | exact ⟨wr.heap.size, pd, cd, rfl, rfl, by omega, setCell_block (setCell_block HL2.out 0 _) 1 _, HV.out.keep ((kk.setCell (p := ⟨wr.heap.size, 0, Option.none⟩) (fun h => absurd h (Nat.lt_irrefl _)) _).setCell (p := ⟨wr.heap.size, 1, Option.none⟩) (fun h => absurd h (Nat.lt_irrefl _)) _) (fun _ _ _ h => h), (kk.setCell (p := ⟨wr.heap.size, 0, Option.none⟩) (fun h => absurd h (Nat.lt_irrefl _)) _).setCell (p := ⟨wr.heap.size, 1, Option.none⟩) (fun h => absurd h (Nat.lt_irrefl _)) _⟩
            case rest =>
              obtain ⟨g, p2, c2, rfl, rfl, hbg, hg, v2, k2⟩ := hcut
              have hD2 := k2.lies HD.out
              obtain ⟨hb0, hb1⟩ := two_cells hD2
              obtain ⟨hf0, hf1⟩ := two_free hD2
              obtain ⟨hg0, hg1⟩ := two_cells hg
              obtain ⟨hx0, hx1, hx2⟩ := HS _ k2
              have i2 := HI.out.keep k2 (fun h => h) (fun h => h)
              have ksz := Nat.le_trans hsz k2.size
              have I2 := hid i2
              have V2 := hid v2
              have HD2 := hid hD2
              clear hg hD2 v2 i2 HS
              go_wp2_with fail
              obtain ⟨hDx, kx⟩ := set_doc2 (.int .i64 R) (.slice p2 n c2) HD2.out
              have ix := I2.out.keep kx (fun e => by rw [At] at e; omega) (fun e => by rw [At] at e; omega)
              have vx := V2.out.keep kx (fun g hg _ e => by rw [At] at e; omega)
              have kwx : Keeps Nil w _ := (hkeep.thenNil k2).thenAt kx hbw
              have sx := Nat.le_trans ksz kx.size
              refine (Qi.push_full q c R (ints l) (.int .i64 x) _ ix (by rw [ints_len, HN.out]; omega)).mono ?_; rintro e w4 ⟨rfl, rfl⟩
              obtain ⟨hb0, hb1⟩ := two_cells hDx
              have HD4 := hid hDx
              have V4 := hid vx
              have I4 := hid ix
              have HKW4 := hid kwx
              clear hDx ix vx kx kwx
              go_wp2_with fail
              refine (same_any q c R n c2 (b + 1) p2 l _ I4.out V4.out (by omega) h2 (by omega)).mono ?_; rintro e w5 ⟨rfl, i5, k5⟩
              have hD5 := k5.lies HD4.out (fun e => by rw [At] at e; omega)
              have v5 := V4.out.keep k5 (fun g hg _ e => by rw [At] at e; omega)
              have kw5 := HKW4.out.thenAt k5 hc
              have s5 := Nat.le_trans sx k5.size
              go_wp2_with fail
              go_roundw
              case rel => exact ⟨k + 1, l, by go_num, by omega, kw5, i5, ⟨p2, c2, by rw [HN.out]; exact hD5, by rw [HN.out]; exact v5⟩, by rw [HN.out]; exact hroom, s5⟩
              case measure => simp only [intOf]; omega
    · go_wp2_with (go_at_call 7; refine (wakes_any _).mono ?_; rintro e w2 ⟨rfl, k2⟩)
      go_ret
      exact ⟨rfl, hkeep.trans k2⟩
end Go.Proofs.Ytifplckiginijaa
