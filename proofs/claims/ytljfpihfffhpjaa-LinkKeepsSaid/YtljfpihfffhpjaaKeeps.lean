/-
  The statement LinkKeeps, walked. Condition: the acts lie in their cells.
-/
import Derived.Test.YtljfpihfffhpjaaEnds
import Derived.Deep.CutBlock
namespace Go.Proofs.Ytljfpihfffhpjaa
open Go.RowKit Go.Conc
set_option linter.unusedVariables false

theorem two_of {w : World} {b : Nat} {T : TypeId} {x0 x1 : Value} (h : w.heap[b]? = some (.cells #[x0, x1] T (0, 0))) :
    w.cell? ⟨b, 0, Option.none⟩ = some x0 ∧ w.cell? ⟨b, 1, Option.none⟩ = some x1 ∧ w.frozen? ⟨b, 0, Option.none⟩ = false ∧ w.frozen? ⟨b, 1, Option.none⟩ = false := by
  simp [World.cell?, World.frozen?, h]
theorem three_allocs (w : World) (A B C : Obj) : (((w.alloc A).alloc B).alloc C).heap[w.heap.size]? = some A ∧ (((w.alloc A).alloc B).alloc C).heap[w.heap.size + 1]? = some B ∧ (((w.alloc A).alloc B).alloc C).heap[w.heap.size + 2]? = some C := by
  obtain ⟨h1, h2⟩ := two_allocs w A B
  obtain ⟨_, h3⟩ := two_allocs (w.alloc A) B C
  rw [show (w.alloc A).heap.size = w.heap.size + 1 from by simp] at h3
  have k : Keeps Nil ((w.alloc A).alloc B) (((w.alloc A).alloc B).alloc C) := (Keeps.refl _ _).alloc _
  exact ⟨(k.block _ (lt_of_block h1) (fun e => e)).trans h1, (k.block _ (lt_of_block h2) (fun e => e)).trans h2, h3⟩

/-- What holds at a round's head; how long the rows are. -/
def HeadN (w : World) (acts : List (Int × Int)) (x q0 c0 q1 c1 B : Nat) (k : Nat) (wr : World) (n0 n1 : Nat) : Prop :=
  ∃ (u : Bool) (d0 l0 : Int) (xs0 : List Value) (d1 l1 : Int) (xs1 : List Value) (s0 s1 m0 m1 t0 t1 : Int),
    Lk wr x u q0 c0 d0 l0 xs0 q1 c1 d1 l1 xs1 ∧ wr.heap[B]? = some (.cells #[.int .i64 s0, .int .i64 s1] 26 (0, 0)) ∧ wr.heap[B + 1]? = some (.cells #[.int .i64 m0, .int .i64 m1] 26 (0, 0)) ∧
    wr.heap[B + 2]? = some (.cells #[.int .i64 t0, .int .i64 t1] 26 (0, 0)) ∧ EndOK acts k s0 m0 t0 l0 xs0 ∧ EndOK acts k s1 m1 t1 l1 xs1 ∧ 0 ≤ d0 ∧ d0 ≤ k ∧ 0 ≤ d1 ∧ d1 ≤ k ∧ Keeps Nil w wr ∧ xs0.length = n0 ∧ xs1.length = n1
theorem HeadN.keep {w : World} {acts : List (Int × Int)} {x q0 c0 q1 c1 B k : Nat} {wr w' : World} {n0 n1 : Nat} (h : HeadN w acts x q0 c0 q1 c1 B k wr n0 n1) (K : Keeps Nil wr w') : HeadN w acts x q0 c0 q1 c1 B k w' n0 n1 := by
  obtain ⟨u, d0, l0, xs0, d1, l1, xs1, s0, s1, m0, m1, t0, t1, iL, bs, bc, bl, E0, E1, hd0, hd0', hd1, hd1', hkeep, hn0, hn1⟩ := h
  exact ⟨u, d0, l0, xs0, d1, l1, xs1, s0, s1, m0, m1, t0, t1, iL.keepN K, (K.block _ (lt_of_block bs) (fun e => e)).trans bs, (K.block _ (lt_of_block bc) (fun e => e)).trans bc, (K.block _ (lt_of_block bl) (fun e => e)).trans bl, E0, E1, hd0, hd0', hd1, hd1', hkeep.trans K, hn0, hn1⟩
def Head (w : World) (acts : List (Int × Int)) (x q0 c0 q1 c1 B : Nat) (k : Nat) (wr : World) : Prop := ∃ n0 n1, HeadN w acts x q0 c0 q1 c1 B k wr n0 n1

theorem frm_get0 (n : Nat) (hn : n < 65536) (h : 0 < (frm n).size) : ((frm n)[0]'h).toNat = n / 256 := by
  show (UInt8.ofNat (((n : Int) / 256).toNat)).toNat = _
  simp
  omega
theorem frm_get1 (n : Nat) (hn : n < 65536) (h : 1 < (frm n).size) : ((frm n)[1]'h).toNat = n % 256 := by
  show (UInt8.ofNat (((n : Int) % 256).toNat)).toNat = _
  simp
  omega
theorem frm_num (n : Nat) (hn : n < 65536) : wrap64 (wrap64 (wrap64 ((n / 256 : Nat) : Int) * 256) + wrap64 ((n % 256 : Nat) : Int)) = n := by
  have e : ∀ x : Int, 0 ≤ x → x < 100000 → wrap64 x = x := fun x h1 h2 => by unfold wrap64; omega
  rw [e ((n / 256 : Nat) : Int) (by omega) (by omega), e (((n / 256 : Nat) : Int) * 256) (by omega) (by omega), e ((n % 256 : Nat) : Int) (by omega) (by omega), e _ (by omega) (by omega)]
  omega
theorem wrap_little (x : Int) (h1 : 0 ≤ x) (h2 : x < 100000) : IntKind.i64.wrap x = x := by
  rw [IntKind.wrap_i64]; omega
theorem own_not {x c0 c1 q0 q1 N g : Nat} (h : x < N ∧ q0 < N ∧ c0 < N ∧ q1 < N ∧ c1 < N) (hg : N ≤ g) : ¬ Own x c0 c1 g := by
  rintro (rfl | rfl | rfl) <;> omega

set_option maxRecDepth 6000 in
set_option maxHeartbeats 60000000 in
theorem keeps_any (a : Option Addr) (n cap : Nat) (acts : List (Int × Int)) (w : World) (hn : n ≤ 300) (h : 0 < n → ∃ b o, a = some ⟨b, o, Option.none⟩ ∧ b < w.heap.size ∧ Acts w b o n acts) :
    Calls Try.prog 3 #[.slice a n cap] w fun e w' => e = .returned (.bool true) ∧ Keeps Nil w w' := by
  have HH := hid h
  clear h
  go_enter Try.func3, Try.ntmps3
  go_wp2_with fail
  refine (new_any _).mono ?_; rintro e w1 ⟨x, q0, c0, q1, c1, rfl, i1, hx, hc0, hc1, k1⟩
  have HX := hid (And.intro hx (And.intro hc0 hc1))
  have HI := hid i1
  clear i1 hx hc0 hc1
  go_wp2_with fail
  go_loopw [7] (fun v wr => ∃ k : Nat, k ≤ n ∧ v = .int .i64 k ∧ Hid (Head w acts x q0 c0 q1 c1 w1.heap.size k wr)) (fun v _ => n - (intOf v).toNat)
  case atStart =>
    obtain ⟨b1, b2, b3⟩ := three_allocs w1 (.cells #[.int .i64 0, .int .i64 0] 26 (0, 0)) (.cells #[.int .i64 0, .int .i64 0] 26 (0, 0)) (.cells #[.int .i64 0, .int .i64 0] 26 (0, 0))
    exact ⟨0, Nat.zero_le _, rfl, hid ⟨0, 0, false, 0, 0, [], 0, 0, [], 0, 0, 0, 0, 0, 0, HI.out.keepN ((((Keeps.refl _ _).alloc _).alloc _).alloc _), b1, b2, b3, EndOK.start, EndOK.start, by omega, by omega, by omega, by omega, ((k1.alloc _).alloc _).alloc _, rfl, rfl⟩⟩
  case round =>
    obtain ⟨k, hk, rfl, hh⟩ := hrel
    by_cases hlt : k < n
    · obtain ⟨b, o, rfl, hb, hr⟩ := HH.out (by omega)
      obtain ⟨⟨dv, en⟩, ha⟩ : ∃ x, acts[k]? = some x := ⟨_, List.getElem?_eq_getElem (by have := hr.1; omega)⟩
      have hhead := hh.out
      obtain ⟨n0, n1, u, d0, l0, xs0, d1, l1, xs1, s0, s1, m0, m1, t0, t1, iL, bs, bc, bl, E0, E1, hd0, hd0', hd1, hd1', hkeep, hn0, hn1⟩ := hhead
      clear hn0 hn1
      obtain ⟨g0, g1, hdv⟩ := (hr.keep hkeep hb (fun e => e)).2 k (dv, en) ha
      have HR := hid hr
      have HA := hid ha
      have HL := hid iL
      have BS := hid bs
      have BC := hid bc
      have BL := hid bl
      have HE0 := hid E0
      have HE1 := hid E1
      have HK := hid hkeep
      have HD := hid (And.intro hd0 (And.intro hd0' (And.intro hd1 hd1')))
      clear hr ha iL bs bc bl E0 E1 hkeep hh hd0 hd0' hd1 hd1'
      go_upto_region 9 with (fail)
      obtain ⟨e, he, hcase⟩ : ∃ e : Nat, e < 2 ∧ ((en < 0 ∧ e = 0) ∨ (¬ en < 0 ∧ 1 < en ∧ e = 0) ∨ (¬ en < 0 ∧ ¬ 1 < en ∧ en = e)) := by
        by_cases h1 : en < 0
        · exact ⟨0, by omega, .inl ⟨h1, rfl⟩⟩
        · by_cases h2 : 1 < en
          · exact ⟨0, by omega, .inr (.inl ⟨h1, h2, rfl⟩)⟩
          · exact ⟨en.toNat, by omega, .inr (.inr ⟨h1, h2, by omega⟩)⟩
      have HC := hid hcase
      clear hcase
      go_cut [37] (fun s37 wx => s37 = .bool (decide (¬ en = (e : Int))) ∧ wx = wr)
      case first =>
        rcases HC.out with ⟨h1, rfl⟩ | ⟨h1, h2, rfl⟩ | ⟨h1, h2, h3⟩
        · go_wp2_with fail
          go_meet
          exact ⟨by simp; omega, rfl⟩
        · go_wp2_with fail
          go_meet
          exact ⟨by simp; omega, rfl⟩
        · as_aux_lemma =>
          subst h3
          go_wp2_with fail
          go_meet
          exact ⟨by simp, rfl⟩
      case rest =>
      obtain ⟨rfl, hwx⟩ := hcut
      subst hwx
      go_upto_if 37 with (fail)
      go_cut [8] (fun s8 wx => s8 = .int .i64 e ∧ wx = wc)
      case first =>
        by_cases h3 : en = (e : Int)
        · as_aux_lemma =>
          subst h3
          go_wp2_with fail
          go_meet
          exact ⟨rfl, rfl⟩
        · have he0 : e = 0 := by rcases HC.out with ⟨h1, h⟩ | ⟨h1, h2, h⟩ | ⟨h1, h2, h⟩ <;> omega
          subst he0
          go_wp2_with fail
          go_meet
          exact ⟨rfl, rfl⟩
      case rest =>
        obtain ⟨rfl, hwx⟩ := hcut
        subst hwx
        have he2 : e = 0 ∨ e = 1 := by omega
        rcases he2 with rfl | rfl
        · go_wp2_with fail
          refine (len1 _ _ _ _ _ _ _ _ _ _ _ _ _ HL.out).mono ?_; rintro ee w2 ⟨rfl, k2⟩
          have L2 := hid (HL.out.keepN k2)
          go_wp2_with fail
          refine (len0 _ _ _ _ _ _ _ _ _ _ _ _ _ L2.out).mono ?_; rintro ee w3 ⟨rfl, k3⟩
          have K3 := hid (k2.trans k3)
          have L3 := hid (L2.out.keepN k3)
          obtain ⟨g0, g1, _⟩ := (HR.out.keep (HK.out.trans K3.out) hb (fun e => e)).2 k (dv, en) HA.out
          have BS3 := hid ((K3.out.block _ (lt_of_block BS.out) (fun e => e)).trans BS.out)
          have BC3 := hid ((K3.out.block _ (lt_of_block BC.out) (fun e => e)).trans BC.out)
          have BL3 := hid ((K3.out.block _ (lt_of_block BL.out) (fun e => e)).trans BL.out)
          have KW := hid (HK.out.trans K3.out)
          clear k2 k3 L2
          go_upto_block 2 with (fail)
          go_cut [9, 10] (fun s9 s10 wx => ∃ n0 n1 : Nat, s9 = .int .i64 n1 ∧ Hid (HeadN w acts x q0 c0 q1 c1 w1.heap.size (k + 1) wx n0 n1))
          case first =>
            by_cases h0 : dv = 0
            · subst h0
              rcases hxs : xs0 with _ | ⟨v, ys⟩
              · as_aux_lemma =>
                have L4 := hid L3.out
                rw [hxs] at L4
                go_wp2_with fail
                refine (come0_none _ _ _ _ _ _ _ _ _ _ _ _ _ L4.out rfl).mono ?_; rintro ee w4 ⟨rfl, k4⟩
                go_wp2_with fail
                go_meet
                have B4 := hid ((k4.block _ (lt_of_block BS3.out) (fun e => e)).trans BS3.out)
                have C4 := hid ((k4.block _ (lt_of_block BC3.out) (fun e => e)).trans BC3.out)
                have T4 := hid ((k4.block _ (lt_of_block BL3.out) (fun e => e)).trans BL3.out)
                exact ⟨_, _, rfl, hid ⟨u, d0, l0, xs0, d1, l1, xs1, s0, s1, m0, m1, t0, t1, L3.out.keepN k4, B4.out, C4.out, T4.out, HE0.out.next, HE1.out.next, by have := HD.out; omega, by have := HD.out; omega, by have := HD.out; omega, by have := HD.out; omega, KW.out.trans k4, rfl, rfl⟩⟩
              · as_aux_lemma =>
                obtain ⟨nn, rfl, hnk, hnl, ⟨aa, haa, h4aa⟩, EC, EL⟩ := (show EndOK acts k s0 m0 t0 l0 (v :: ys) from hxs ▸ HE0.out).first
                have L4 := hid L3.out
                rw [hxs] at L4
                have bm : 0 ≤ m0 := by have := HE0.out.nums; omega
                have bm' : m0 ≤ 300 := by have := HE0.out.nums; omega
                have HEC := hid EC
                have hsz := frm_size nn
                clear EL EC
                have HNL := hid hnl
                clear hnl
                go_wp2_with fail
                refine (come0_some _ _ _ _ _ _ _ _ _ _ _ _ _ L4.out _ ys rfl).mono ?_; rintro ee w4 ⟨rfl, i4, k4⟩
                go_upto_region 24 with (fail)
                go_region
                simp only [frm_get0 nn (by omega), frm_get1 nn (by omega), frm_num nn (by omega)]
                have hox := own_le HX.out.1 HX.out.2.1 HX.out.2.2
                have hlx := HI.out.lt
                have B4 := hid ((k4.block _ (lt_of_block BS3.out) (fun e => own_not hlx (by omega) e)).trans BS3.out)
                have C4 := hid ((k4.block _ (lt_of_block BC3.out) (fun e => own_not hlx (by omega) e)).trans BC3.out)
                have T4 := hid ((k4.block _ (lt_of_block BL3.out) (fun e => own_not hlx (by omega) e)).trans BL3.out)
                have K5 := hid (KW.out.thenOwn k4 hox)
                have HK4 := hid k4
                obtain ⟨ga, _, _⟩ := (HR.out.keep K5.out hb (fun e => e)).2 nn aa haa
                obtain ⟨y0, y1, z0, z1⟩ := two_of C4.out
                obtain ⟨y2, y3, z2, z3⟩ := two_of T4.out
                have hx1 : decide ((n : Int) ≤ (nn : Int)) = false := by simp; omega
                have hx2 : decide (aa.1 < 4) = false := by simp; omega
                have L5 := hid i4
                have hnn : nn < n := by omega
                clear i4 k4 hnk
                have hor : decide ((nn : Int) ≤ t0) = false ∨ (decide ((nn : Int) ≤ t0) = true ∧ decide (0 < m0) = false) := by
                  by_cases hc : 0 < m0
                  · have := HNL.out hc
                    exact .inl (by simp; omega)
                  · by_cases hd : (nn : Int) ≤ t0
                    · exact .inr ⟨by simp; omega, by simp; omega⟩
                    · exact .inl (by simp; omega)
                have HX3 := hid hox
                clear hox
                rcases hor with hA | ⟨hA, hB⟩
                all_goals
                  go_wp2_with fail
                  go_meet
                  have kx1 : Keeps (At (w1.heap.size + 1 + 1)) w4 (w4.setCell ⟨w1.heap.size + 1 + 1, 0, Option.none⟩ (.int .i64 nn)) := (Keeps.refl _ _).set _ _ (at_self _) _
                  have kx2 : Keeps (At (w1.heap.size + 1)) (w4.setCell ⟨w1.heap.size + 1 + 1, 0, Option.none⟩ (.int .i64 nn)) ((w4.setCell ⟨w1.heap.size + 1 + 1, 0, Option.none⟩ (.int .i64 nn)).setCell ⟨w1.heap.size + 1, 0, Option.none⟩ (.int .i64 (m0 + 1))) := (Keeps.refl _ _).set _ _ (at_self _) _
                  have B6 := (kx2.block _ (lt_of_block ((kx1.block _ (lt_of_block B4.out) (fun e => by rw [At] at e; omega)).trans B4.out)) (fun e => by rw [At] at e; omega)).trans ((kx1.block _ (lt_of_block B4.out) (fun e => by rw [At] at e; omega)).trans B4.out)
                  have C6 := setCell_block ((kx1.block _ (lt_of_block C4.out) (fun e => by rw [At] at e; omega)).trans C4.out) 0 (.int .i64 (m0 + 1))
                  have T5 := setCell_block T4.out 0 (.int .i64 nn)
                  have T6 := (kx2.block _ (lt_of_block T5) (fun e => by rw [At] at e; omega)).trans T5
                  have L6 := HI.out.past (HI.out.past L5.out kx1 (fun g hg e => by rw [At] at e; omega)) kx2 (fun g hg e => by rw [At] at e; omega)
                  have k6 := ((K5.out.thenAt kx1 (by have := k1.size; omega)).thenAt kx2 (by have := k1.size; omega))
                  first
                    | exact ⟨_, _, rfl, hid ⟨u, d0, l0, ys, d1, l1, xs1, s0, s1, (m0 + 1), m1, nn, t1, L6, B6, C6, T6, HEC.out, HE1.out.next, by have := HD.out; omega, by have := HD.out; omega, by have := HD.out; omega, by have := HD.out; omega, k6, rfl, rfl⟩⟩
                    | exact ⟨_, _, rfl, hid ⟨u, d0, l0, ys, d1, l1, xs1, s0, s1, (m0 + 1), m1, nn, t1, L6, B6, C6, T6, HEC.out, HE1.out.next, by have := HD.out; omega, by have := HD.out; omega, by have := HD.out; omega, by have := HD.out; omega, k6.drew, rfl, rfl⟩⟩
            · by_cases h1 : dv = 1
              · subst h1
                rcases hxs : xs0 with _ | ⟨v, ys⟩
                · as_aux_lemma =>
                  have L4 := hid L3.out
                  rw [hxs] at L4
                  go_wp2_with fail
                  refine (lose0_none _ _ _ _ _ _ _ _ _ _ _ _ _ L4.out rfl).mono ?_; rintro ee w4 ⟨rfl, rfl⟩
                  go_wp2_with fail
                  go_meet
                  exact ⟨_, _, rfl, hid ⟨u, d0, l0, xs0, d1, l1, xs1, s0, s1, m0, m1, t0, t1, L3.out, BS3.out, BC3.out, BL3.out, HE0.out.next, HE1.out.next, by have := HD.out; omega, by have := HD.out; omega, by have := HD.out; omega, by have := HD.out; omega, KW.out, rfl, rfl⟩⟩
                · as_aux_lemma =>
                  obtain ⟨nn, rfl, hnk, hnl, hna, EC, EL⟩ := (show EndOK acts k s0 m0 t0 l0 (v :: ys) from hxs ▸ HE0.out).first
                  have hnum := HE0.out.nums
                  have L4 := hid L3.out
                  rw [hxs] at L4
                  have HEL := hid EL
                  clear EC EL
                  go_wp2_with fail
                  refine (lose0_some _ _ _ _ _ _ _ _ _ _ _ _ _ L4.out _ ys rfl (by omega) (by omega)).mono ?_; rintro ee w4 ⟨rfl, i4, k4⟩
                  go_wp2_with fail
                  go_meet
                  have hox := own_le HX.out.1 HX.out.2.1 HX.out.2.2
                  have hlx := HI.out.lt
                  have B4 := hid ((k4.block _ (lt_of_block BS3.out) (fun e => own_not hlx (by omega) e)).trans BS3.out)
                  have C4 := hid ((k4.block _ (lt_of_block BC3.out) (fun e => own_not hlx (by omega) e)).trans BC3.out)
                  have T4 := hid ((k4.block _ (lt_of_block BL3.out) (fun e => own_not hlx (by omega) e)).trans BL3.out)
                  exact ⟨_, _, rfl, hid ⟨u, d0, (l0 + 1), ys, d1, l1, xs1, s0, s1, m0, m1, t0, t1, i4, B4.out, C4.out, T4.out, HEL.out, HE1.out.next, by have := HD.out; omega, by have := HD.out; omega, by have := HD.out; omega, by have := HD.out; omega, KW.out.thenOwn k4 hox, rfl, rfl⟩⟩
              · by_cases h2 : dv = 2
                · as_aux_lemma =>
                  subst h2
                  have L4 := hid L3.out
                  go_wp2_with fail
                  refine (up_any _ _ _ _ _ _ _ _ _ _ _ _ _ L4.out).mono ?_; rintro ee w4 ⟨rfl, i4, k4⟩
                  go_wp2_with fail
                  go_meet
                  have hox := own_le HX.out.1 HX.out.2.1 HX.out.2.2
                  have hlx := HI.out.lt
                  have B4 := hid ((k4.block _ (lt_of_block BS3.out) (fun e => own_not hlx (by omega) e)).trans BS3.out)
                  have C4 := hid ((k4.block _ (lt_of_block BC3.out) (fun e => own_not hlx (by omega) e)).trans BC3.out)
                  have T4 := hid ((k4.block _ (lt_of_block BL3.out) (fun e => own_not hlx (by omega) e)).trans BL3.out)
                  exact ⟨_, _, rfl, hid ⟨true, d0, l0, xs0, d1, l1, xs1, s0, s1, m0, m1, t0, t1, i4, B4.out, C4.out, T4.out, HE0.out.next, HE1.out.next, by have := HD.out; omega, by have := HD.out; omega, by have := HD.out; omega, by have := HD.out; omega, KW.out.thenOwn k4 hox, rfl, rfl⟩⟩
                · by_cases h3 : dv = 3
                  · as_aux_lemma =>
                    subst h3
                    have hn0 := HE0.out.nums
                    have hn1 := HE1.out.nums
                    have hsum : ((xs0.length + xs1.length : Nat) : Int) = (xs0.length : Int) + (xs1.length : Int) := by push_cast; omega
                    have HSUM := hid hsum
                    have HN0 := hid hn0
                    have HN1 := hid hn1
                    clear hsum hn0 hn1
                    go_wp2_with fail
                    refine (down_any _ _ _ _ _ _ _ _ _ _ _ _ _ L3.out (by have := HN0.out; omega) (by have := HN1.out; omega) (by have := HN0.out; omega) (by have := HN0.out; omega) (by have := HN1.out; omega) (by have := HN1.out; omega)).mono ?_; rintro ee w4 ⟨rfl, i4, k4⟩
                    rw [HSUM.out]
                    have b1 : (xs0.length : Int) ≤ 64 := by have := HN0.out; omega
                    have b2 : (xs1.length : Int) ≤ 64 := by have := HN1.out; omega
                    go_wp2_with fail
                    go_meet
                    have hox := own_le HX.out.1 HX.out.2.1 HX.out.2.2
                    have hlx := HI.out.lt
                    have B4 := hid ((k4.block _ (lt_of_block BS3.out) (fun e => own_not hlx (by omega) e)).trans BS3.out)
                    have C4 := hid ((k4.block _ (lt_of_block BC3.out) (fun e => own_not hlx (by omega) e)).trans BC3.out)
                    have T4 := hid ((k4.block _ (lt_of_block BL3.out) (fun e => own_not hlx (by omega) e)).trans BL3.out)
                    exact ⟨0, 0, rfl, hid ⟨false, d0, (l0 + xs0.length), [], d1, (l1 + xs1.length), [], s0, s1, m0, m1, t0, t1, i4, B4.out, C4.out, T4.out, HE0.out.clear, HE1.out.clear, by have := HD.out; omega, by have := HD.out; omega, by have := HD.out; omega, by have := HD.out; omega, KW.out.thenOwn k4 hox, rfl, rfl⟩⟩
                  · have h4 : 4 ≤ dv := by omega
                    have F1 : ∀ W, Calls Try.prog 14 #[.int .i64 k] W fun e w' => e = .returned (.string (frm k)) ∧ Keeps Nil W w' := frame_any k (by omega)
                    have HF := hid F1
                    clear F1
                    cases u with
                    | false =>
                      as_aux_lemma =>
                      go_wp2_with fail
                      refine (HF.out _).mono ?_; rintro ee wf ⟨rfl, kf⟩
                      go_wp2_with fail
                      refine (send0_down _ _ _ _ _ _ _ _ _ _ _ _ _ (L3.out.keepN kf) _ (by rw [frm_size]; omega) rfl).mono ?_; rintro ee w4 ⟨rfl, k4'⟩
                      have k4 := kf.trans k4'
                      have L4 := hid (L3.out.keepN k4)
                      go_wp2_with fail
                      refine (isup_any _ _ _ _ _ _ _ _ _ _ _ _ _ L4.out).mono ?_; rintro ee w5 ⟨rfl, rfl⟩
                      go_wp2_with fail
                      go_meet
                      have B4 := hid ((k4.block _ (lt_of_block BS3.out) (fun e => e)).trans BS3.out)
                      have C4 := hid ((k4.block _ (lt_of_block BC3.out) (fun e => e)).trans BC3.out)
                      have T4 := hid ((k4.block _ (lt_of_block BL3.out) (fun e => e)).trans BL3.out)
                      exact ⟨_, _, rfl, hid ⟨false, d0, l0, xs0, d1, l1, xs1, s0, s1, m0, m1, t0, t1, L4.out, B4.out, C4.out, T4.out, HE0.out.next, HE1.out.next, by have := HD.out; omega, by have := HD.out; omega, by have := HD.out; omega, by have := HD.out; omega, KW.out.trans k4, rfl, rfl⟩⟩
                    | true =>
                      by_cases hful : xs0.length < 64
                      · as_aux_lemma =>
                        have hb : decide ((xs0.length : Int) < 64) = true := by simp; omega
                        go_wp2_with fail
                        refine (HF.out _).mono ?_; rintro ee wf ⟨rfl, kf⟩
                        go_wp2_with fail
                        refine (send0_room _ _ _ _ _ _ _ _ _ _ _ _ _ (L3.out.keepN kf) _ (by rw [frm_size]; omega) rfl hful).mono ?_; rintro ee w4 ⟨rfl, i4, k4'⟩
                        have k4 := kf.ofNil.trans k4'
                        have L4 := hid i4
                        have hox := own_le HX.out.1 HX.out.2.1 HX.out.2.2
                        have hlx := HI.out.lt
                        have B4 := hid ((k4.block _ (lt_of_block BS3.out) (fun e => own_not hlx (by omega) e)).trans BS3.out)
                        have C4 := hid ((k4.block _ (lt_of_block BC3.out) (fun e => own_not hlx (by omega) e)).trans BC3.out)
                        have T4 := hid ((k4.block _ (lt_of_block BL3.out) (fun e => own_not hlx (by omega) e)).trans BL3.out)
                        obtain ⟨y0, y1, z0, z1⟩ := two_of B4.out
                        have bs : s0 ≤ k := by have := HE0.out.nums; omega
                        have bs' : 0 ≤ s0 := by have := HE0.out.nums; omega
                        go_wp2_with fail
                        refine (isup_any _ _ _ _ _ _ _ _ _ _ _ _ _ L4.out).mono ?_; rintro ee w5 ⟨rfl, rfl⟩
                        go_wp2_with fail
                        go_meet
                        have kx : Keeps (At w1.heap.size) w4 (w4.setCell ⟨w1.heap.size, 0, Option.none⟩ (.int .i64 (s0 + 1))) := (Keeps.refl _ _).set _ _ (at_self _) _
                        have B5 := setCell_block B4.out 0 (.int .i64 (s0 + 1))
                        have C5 := (kx.block _ (lt_of_block C4.out) (fun e => by rw [At] at e; omega)).trans C4.out
                        have T5 := (kx.block _ (lt_of_block T4.out) (fun e => by rw [At] at e; omega)).trans T4.out
                        have L5 := HI.out.past L4.out kx (fun g hg e => by rw [At] at e; omega)
                        have hp := HE0.out.push HA.out h4 hful
                        exact ⟨_, _, rfl, hid ⟨true, d0, l0, (xs0 ++ [.string (frm k)]), d1, l1, xs1, (s0 + 1), s1, m0, m1, t0, t1, L5, B5, C5, T5, hp, HE1.out.next, by have := HD.out; omega, by have := HD.out; omega, by have := HD.out; omega, by have := HD.out; omega, (KW.out.thenOwn k4 hox).thenAt kx k1.size, rfl, rfl⟩⟩
                      · as_aux_lemma =>
                        have hb : decide ((xs0.length : Int) < 64) = false := by simp; omega
                        go_wp2_with fail
                        refine (HF.out _).mono ?_; rintro ee wf ⟨rfl, kf⟩
                        go_wp2_with fail
                        refine (send0_full _ _ _ _ _ _ _ _ _ _ _ _ _ (L3.out.keepN kf) _ (by rw [frm_size]; omega) rfl (by omega) (by have := HD.out; omega) (by have := HD.out; omega)).mono ?_; rintro ee w4 ⟨rfl, i4, k4'⟩
                        have k4 := kf.ofNil.trans k4'
                        have L4 := hid i4
                        go_wp2_with fail
                        refine (isup_any _ _ _ _ _ _ _ _ _ _ _ _ _ L4.out).mono ?_; rintro ee w5 ⟨rfl, rfl⟩
                        go_wp2_with fail
                        go_meet
                        have hox := own_le HX.out.1 HX.out.2.1 HX.out.2.2
                        have hlx := HI.out.lt
                        have B4 := hid ((k4.block _ (lt_of_block BS3.out) (fun e => own_not hlx (by omega) e)).trans BS3.out)
                        have C4 := hid ((k4.block _ (lt_of_block BC3.out) (fun e => own_not hlx (by omega) e)).trans BC3.out)
                        have T4 := hid ((k4.block _ (lt_of_block BL3.out) (fun e => own_not hlx (by omega) e)).trans BL3.out)
                        exact ⟨_, _, rfl, hid ⟨true, (d0 + 1), l0, xs0, d1, l1, xs1, s0, s1, m0, m1, t0, t1, L4.out, B4.out, C4.out, T4.out, HE0.out.next, HE1.out.next, by have := HD.out; omega, by have := HD.out; omega, by have := HD.out; omega, by have := HD.out; omega, KW.out.thenOwn k4 hox, rfl, rfl⟩⟩
          case rest =>
            as_aux_lemma =>
            obtain ⟨n0, n1, rfl, hh2⟩ := hcut
            have HH2 := hid hh2
            obtain ⟨u, d0, l0, xs0, d1, l1, xs1, s0, s1, m0, m1, t0, t1, iL, bs, bc, bl, E0, E1, hd0, hd0', hd1, hd1', hkeep, hn0, hn1⟩ := hh2.out
            have e0 := E0.nums
            have e1 := E1.nums
            obtain ⟨rfl, p1, p2, p3, p4⟩ := e0
            obtain ⟨rfl, r1, r2, r3, r4⟩ := e1
            have bl0 : l0 ≤ 1000 := by omega
            have bl1 : l1 ≤ 1000 := by omega
            have bm0 : m0 ≤ 1000 := by omega
            have bm1 : m1 ≤ 1000 := by omega
            have by0 : (xs0.length : Int) ≤ 64 := by omega
            have by1 : (xs1.length : Int) ≤ 64 := by omega
            have v0 : IntKind.i64.wrap l0 = l0 := wrap_little _ (by omega) (by omega)
            have v1 : IntKind.i64.wrap (m0 + l0) = m0 + l0 := wrap_little _ (by omega) (by omega)
            have v2 : IntKind.i64.wrap (m0 + l0 + (xs0.length : Int)) = m0 + l0 + (xs0.length : Int) := wrap_little _ (by omega) (by omega)
            have v3 : IntKind.i64.wrap l1 = l1 := wrap_little _ (by omega) (by omega)
            have v4 : IntKind.i64.wrap (m1 + l1) = m1 + l1 := wrap_little _ (by omega) (by omega)
            have v5 : IntKind.i64.wrap (m1 + l1 + (xs1.length : Int)) = m1 + l1 + (xs1.length : Int) := wrap_little _ (by omega) (by omega)
            have HLT := hid iL
            have S0 : ∀ W, Keeps Nil wc W → (W.cell? ⟨w1.heap.size, 0, Option.none⟩ = some (.int .i64 (m0 + l0 + (xs0.length : Int))) ∧ W.cell? ⟨w1.heap.size + 1, 0, Option.none⟩ = some (.int .i64 m0)) ∧
                (W.cell? ⟨w1.heap.size, 1, Option.none⟩ = some (.int .i64 (m1 + l1 + (xs1.length : Int))) ∧ W.cell? ⟨w1.heap.size + 1, 1, Option.none⟩ = some (.int .i64 m1)) := fun W K => by
              obtain ⟨y0, y1, _, _⟩ := two_of ((K.block _ (lt_of_block bs) (fun e => e)).trans bs)
              obtain ⟨y2, y3, _, _⟩ := two_of ((K.block _ (lt_of_block bc) (fun e => e)).trans bc)
              exact ⟨⟨y0, y2⟩, y1, y3⟩
            have HS0 := hid (fun W K => (S0 W K).1)
            have HS1 := hid (fun W K => (S0 W K).2)
            subst hn0
            subst hn1
            clear S0 iL bs bc bl E0 E1 hkeep hh2 hd0 hd0' hd1 hd1' p3 p4 r3 r4
            go_wp2_with fail
            refine (len1 _ _ _ _ _ _ _ _ _ _ _ _ _ HLT.out).mono ?_; rintro ee wz ⟨rfl, kz⟩
            have kk : Keeps Nil wc wz := kz
            go_wp2_with fail
            refine wp_loop_rounds 3 ?_
            rw [rounds_succ]
            go_wp2_with fail
            go_region_held3 (fun w' => w'.cell? ⟨w1.heap.size, 0, Option.none⟩ = some (.int .i64 (m0 + l0 + (xs0.length : Int))) ∧ w'.cell? ⟨w1.heap.size + 1, 0, Option.none⟩ = some (.int .i64 m0)) (first | exact HS0.out _ kk | exact HS0.out _ kk.drew | exact HS0.out _ kk.drew.drew) ((first
              | (go_at_call 16; refine (lost0 _ _ _ _ _ _ _ _ _ _ _ _ _ (HLT.out.keepN (by first | exact kk | exact kk.drew | exact kk.drew.drew))).mono ?_; rintro ee wz ⟨rfl, kz⟩; have kk : Keeps Nil wc wz := by first | exact kk.trans kz | exact kk.drew.trans kz | exact kk.drew.drew.trans kz)
              | (go_at_call 8; refine (len0 _ _ _ _ _ _ _ _ _ _ _ _ _ (HLT.out.keepN (by first | exact kk | exact kk.drew | exact kk.drew.drew))).mono ?_; rintro ee wz ⟨rfl, kz⟩; have kk : Keeps Nil wc wz := by first | exact kk.trans kz | exact kk.drew.trans kz | exact kk.drew.drew.trans kz)))
            go_wp2_with fail
            rw [rounds_succ]
            go_wp2_with fail
            go_region_held3 (fun w' => w'.cell? ⟨w1.heap.size, 1, Option.none⟩ = some (.int .i64 (m1 + l1 + (xs1.length : Int))) ∧ w'.cell? ⟨w1.heap.size + 1, 1, Option.none⟩ = some (.int .i64 m1)) (first | exact HS1.out _ kk | exact HS1.out _ kk.drew | exact HS1.out _ kk.drew.drew) ((first
              | (go_at_call 16; refine (lost1 _ _ _ _ _ _ _ _ _ _ _ _ _ (HLT.out.keepN (by first | exact kk | exact kk.drew | exact kk.drew.drew))).mono ?_; rintro ee wz ⟨rfl, kz⟩; have kk : Keeps Nil wc wz := by first | exact kk.trans kz | exact kk.drew.trans kz | exact kk.drew.drew.trans kz)
              | (go_at_call 8; refine (len1 _ _ _ _ _ _ _ _ _ _ _ _ _ (HLT.out.keepN (by first | exact kk | exact kk.drew | exact kk.drew.drew))).mono ?_; rintro ee wz ⟨rfl, kz⟩; have kk : Keeps Nil wc wz := by first | exact kk.trans kz | exact kk.drew.trans kz | exact kk.drew.drew.trans kz)))
            go_wp2_with fail
            rw [rounds_succ]
            go_wp2_with fail
            go_roundw
            case rel => exact ⟨k + 1, by omega, by go_num, hid ⟨_, _, by first | exact HH2.out.out.keep kk | exact HH2.out.out.keep kk.drew | exact HH2.out.out.keep kk.drew.drew⟩⟩
            case measure => simp only [intOf]; omega

        · go_wp2_with fail
          refine (len0 _ _ _ _ _ _ _ _ _ _ _ _ _ HL.out).mono ?_; rintro ee w2 ⟨rfl, k2⟩
          have L2 := hid (HL.out.keepN k2)
          go_wp2_with fail
          refine (len1 _ _ _ _ _ _ _ _ _ _ _ _ _ L2.out).mono ?_; rintro ee w3 ⟨rfl, k3⟩
          have K3 := hid (k2.trans k3)
          have L3 := hid (L2.out.keepN k3)
          obtain ⟨g0, g1, _⟩ := (HR.out.keep (HK.out.trans K3.out) hb (fun e => e)).2 k (dv, en) HA.out
          have BS3 := hid ((K3.out.block _ (lt_of_block BS.out) (fun e => e)).trans BS.out)
          have BC3 := hid ((K3.out.block _ (lt_of_block BC.out) (fun e => e)).trans BC.out)
          have BL3 := hid ((K3.out.block _ (lt_of_block BL.out) (fun e => e)).trans BL.out)
          have KW := hid (HK.out.trans K3.out)
          clear k2 k3 L2
          go_upto_block 2 with (fail)
          go_cut [9, 10] (fun s9 s10 wx => ∃ n0 n1 : Nat, s9 = .int .i64 n0 ∧ Hid (HeadN w acts x q0 c0 q1 c1 w1.heap.size (k + 1) wx n0 n1))
          case first =>
            by_cases h0 : dv = 0
            · subst h0
              rcases hxs : xs1 with _ | ⟨v, ys⟩
              · as_aux_lemma =>
                have L4 := hid L3.out
                rw [hxs] at L4
                go_wp2_with fail
                refine (come1_none _ _ _ _ _ _ _ _ _ _ _ _ _ L4.out rfl).mono ?_; rintro ee w4 ⟨rfl, k4⟩
                go_wp2_with fail
                go_meet
                have B4 := hid ((k4.block _ (lt_of_block BS3.out) (fun e => e)).trans BS3.out)
                have C4 := hid ((k4.block _ (lt_of_block BC3.out) (fun e => e)).trans BC3.out)
                have T4 := hid ((k4.block _ (lt_of_block BL3.out) (fun e => e)).trans BL3.out)
                exact ⟨_, _, rfl, hid ⟨u, d0, l0, xs0, d1, l1, xs1, s0, s1, m0, m1, t0, t1, L3.out.keepN k4, B4.out, C4.out, T4.out, HE0.out.next, HE1.out.next, by have := HD.out; omega, by have := HD.out; omega, by have := HD.out; omega, by have := HD.out; omega, KW.out.trans k4, rfl, rfl⟩⟩
              · as_aux_lemma =>
                obtain ⟨nn, rfl, hnk, hnl, ⟨aa, haa, h4aa⟩, EC, EL⟩ := (show EndOK acts k s1 m1 t1 l1 (v :: ys) from hxs ▸ HE1.out).first
                have L4 := hid L3.out
                rw [hxs] at L4
                have bm : 0 ≤ m1 := by have := HE1.out.nums; omega
                have bm' : m1 ≤ 300 := by have := HE1.out.nums; omega
                have HEC := hid EC
                have hsz := frm_size nn
                clear EL EC
                have HNL := hid hnl
                clear hnl
                go_wp2_with fail
                refine (come1_some _ _ _ _ _ _ _ _ _ _ _ _ _ L4.out _ ys rfl).mono ?_; rintro ee w4 ⟨rfl, i4, k4⟩
                go_upto_region 24 with (fail)
                go_region
                simp only [frm_get0 nn (by omega), frm_get1 nn (by omega), frm_num nn (by omega)]
                have hox := own_le HX.out.1 HX.out.2.1 HX.out.2.2
                have hlx := HI.out.lt
                have B4 := hid ((k4.block _ (lt_of_block BS3.out) (fun e => own_not hlx (by omega) e)).trans BS3.out)
                have C4 := hid ((k4.block _ (lt_of_block BC3.out) (fun e => own_not hlx (by omega) e)).trans BC3.out)
                have T4 := hid ((k4.block _ (lt_of_block BL3.out) (fun e => own_not hlx (by omega) e)).trans BL3.out)
                have K5 := hid (KW.out.thenOwn k4 hox)
                have HK4 := hid k4
                obtain ⟨ga, _, _⟩ := (HR.out.keep K5.out hb (fun e => e)).2 nn aa haa
                obtain ⟨y0, y1, z0, z1⟩ := two_of C4.out
                obtain ⟨y2, y3, z2, z3⟩ := two_of T4.out
                have hx1 : decide ((n : Int) ≤ (nn : Int)) = false := by simp; omega
                have hx2 : decide (aa.1 < 4) = false := by simp; omega
                have L5 := hid i4
                have hnn : nn < n := by omega
                clear i4 k4 hnk
                have hor : decide ((nn : Int) ≤ t1) = false ∨ (decide ((nn : Int) ≤ t1) = true ∧ decide (0 < m1) = false) := by
                  by_cases hc : 0 < m1
                  · have := HNL.out hc
                    exact .inl (by simp; omega)
                  · by_cases hd : (nn : Int) ≤ t1
                    · exact .inr ⟨by simp; omega, by simp; omega⟩
                    · exact .inl (by simp; omega)
                have HX3 := hid hox
                clear hox
                rcases hor with hA | ⟨hA, hB⟩
                all_goals
                  go_wp2_with fail
                  go_meet
                  have kx1 : Keeps (At (w1.heap.size + 1 + 1)) w4 (w4.setCell ⟨w1.heap.size + 1 + 1, 1, Option.none⟩ (.int .i64 nn)) := (Keeps.refl _ _).set _ _ (at_self _) _
                  have kx2 : Keeps (At (w1.heap.size + 1)) (w4.setCell ⟨w1.heap.size + 1 + 1, 1, Option.none⟩ (.int .i64 nn)) ((w4.setCell ⟨w1.heap.size + 1 + 1, 1, Option.none⟩ (.int .i64 nn)).setCell ⟨w1.heap.size + 1, 1, Option.none⟩ (.int .i64 (m1 + 1))) := (Keeps.refl _ _).set _ _ (at_self _) _
                  have B6 := (kx2.block _ (lt_of_block ((kx1.block _ (lt_of_block B4.out) (fun e => by rw [At] at e; omega)).trans B4.out)) (fun e => by rw [At] at e; omega)).trans ((kx1.block _ (lt_of_block B4.out) (fun e => by rw [At] at e; omega)).trans B4.out)
                  have C6 := setCell_block ((kx1.block _ (lt_of_block C4.out) (fun e => by rw [At] at e; omega)).trans C4.out) 1 (.int .i64 (m1 + 1))
                  have T5 := setCell_block T4.out 1 (.int .i64 nn)
                  have T6 := (kx2.block _ (lt_of_block T5) (fun e => by rw [At] at e; omega)).trans T5
                  have L6 := HI.out.past (HI.out.past L5.out kx1 (fun g hg e => by rw [At] at e; omega)) kx2 (fun g hg e => by rw [At] at e; omega)
                  have k6 := ((K5.out.thenAt kx1 (by have := k1.size; omega)).thenAt kx2 (by have := k1.size; omega))
                  first
                    | exact ⟨_, _, rfl, hid ⟨u, d0, l0, xs0, d1, l1, ys, s0, s1, m0, (m1 + 1), t0, nn, L6, B6, C6, T6, HE0.out.next, HEC.out, by have := HD.out; omega, by have := HD.out; omega, by have := HD.out; omega, by have := HD.out; omega, k6, rfl, rfl⟩⟩
                    | exact ⟨_, _, rfl, hid ⟨u, d0, l0, xs0, d1, l1, ys, s0, s1, m0, (m1 + 1), t0, nn, L6, B6, C6, T6, HE0.out.next, HEC.out, by have := HD.out; omega, by have := HD.out; omega, by have := HD.out; omega, by have := HD.out; omega, k6.drew, rfl, rfl⟩⟩
            · by_cases h1 : dv = 1
              · subst h1
                rcases hxs : xs1 with _ | ⟨v, ys⟩
                · as_aux_lemma =>
                  have L4 := hid L3.out
                  rw [hxs] at L4
                  go_wp2_with fail
                  refine (lose1_none _ _ _ _ _ _ _ _ _ _ _ _ _ L4.out rfl).mono ?_; rintro ee w4 ⟨rfl, rfl⟩
                  go_wp2_with fail
                  go_meet
                  exact ⟨_, _, rfl, hid ⟨u, d0, l0, xs0, d1, l1, xs1, s0, s1, m0, m1, t0, t1, L3.out, BS3.out, BC3.out, BL3.out, HE0.out.next, HE1.out.next, by have := HD.out; omega, by have := HD.out; omega, by have := HD.out; omega, by have := HD.out; omega, KW.out, rfl, rfl⟩⟩
                · as_aux_lemma =>
                  obtain ⟨nn, rfl, hnk, hnl, hna, EC, EL⟩ := (show EndOK acts k s1 m1 t1 l1 (v :: ys) from hxs ▸ HE1.out).first
                  have hnum := HE1.out.nums
                  have L4 := hid L3.out
                  rw [hxs] at L4
                  have HEL := hid EL
                  clear EC EL
                  go_wp2_with fail
                  refine (lose1_some _ _ _ _ _ _ _ _ _ _ _ _ _ L4.out _ ys rfl (by omega) (by omega)).mono ?_; rintro ee w4 ⟨rfl, i4, k4⟩
                  go_wp2_with fail
                  go_meet
                  have hox := own_le HX.out.1 HX.out.2.1 HX.out.2.2
                  have hlx := HI.out.lt
                  have B4 := hid ((k4.block _ (lt_of_block BS3.out) (fun e => own_not hlx (by omega) e)).trans BS3.out)
                  have C4 := hid ((k4.block _ (lt_of_block BC3.out) (fun e => own_not hlx (by omega) e)).trans BC3.out)
                  have T4 := hid ((k4.block _ (lt_of_block BL3.out) (fun e => own_not hlx (by omega) e)).trans BL3.out)
                  exact ⟨_, _, rfl, hid ⟨u, d0, l0, xs0, d1, (l1 + 1), ys, s0, s1, m0, m1, t0, t1, i4, B4.out, C4.out, T4.out, HE0.out.next, HEL.out, by have := HD.out; omega, by have := HD.out; omega, by have := HD.out; omega, by have := HD.out; omega, KW.out.thenOwn k4 hox, rfl, rfl⟩⟩
              · by_cases h2 : dv = 2
                · as_aux_lemma =>
                  subst h2
                  have L4 := hid L3.out
                  go_wp2_with fail
                  refine (up_any _ _ _ _ _ _ _ _ _ _ _ _ _ L4.out).mono ?_; rintro ee w4 ⟨rfl, i4, k4⟩
                  go_wp2_with fail
                  go_meet
                  have hox := own_le HX.out.1 HX.out.2.1 HX.out.2.2
                  have hlx := HI.out.lt
                  have B4 := hid ((k4.block _ (lt_of_block BS3.out) (fun e => own_not hlx (by omega) e)).trans BS3.out)
                  have C4 := hid ((k4.block _ (lt_of_block BC3.out) (fun e => own_not hlx (by omega) e)).trans BC3.out)
                  have T4 := hid ((k4.block _ (lt_of_block BL3.out) (fun e => own_not hlx (by omega) e)).trans BL3.out)
                  exact ⟨_, _, rfl, hid ⟨true, d0, l0, xs0, d1, l1, xs1, s0, s1, m0, m1, t0, t1, i4, B4.out, C4.out, T4.out, HE0.out.next, HE1.out.next, by have := HD.out; omega, by have := HD.out; omega, by have := HD.out; omega, by have := HD.out; omega, KW.out.thenOwn k4 hox, rfl, rfl⟩⟩
                · by_cases h3 : dv = 3
                  · as_aux_lemma =>
                    subst h3
                    have hn0 := HE0.out.nums
                    have hn1 := HE1.out.nums
                    have hsum : ((xs0.length + xs1.length : Nat) : Int) = (xs1.length : Int) + (xs0.length : Int) := by push_cast; omega
                    have HSUM := hid hsum
                    have HN0 := hid hn0
                    have HN1 := hid hn1
                    clear hsum hn0 hn1
                    go_wp2_with fail
                    refine (down_any _ _ _ _ _ _ _ _ _ _ _ _ _ L3.out (by have := HN0.out; omega) (by have := HN1.out; omega) (by have := HN0.out; omega) (by have := HN0.out; omega) (by have := HN1.out; omega) (by have := HN1.out; omega)).mono ?_; rintro ee w4 ⟨rfl, i4, k4⟩
                    rw [HSUM.out]
                    have b1 : (xs1.length : Int) ≤ 64 := by have := HN1.out; omega
                    have b2 : (xs0.length : Int) ≤ 64 := by have := HN0.out; omega
                    go_wp2_with fail
                    go_meet
                    have hox := own_le HX.out.1 HX.out.2.1 HX.out.2.2
                    have hlx := HI.out.lt
                    have B4 := hid ((k4.block _ (lt_of_block BS3.out) (fun e => own_not hlx (by omega) e)).trans BS3.out)
                    have C4 := hid ((k4.block _ (lt_of_block BC3.out) (fun e => own_not hlx (by omega) e)).trans BC3.out)
                    have T4 := hid ((k4.block _ (lt_of_block BL3.out) (fun e => own_not hlx (by omega) e)).trans BL3.out)
                    exact ⟨0, 0, rfl, hid ⟨false, d0, (l0 + xs0.length), [], d1, (l1 + xs1.length), [], s0, s1, m0, m1, t0, t1, i4, B4.out, C4.out, T4.out, HE0.out.clear, HE1.out.clear, by have := HD.out; omega, by have := HD.out; omega, by have := HD.out; omega, by have := HD.out; omega, KW.out.thenOwn k4 hox, rfl, rfl⟩⟩
                  · have h4 : 4 ≤ dv := by omega
                    have F1 : ∀ W, Calls Try.prog 14 #[.int .i64 k] W fun e w' => e = .returned (.string (frm k)) ∧ Keeps Nil W w' := frame_any k (by omega)
                    have HF := hid F1
                    clear F1
                    cases u with
                    | false =>
                      as_aux_lemma =>
                      go_wp2_with fail
                      refine (HF.out _).mono ?_; rintro ee wf ⟨rfl, kf⟩
                      go_wp2_with fail
                      refine (send1_down _ _ _ _ _ _ _ _ _ _ _ _ _ (L3.out.keepN kf) _ (by rw [frm_size]; omega) rfl).mono ?_; rintro ee w4 ⟨rfl, k4'⟩
                      have k4 := kf.trans k4'
                      have L4 := hid (L3.out.keepN k4)
                      go_wp2_with fail
                      refine (isup_any _ _ _ _ _ _ _ _ _ _ _ _ _ L4.out).mono ?_; rintro ee w5 ⟨rfl, rfl⟩
                      go_wp2_with fail
                      go_meet
                      have B4 := hid ((k4.block _ (lt_of_block BS3.out) (fun e => e)).trans BS3.out)
                      have C4 := hid ((k4.block _ (lt_of_block BC3.out) (fun e => e)).trans BC3.out)
                      have T4 := hid ((k4.block _ (lt_of_block BL3.out) (fun e => e)).trans BL3.out)
                      exact ⟨_, _, rfl, hid ⟨false, d0, l0, xs0, d1, l1, xs1, s0, s1, m0, m1, t0, t1, L4.out, B4.out, C4.out, T4.out, HE0.out.next, HE1.out.next, by have := HD.out; omega, by have := HD.out; omega, by have := HD.out; omega, by have := HD.out; omega, KW.out.trans k4, rfl, rfl⟩⟩
                    | true =>
                      by_cases hful : xs1.length < 64
                      · as_aux_lemma =>
                        have hb : decide ((xs1.length : Int) < 64) = true := by simp; omega
                        go_wp2_with fail
                        refine (HF.out _).mono ?_; rintro ee wf ⟨rfl, kf⟩
                        go_wp2_with fail
                        refine (send1_room _ _ _ _ _ _ _ _ _ _ _ _ _ (L3.out.keepN kf) _ (by rw [frm_size]; omega) rfl hful).mono ?_; rintro ee w4 ⟨rfl, i4, k4'⟩
                        have k4 := kf.ofNil.trans k4'
                        have L4 := hid i4
                        have hox := own_le HX.out.1 HX.out.2.1 HX.out.2.2
                        have hlx := HI.out.lt
                        have B4 := hid ((k4.block _ (lt_of_block BS3.out) (fun e => own_not hlx (by omega) e)).trans BS3.out)
                        have C4 := hid ((k4.block _ (lt_of_block BC3.out) (fun e => own_not hlx (by omega) e)).trans BC3.out)
                        have T4 := hid ((k4.block _ (lt_of_block BL3.out) (fun e => own_not hlx (by omega) e)).trans BL3.out)
                        obtain ⟨y0, y1, z0, z1⟩ := two_of B4.out
                        have bs : s1 ≤ k := by have := HE1.out.nums; omega
                        have bs' : 0 ≤ s1 := by have := HE1.out.nums; omega
                        go_wp2_with fail
                        refine (isup_any _ _ _ _ _ _ _ _ _ _ _ _ _ L4.out).mono ?_; rintro ee w5 ⟨rfl, rfl⟩
                        go_wp2_with fail
                        go_meet
                        have kx : Keeps (At w1.heap.size) w4 (w4.setCell ⟨w1.heap.size, 1, Option.none⟩ (.int .i64 (s1 + 1))) := (Keeps.refl _ _).set _ _ (at_self _) _
                        have B5 := setCell_block B4.out 1 (.int .i64 (s1 + 1))
                        have C5 := (kx.block _ (lt_of_block C4.out) (fun e => by rw [At] at e; omega)).trans C4.out
                        have T5 := (kx.block _ (lt_of_block T4.out) (fun e => by rw [At] at e; omega)).trans T4.out
                        have L5 := HI.out.past L4.out kx (fun g hg e => by rw [At] at e; omega)
                        have hp := HE1.out.push HA.out h4 hful
                        exact ⟨_, _, rfl, hid ⟨true, d0, l0, xs0, d1, l1, (xs1 ++ [.string (frm k)]), s0, (s1 + 1), m0, m1, t0, t1, L5, B5, C5, T5, HE0.out.next, hp, by have := HD.out; omega, by have := HD.out; omega, by have := HD.out; omega, by have := HD.out; omega, (KW.out.thenOwn k4 hox).thenAt kx k1.size, rfl, rfl⟩⟩
                      · as_aux_lemma =>
                        have hb : decide ((xs1.length : Int) < 64) = false := by simp; omega
                        go_wp2_with fail
                        refine (HF.out _).mono ?_; rintro ee wf ⟨rfl, kf⟩
                        go_wp2_with fail
                        refine (send1_full _ _ _ _ _ _ _ _ _ _ _ _ _ (L3.out.keepN kf) _ (by rw [frm_size]; omega) rfl (by omega) (by have := HD.out; omega) (by have := HD.out; omega)).mono ?_; rintro ee w4 ⟨rfl, i4, k4'⟩
                        have k4 := kf.ofNil.trans k4'
                        have L4 := hid i4
                        go_wp2_with fail
                        refine (isup_any _ _ _ _ _ _ _ _ _ _ _ _ _ L4.out).mono ?_; rintro ee w5 ⟨rfl, rfl⟩
                        go_wp2_with fail
                        go_meet
                        have hox := own_le HX.out.1 HX.out.2.1 HX.out.2.2
                        have hlx := HI.out.lt
                        have B4 := hid ((k4.block _ (lt_of_block BS3.out) (fun e => own_not hlx (by omega) e)).trans BS3.out)
                        have C4 := hid ((k4.block _ (lt_of_block BC3.out) (fun e => own_not hlx (by omega) e)).trans BC3.out)
                        have T4 := hid ((k4.block _ (lt_of_block BL3.out) (fun e => own_not hlx (by omega) e)).trans BL3.out)
                        exact ⟨_, _, rfl, hid ⟨true, d0, l0, xs0, (d1 + 1), l1, xs1, s0, s1, m0, m1, t0, t1, L4.out, B4.out, C4.out, T4.out, HE0.out.next, HE1.out.next, by have := HD.out; omega, by have := HD.out; omega, by have := HD.out; omega, by have := HD.out; omega, KW.out.thenOwn k4 hox, rfl, rfl⟩⟩
          case rest =>
            as_aux_lemma =>
            obtain ⟨n0, n1, rfl, hh2⟩ := hcut
            have HH2 := hid hh2
            obtain ⟨u, d0, l0, xs0, d1, l1, xs1, s0, s1, m0, m1, t0, t1, iL, bs, bc, bl, E0, E1, hd0, hd0', hd1, hd1', hkeep, hn0, hn1⟩ := hh2.out
            have e0 := E0.nums
            have e1 := E1.nums
            obtain ⟨rfl, p1, p2, p3, p4⟩ := e0
            obtain ⟨rfl, r1, r2, r3, r4⟩ := e1
            have bl0 : l0 ≤ 1000 := by omega
            have bl1 : l1 ≤ 1000 := by omega
            have bm0 : m0 ≤ 1000 := by omega
            have bm1 : m1 ≤ 1000 := by omega
            have by0 : (xs0.length : Int) ≤ 64 := by omega
            have by1 : (xs1.length : Int) ≤ 64 := by omega
            have v0 : IntKind.i64.wrap l0 = l0 := wrap_little _ (by omega) (by omega)
            have v1 : IntKind.i64.wrap (m0 + l0) = m0 + l0 := wrap_little _ (by omega) (by omega)
            have v2 : IntKind.i64.wrap (m0 + l0 + (xs0.length : Int)) = m0 + l0 + (xs0.length : Int) := wrap_little _ (by omega) (by omega)
            have v3 : IntKind.i64.wrap l1 = l1 := wrap_little _ (by omega) (by omega)
            have v4 : IntKind.i64.wrap (m1 + l1) = m1 + l1 := wrap_little _ (by omega) (by omega)
            have v5 : IntKind.i64.wrap (m1 + l1 + (xs1.length : Int)) = m1 + l1 + (xs1.length : Int) := wrap_little _ (by omega) (by omega)
            have HLT := hid iL
            have S0 : ∀ W, Keeps Nil wc W → (W.cell? ⟨w1.heap.size, 0, Option.none⟩ = some (.int .i64 (m0 + l0 + (xs0.length : Int))) ∧ W.cell? ⟨w1.heap.size + 1, 0, Option.none⟩ = some (.int .i64 m0)) ∧
                (W.cell? ⟨w1.heap.size, 1, Option.none⟩ = some (.int .i64 (m1 + l1 + (xs1.length : Int))) ∧ W.cell? ⟨w1.heap.size + 1, 1, Option.none⟩ = some (.int .i64 m1)) := fun W K => by
              obtain ⟨y0, y1, _, _⟩ := two_of ((K.block _ (lt_of_block bs) (fun e => e)).trans bs)
              obtain ⟨y2, y3, _, _⟩ := two_of ((K.block _ (lt_of_block bc) (fun e => e)).trans bc)
              exact ⟨⟨y0, y2⟩, y1, y3⟩
            have HS0 := hid (fun W K => (S0 W K).1)
            have HS1 := hid (fun W K => (S0 W K).2)
            subst hn0
            subst hn1
            clear S0 iL bs bc bl E0 E1 hkeep hh2 hd0 hd0' hd1 hd1' p3 p4 r3 r4
            go_wp2_with fail
            refine (len0 _ _ _ _ _ _ _ _ _ _ _ _ _ HLT.out).mono ?_; rintro ee wz ⟨rfl, kz⟩
            have kk : Keeps Nil wc wz := kz
            go_wp2_with fail
            refine wp_loop_rounds 3 ?_
            rw [rounds_succ]
            go_wp2_with fail
            go_region_held3 (fun w' => w'.cell? ⟨w1.heap.size, 0, Option.none⟩ = some (.int .i64 (m0 + l0 + (xs0.length : Int))) ∧ w'.cell? ⟨w1.heap.size + 1, 0, Option.none⟩ = some (.int .i64 m0)) (first | exact HS0.out _ kk | exact HS0.out _ kk.drew | exact HS0.out _ kk.drew.drew) ((first
              | (go_at_call 16; refine (lost0 _ _ _ _ _ _ _ _ _ _ _ _ _ (HLT.out.keepN (by first | exact kk | exact kk.drew | exact kk.drew.drew))).mono ?_; rintro ee wz ⟨rfl, kz⟩; have kk : Keeps Nil wc wz := by first | exact kk.trans kz | exact kk.drew.trans kz | exact kk.drew.drew.trans kz)
              | (go_at_call 8; refine (len0 _ _ _ _ _ _ _ _ _ _ _ _ _ (HLT.out.keepN (by first | exact kk | exact kk.drew | exact kk.drew.drew))).mono ?_; rintro ee wz ⟨rfl, kz⟩; have kk : Keeps Nil wc wz := by first | exact kk.trans kz | exact kk.drew.trans kz | exact kk.drew.drew.trans kz)))
            go_wp2_with fail
            rw [rounds_succ]
            go_wp2_with fail
            go_region_held3 (fun w' => w'.cell? ⟨w1.heap.size, 1, Option.none⟩ = some (.int .i64 (m1 + l1 + (xs1.length : Int))) ∧ w'.cell? ⟨w1.heap.size + 1, 1, Option.none⟩ = some (.int .i64 m1)) (first | exact HS1.out _ kk | exact HS1.out _ kk.drew | exact HS1.out _ kk.drew.drew) ((first
              | (go_at_call 16; refine (lost1 _ _ _ _ _ _ _ _ _ _ _ _ _ (HLT.out.keepN (by first | exact kk | exact kk.drew | exact kk.drew.drew))).mono ?_; rintro ee wz ⟨rfl, kz⟩; have kk : Keeps Nil wc wz := by first | exact kk.trans kz | exact kk.drew.trans kz | exact kk.drew.drew.trans kz)
              | (go_at_call 8; refine (len1 _ _ _ _ _ _ _ _ _ _ _ _ _ (HLT.out.keepN (by first | exact kk | exact kk.drew | exact kk.drew.drew))).mono ?_; rintro ee wz ⟨rfl, kz⟩; have kk : Keeps Nil wc wz := by first | exact kk.trans kz | exact kk.drew.trans kz | exact kk.drew.drew.trans kz)))
            go_wp2_with fail
            rw [rounds_succ]
            go_wp2_with fail
            go_roundw
            case rel => exact ⟨k + 1, by omega, by go_num, hid ⟨_, _, by first | exact HH2.out.out.keep kk | exact HH2.out.out.keep kk.drew | exact HH2.out.out.keep kk.drew.drew⟩⟩
            case measure => simp only [intOf]; omega

    · obtain rfl : k = n := by omega
      obtain ⟨n0, n1, u, d0, l0, xs0, d1, l1, xs1, s0, s1, m0, m1, t0, t1, iL, bs, bc, bl, E0, E1, hd0, hd0', hd1, hd1', hkeep, hn0, hn1⟩ := hh.out
      have HK := hid hkeep
      clear iL bs bc bl E0 E1 hd0 hd0' hd1 hd1' hkeep
      go_wp2_with (go_at_call 6; refine (wakes_any _).mono ?_; rintro e wz ⟨rfl, kz⟩)
      go_ret
      exact ⟨rfl, HK.out.trans kz⟩
end Go.Proofs.Ytljfpihfffhpjaa
