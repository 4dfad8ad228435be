/-
  The statement FdbLast, walked. Condition: the acts lie in their cells; the numbers are in range.
-/
import Derived.Test.YtdmjpgefoppfmaaFLLearnt
import Derived.Deep.DeepCutAuto
import Derived.Deep.CutBlock
namespace Go.Proofs.Ytdmjpgefoppfmaa
open Go.RowKit
set_option linter.unusedVariables false

theorem MapK.raw {w : World} {mb : Nat} {S : List (Pl × Int)} (h : MapK w mb S) : ∃ es cl, w.heap[mb]? = some (.map es cl) := by
  obtain ⟨_, D, ⟨es, cl, hb, _⟩, _⟩ := h
  exact ⟨es, cl, hb⟩
theorem MapK.ne_cells {w : World} {mb k : Nat} {S : List (Pl × Int)} (h : MapK w mb S) {cs : Array Value} {T : TypeId} {f : Nat × Nat} (hk : w.heap[k]? = some (.cells cs T f)) : mb ≠ k := fun e => by
  obtain ⟨es, cl, hb⟩ := h.raw
  subst e
  rw [hk] at hb
  cases hb
theorem TbIs.t_ne {w : World} {B t mb ms n c : Nat} {p : Option Addr} {τ : Tb} {S : List (Pl × Int)} (h : TbIs w B t mb p n c τ) (m : MapK w ms S) : t ≠ ms := fun e => m.ne_cells h.1 e.symm
theorem TbIs.not_map' {w : World} {B t mb ms n c : Nat} {p : Option Addr} {τ : Tb} {S : List (Pl × Int)} (h : TbIs w B t mb p n c τ) (m : MapK w ms S) : ¬ InP p ms := by
  obtain ⟨es, cl, hb⟩ := m.raw
  exact h.2.1.ne_map hb
theorem TbIs.not_map {w : World} {B t mb ms n c : Nat} {p : Option Addr} {τ : Tb} {S : List (Pl × Int)} (h : TbIs w B t mb p n c τ) (m : MapK w ms S) (h1 : ms ≠ mb) {q : Prop} (_ : q) : ¬ TOwn t mb p ms := by
  rintro (e | e | e)
  · exact h.t_ne m e.symm
  · exact h1 e
  · exact h.not_map' m e
theorem learn_S (τ : Tb) (q : Pl) (port : Int) : (τ.learn q port).S = τ.S := by
  unfold Tb.learn
  split <;> rfl
theorem set_cases {τ τ' : Tb} {q : Pl} {ports v : Int} (h : τ.set q ports = (τ', v)) : (v = 0 ∧ τ'.S = sput τ.S q ports) ∨ ((v == 0) = false ∧ τ'.S = τ.S) := by
  unfold Tb.set at h
  split at h
  · split at h
    · injection h with h1 h2; subst h1 h2; exact .inr ⟨rfl, rfl⟩
    · injection h with h1 h2; subst h1 h2; exact .inl ⟨rfl, rfl⟩
  · injection h with h1 h2; subst h1 h2; exact .inr ⟨rfl, rfl⟩
theorem unset_cases {τ τ' : Tb} {q : Pl} {v : Int} (h : τ.unset q = (τ', v)) : (v = 0 ∧ τ'.S = sdel τ.S q) ∨ ((v == 0) = false ∧ τ'.S = τ.S) := by
  unfold Tb.unset at h
  split at h
  · split at h
    · injection h with h1 h2; subst h1 h2; exact .inr ⟨rfl, rfl⟩
    · injection h with h1 h2; subst h1 h2; exact .inl ⟨rfl, rfl⟩
  · injection h with h1 h2; subst h1 h2; exact .inr ⟨rfl, rfl⟩
theorem pow_wrap {p : Int} (h0 : 0 ≤ p) (h8 : p < 8) : IntKind.u8.wrap ((2 : Int) ^ p.toNat) = 2 ^ p.toNat := by
  have key : ∀ n : Fin 8, IntKind.u8.wrap ((2 : Int) ^ (n : Nat)) = 2 ^ (n : Nat) := by decide +kernel
  exact key ⟨p.toNat, by omega⟩

set_option maxRecDepth 6000 in
set_option maxHeartbeats 60000000 in
theorem last_any (a : Option Addr) (n cap : Nat) (acts : List FAct) (w : World) (hm : n ≤ maxLen) (hcap : n ≤ cap) (hll : acts.length = n) (h : 0 < n → ∃ b o, a = some ⟨b, o, Option.none⟩ ∧ b < w.heap.size ∧ FActs w b o n acts) :
    Calls Try.prog 5 #[.slice a n cap] w fun e w' => e = .returned (.bool true) ∧ Keeps Nil w w' := by
  have HW : ∀ W, Hid (Calls Try.prog 6 #[] W fun e w' => e = .returned (.bool true) ∧ Keeps Nil W w') := fun W => hid (wakes_any W)
  have OKA := hid (acts_ok hll h)
  have HN := hid hll
  have HCAP := hid hcap
  by_cases hn : 150 < n
  · unfold maxLen at hm
    clear h hll
    go_enter Try.func5, Try.ntmps5
    go_wp2_with (go_at_call 6; refine (HW _).out.mono ?_; rintro e w2 ⟨rfl, k2⟩)
    go_ret
    exact ⟨rfl, k2⟩
  have hn150 : n ≤ 150 := by omega
  have HH := hid h
  clear hm h hll
  go_enter Try.func5, Try.ntmps5
  go_wp2_with fail
  refine (new_any _).mono ?_; rintro e w2 ⟨t, mb, rfl, i1, ht, hmb, k1⟩
  obtain ⟨w1, hw1⟩ : ∃ w1, w1 = w := ⟨_, rfl⟩
  have K1 := hid (show Keeps Nil w w1 from hw1 ▸ Keeps.refl _ _)
  rw [← hw1] at i1 ht hmb k1
  have HH := hid (show 0 < n → ∃ b o, a = some ⟨b, o, Option.none⟩ ∧ b < w1.heap.size ∧ FActs w1 b o n acts from hw1 ▸ HH.out)
  have HX := hid (And.intro ht hmb)
  have HI := hid i1
  have KI := hid k1
  have hmb2 := i1.m_lt
  have hms2 := k1.size
  clear i1 ht hmb k1 hw1
  have hmm := @run_makeMap Try.prog
  go_upto_region 5 with (fail)
  clear hmm
  have km : Keeps Nil w2 (w2.alloc (.map #[] 0)) := (Keeps.refl _ _).alloc _
  have hmk := MapK.made w2
  have HI2 := hid (HI.out.keepN km)
  have KI2 := hid (KI.out.trans km)
  have HMS : Hid (w2.heap.size ≠ mb ∧ w1.heap.size ≤ w2.heap.size) := hid ⟨by omega, hms2⟩
  clear km HI KI hmb2 hms2
  generalize (w2.alloc (.map #[] 0)) = wm at *
  generalize w2.heap.size = ms at *
  have HMK := hid hmk
  clear hmk
  go_wp2_with fail
  go_loopw [5] (fun v wr => ∃ k : Nat, k ≤ n ∧ v = .int .i64 k ∧ Hid (∃ τ p n c, (⟨[], []⟩ : Tb).runs (acts.take k) = τ ∧ TbIs wr w1.heap.size t mb p n c τ ∧ MapK wr ms τ.S ∧ Keeps Nil w1 wr)) (fun v _ => n - (intOf v).toNat)
  case atStart =>
    exact ⟨0, Nat.zero_le _, rfl, hid ⟨⟨[], []⟩, Option.none, 0, 0, rfl, HI2.out, HMK.out, KI2.out⟩⟩
  case round =>
    obtain ⟨k, hk, rfl, hh⟩ := hrel
    by_cases hlt : k < n
    · obtain ⟨b, o, rfl, hb, hr⟩ := HH.out (by omega)
      obtain ⟨x, ha⟩ : ∃ x, acts[k]? = some x := ⟨_, List.getElem?_eq_getElem (by have := hr.1; omega)⟩
      obtain ⟨τ, p, n1, c1, hta, hT, hM, hK⟩ := hh.out
      have hst := runs_take ha ⟨[], []⟩
      have HXO := hid (hr.2 k x ha).2
      have hG := Tb.Good.start.runs (l := acts.take k) (fun y hy => OKA.out y (List.mem_of_mem_take hy))
      have hG1 := hG.does HXO.out
      rw [← hst] at hG1
      rw [hta] at hG hst
      obtain ⟨τ1, hτ1⟩ : ∃ τ1, (⟨[], []⟩ : Tb).runs (acts.take (k + 1)) = τ1 := ⟨_, rfl⟩
      have HTA := hid hτ1
      rw [hτ1] at hst hG1
      have hlen : 0 + (acts.take k).length ≤ 300 := by have := HN.out; simp only [List.length_take]; omega
      generalize 0 + (acts.take k).length = j at *
      have HOKT := hid (fun y (hy : y ∈ acts.take (k + 1)) => OKA.out y (List.mem_of_mem_take hy))
      have HTL : Hid ((acts.take (k + 1)).length = k + 1) := hid (by have := HN.out; simp only [List.length_take]; omega)
      have HTD : Hid (τ.does x = τ1) := hid hst.symm
      have HO := hid hG
      have HG1 := hid hG1
      have hk3 : j ≤ 300 := hlen
      have HR := hid hr
      have hbr : b < wr.heap.size := Nat.lt_of_lt_of_le hb hK.size
      obtain ⟨g0, g1, g2, g3, g4, g5, g6, g7, g8, g9⟩ := (hr.keepN hK hb).at ha
      have HT := hid hT
      have HM := hid hM
      have HK := hid hK
      clear hr ha hh hta hT hM hK hst hG hG1 hτ1 hlen
      go_upto_region 9 with (fail)
      have kz : Keeps Nil wr (wr.alloc (.cells #[Value.int IntKind.u8 x.d, Value.int IntKind.u16 x.q.v, Value.int IntKind.u8 x.q.a, Value.int IntKind.u8 x.q.b, Value.int IntKind.u8 x.q.c, Value.int IntKind.u8 x.q.d, Value.int IntKind.u8 x.q.e, Value.int IntKind.u8 x.q.f, Value.int IntKind.u8 x.port, Value.int IntKind.u8 x.ports] 34 (0, 0))) := (Keeps.refl _ _).alloc _
      have hA := alloc_block wr (.cells #[Value.int IntKind.u8 x.d, Value.int IntKind.u16 x.q.v, Value.int IntKind.u8 x.q.a, Value.int IntKind.u8 x.q.b, Value.int IntKind.u8 x.q.c, Value.int IntKind.u8 x.q.d, Value.int IntKind.u8 x.q.e, Value.int IntKind.u8 x.q.f, Value.int IntKind.u8 x.port, Value.int IntKind.u8 x.ports] 34 (0, 0))
      have hbz : b < (wr.alloc (.cells #[Value.int IntKind.u8 x.d, Value.int IntKind.u16 x.q.v, Value.int IntKind.u8 x.q.a, Value.int IntKind.u8 x.q.b, Value.int IntKind.u8 x.q.c, Value.int IntKind.u8 x.q.d, Value.int IntKind.u8 x.q.e, Value.int IntKind.u8 x.q.f, Value.int IntKind.u8 x.port, Value.int IntKind.u8 x.ports] 34 (0, 0))).heap.size := Nat.lt_of_lt_of_le hbr kz.size
      have TY := hid (HT.out.keepN kz)
      have MY := hid (HM.out.keep kz (fun e => e))
      have KY := hid (HK.out.trans kz)
      clear g0 g1 g2 g3 g4 g5 g6 g7 g8 g9 kz HT HM HK
      generalize (wr.alloc (.cells #[Value.int IntKind.u8 x.d, Value.int IntKind.u16 x.q.v, Value.int IntKind.u8 x.q.a, Value.int IntKind.u8 x.q.b, Value.int IntKind.u8 x.q.c, Value.int IntKind.u8 x.q.d, Value.int IntKind.u8 x.q.e, Value.int IntKind.u8 x.q.f, Value.int IntKind.u8 x.port, Value.int IntKind.u8 x.ports] 34 (0, 0))) = wy at *
      generalize wr.heap.size = bA at *
      obtain ⟨g0, g1, g2, g3, g4, g5, g6, g7, g8, g9⟩ := ten_of hA
      go_upto_region 10 with (fail)
      have kx : Keeps Nil wy (wy.alloc (.cells #[Value.int IntKind.u16 x.q.v, Value.int IntKind.u8 x.q.a, Value.int IntKind.u8 x.q.b, Value.int IntKind.u8 x.q.c, Value.int IntKind.u8 x.q.d, Value.int IntKind.u8 x.q.e, Value.int IntKind.u8 x.q.f] 57 (0, 0))) := (Keeps.refl _ _).alloc _
      have hX := alloc_block wy (.cells #[Value.int IntKind.u16 x.q.v, Value.int IntKind.u8 x.q.a, Value.int IntKind.u8 x.q.b, Value.int IntKind.u8 x.q.c, Value.int IntKind.u8 x.q.d, Value.int IntKind.u8 x.q.e, Value.int IntKind.u8 x.q.f] 57 (0, 0))
      have TZ := hid (TY.out.keepN kx)
      have MZ := hid (MY.out.keep kx (fun e => e))
      have KZ := hid (KY.out.trans kx)
      have AZ := hid (kx.lies hA)
      clear g0 g1 g2 g3 g4 g5 g6 g7 g8 g9 kx TY MY KY hA
      generalize (wy.alloc (.cells #[Value.int IntKind.u16 x.q.v, Value.int IntKind.u8 x.q.a, Value.int IntKind.u8 x.q.b, Value.int IntKind.u8 x.q.c, Value.int IntKind.u8 x.q.d, Value.int IntKind.u8 x.q.e, Value.int IntKind.u8 x.q.f] 57 (0, 0))) = wz at *
      generalize wy.heap.size = bX at *
      have XZ := hid hX
      clear hX hbr hbz
      obtain ⟨g0, g1, g2, g3, g4, g5, g6, g7, g8, g9⟩ := ten_of AZ.out
      obtain ⟨x0, x1, x2, x3, x4, x5, x6⟩ := seven_of XZ.out
      go_upto_block 2 with (fail)
      go_cut [] (fun wx => Hid ((∃ p n c, TbIs wx w1.heap.size t mb p n c τ1 ∧ MapK wx ms τ1.S ∧ Keeps Nil w1 wx) ∧ wx.heap[bA]? = some (.cells #[Value.int IntKind.u8 x.d, Value.int IntKind.u16 x.q.v, Value.int IntKind.u8 x.q.a, Value.int IntKind.u8 x.q.b, Value.int IntKind.u8 x.q.c, Value.int IntKind.u8 x.q.d, Value.int IntKind.u8 x.q.e, Value.int IntKind.u8 x.q.f, Value.int IntKind.u8 x.port, Value.int IntKind.u8 x.ports] 34 (0, 0)) ∧ wx.heap[bX]? = some (.cells #[Value.int IntKind.u16 x.q.v, Value.int IntKind.u8 x.q.a, Value.int IntKind.u8 x.q.b, Value.int IntKind.u8 x.q.c, Value.int IntKind.u8 x.q.d, Value.int IntKind.u8 x.q.e, Value.int IntKind.u8 x.q.f] 57 (0, 0))))
      case first =>
        by_cases d0 : x.d = 0
        · have D0 := hid d0
          have hd0 : (x.d == 0) = true := by simpa using d0
          clear d0
          have HS1 : Hid (τ1.S = τ.S) := hid (by rw [← HTD.out, does0 D0.out]; rfl)
          go_wp2_with fail
          refine (p_tick' TZ.out HO.out hk3 ((does0 D0.out).symm.trans HTD.out)).mono ?_; rintro ee w2 ⟨rfl, ⟨p2, n2, c2, i2⟩, k2⟩
          have HNA : ¬ TOwn t mb p bA := TZ.out.not_own' AZ.out (by decide) (by decide)
          have HNX : ¬ TOwn t mb p bX := TZ.out.not_own' XZ.out (by decide) (by decide)
          have HNM : ¬ TOwn t mb p ms := TZ.out.not_map MZ.out HMS.out.1 HMS.out.2
          have A2 := hid (k2.lies AZ.out HNA)
          have X2 := hid (k2.lies XZ.out HNX)
          have M2 := hid (MZ.out.keep k2 HNM)
          have K2 := hid (KZ.out.thenOwn k2 (TZ.out.own_ge HX.out.1 HX.out.2))
          have T2 := hid i2
          clear i2 k2 HNA HNX HNM g0 g1 g2 g3 g4 g5 g6 g7 g8 g9 x0 x1 x2 x3 x4 x5 x6
          obtain ⟨g0, g1, g2, g3, g4, g5, g6, g7, g8, g9⟩ := ten_of A2.out
          obtain ⟨x0, x1, x2, x3, x4, x5, x6⟩ := seven_of X2.out
          go_wp2_with fail
          go_meet
          exact hid ⟨⟨_, _, _, T2.out, by rw [HS1.out]; exact M2.out, K2.out⟩, A2.out, X2.out⟩
        have hd0 : (x.d == 0) = false := by simpa using d0
        by_cases d1 : x.d = 1
        · have D1 := hid d1
          have hd1 : (x.d == 1) = true := by simpa using d1
          clear d0 d1
          have HS1 : Hid (τ1.S = τ.S) := hid (by rw [← HTD.out, does1 D1.out]; rfl)
          go_wp2_with fail
          refine (p_flush' TZ.out HO.out x.ports HXO.out.2.2.2 ((does1 D1.out).symm.trans HTD.out) rfl).mono ?_; rintro ee w2 ⟨rfl, ⟨p2, n2, c2, i2⟩, k2⟩
          have HNA : ¬ TOwn t mb p bA := TZ.out.not_own' AZ.out (by decide) (by decide)
          have HNX : ¬ TOwn t mb p bX := TZ.out.not_own' XZ.out (by decide) (by decide)
          have HNM : ¬ TOwn t mb p ms := TZ.out.not_map MZ.out HMS.out.1 HMS.out.2
          have A2 := hid (k2.lies AZ.out HNA)
          have X2 := hid (k2.lies XZ.out HNX)
          have M2 := hid (MZ.out.keep k2 HNM)
          have K2 := hid (KZ.out.thenOwn k2 (TZ.out.own_ge HX.out.1 HX.out.2))
          have T2 := hid i2
          clear i2 k2 HNA HNX HNM g0 g1 g2 g3 g4 g5 g6 g7 g8 g9 x0 x1 x2 x3 x4 x5 x6
          obtain ⟨g0, g1, g2, g3, g4, g5, g6, g7, g8, g9⟩ := ten_of A2.out
          obtain ⟨x0, x1, x2, x3, x4, x5, x6⟩ := seven_of X2.out
          go_wp2_with fail
          go_meet
          exact hid ⟨⟨_, _, _, T2.out, by rw [HS1.out]; exact M2.out, K2.out⟩, A2.out, X2.out⟩
        have hd1 : (x.d == 1) = false := by simpa using d1
        by_cases d2 : x.d = 2
        · have D2 := hid d2
          have hd2 : (x.d == 2) = true := by simpa using d2
          clear d0 d1 d2
          rcases hc : τ.set x.q x.ports with ⟨τ2, v'⟩
          have he : τ2 = τ1 := by rw [← HTD.out, does2 D2.out, hc]
          subst he
          have hcs := set_cases hc
          have HC := hid hc
          clear hc
          go_wp2_with fail
          refine (p_set' TZ.out HO.out x.q HXO.out.2.1 x.ports HXO.out.2.2.2 HC.out).mono ?_; rintro ee w2 ⟨rfl, ⟨p2, n2, c2, i2⟩, k2⟩
          have HNA : ¬ TOwn t mb p bA := TZ.out.not_own' AZ.out (by decide) (by decide)
          have HNX : ¬ TOwn t mb p bX := TZ.out.not_own' XZ.out (by decide) (by decide)
          have HNM : ¬ TOwn t mb p ms := TZ.out.not_map MZ.out HMS.out.1 HMS.out.2
          have A2 := hid (k2.lies AZ.out HNA)
          have X2 := hid (k2.lies XZ.out HNX)
          have M2 := hid (MZ.out.keep k2 HNM)
          have K2 := hid (KZ.out.thenOwn k2 (TZ.out.own_ge HX.out.1 HX.out.2))
          have T2 := hid i2
          clear i2 k2 HNA HNX HNM g0 g1 g2 g3 g4 g5 g6 g7 g8 g9 x0 x1 x2 x3 x4 x5 x6
          obtain ⟨g0, g1, g2, g3, g4, g5, g6, g7, g8, g9⟩ := ten_of A2.out
          obtain ⟨x0, x1, x2, x3, x4, x5, x6⟩ := seven_of X2.out
          rcases hcs with ⟨hv, hs⟩ | ⟨hv, hs⟩
          · have hv0 : (v' == 0) = true := by simpa using hv
            have HS1 := hid hs
            clear hs
            obtain ⟨w5, hrun, m5, k5⟩ := M2.out.put x.q HXO.out.2.1 x.ports HXO.out.2.2.2 (by have := HO.out.S; omega)
            simp only [Pl.val] at hrun
            have HM5 := hid m5
            have HNT : ¬ At ms t := fun e => T2.out.t_ne M2.out e
            have T5 := hid (T2.out.keep k5 HNT (fun e => HMS.out.1 e.symm) (fun g hg _ e => by rw [At] at e; subst e; exact T2.out.not_map' M2.out hg))
            have A5 := hid (k5.lies A2.out (fun e => M2.out.ne_cells A2.out e.symm))
            have X5 := hid (k5.lies X2.out (fun e => M2.out.ne_cells X2.out e.symm))
            have K5 := hid (K2.out.thenAt k5 HMS.out.2)
            clear m5 k5 HNT
            go_wp2_with fail
            go_meet
            exact hid ⟨⟨_, _, _, T5.out, by rw [HS1.out]; exact HM5.out, K5.out⟩, A5.out, X5.out⟩
          · have hv0 : (v' == 0) = false := hv
            have HS1 := hid hs
            clear hs
            go_wp2_with fail
            go_meet
            exact hid ⟨⟨_, _, _, T2.out, by rw [HS1.out]; exact M2.out, K2.out⟩, A2.out, X2.out⟩
        have hd2 : (x.d == 2) = false := by simpa using d2
        by_cases d3 : x.d = 3
        · have D3 := hid d3
          have hd3 : (x.d == 3) = true := by simpa using d3
          clear d0 d1 d2 d3
          rcases hc : τ.unset x.q with ⟨τ2, v'⟩
          have he : τ2 = τ1 := by rw [← HTD.out, does3 D3.out, hc]
          subst he
          have hcs := unset_cases hc
          have HC := hid hc
          clear hc
          go_wp2_with fail
          refine (p_unset' TZ.out HO.out x.q HXO.out.2.1 HC.out).mono ?_; rintro ee w2 ⟨rfl, ⟨p2, n2, c2, i2⟩, k2⟩
          have HNA : ¬ TOwn t mb p bA := TZ.out.not_own' AZ.out (by decide) (by decide)
          have HNX : ¬ TOwn t mb p bX := TZ.out.not_own' XZ.out (by decide) (by decide)
          have HNM : ¬ TOwn t mb p ms := TZ.out.not_map MZ.out HMS.out.1 HMS.out.2
          have A2 := hid (k2.lies AZ.out HNA)
          have X2 := hid (k2.lies XZ.out HNX)
          have M2 := hid (MZ.out.keep k2 HNM)
          have K2 := hid (KZ.out.thenOwn k2 (TZ.out.own_ge HX.out.1 HX.out.2))
          have T2 := hid i2
          clear i2 k2 HNA HNX HNM g0 g1 g2 g3 g4 g5 g6 g7 g8 g9 x0 x1 x2 x3 x4 x5 x6
          obtain ⟨g0, g1, g2, g3, g4, g5, g6, g7, g8, g9⟩ := ten_of A2.out
          obtain ⟨x0, x1, x2, x3, x4, x5, x6⟩ := seven_of X2.out
          rcases hcs with ⟨hv, hs⟩ | ⟨hv, hs⟩
          · have hv0 : (v' == 0) = true := by simpa using hv
            have HS1 := hid hs
            clear hs
            obtain ⟨w5, hrun, m5, k5⟩ := M2.out.drop x.q HXO.out.2.1 (ty := 0)
            simp only [Pl.val] at hrun
            have HM5 := hid m5
            have HNT : ¬ At ms t := fun e => T2.out.t_ne M2.out e
            have T5 := hid (T2.out.keep k5 HNT (fun e => HMS.out.1 e.symm) (fun g hg _ e => by rw [At] at e; subst e; exact T2.out.not_map' M2.out hg))
            have A5 := hid (k5.lies A2.out (fun e => M2.out.ne_cells A2.out e.symm))
            have X5 := hid (k5.lies X2.out (fun e => M2.out.ne_cells X2.out e.symm))
            have K5 := hid (K2.out.thenAt k5 HMS.out.2)
            clear m5 k5 HNT
            go_wp2_with fail
            go_meet
            exact hid ⟨⟨_, _, _, T5.out, by rw [HS1.out]; exact HM5.out, K5.out⟩, A5.out, X5.out⟩
          · have hv0 : (v' == 0) = false := hv
            have HS1 := hid hs
            clear hs
            go_wp2_with fail
            go_meet
            exact hid ⟨⟨_, _, _, T2.out, by rw [HS1.out]; exact M2.out, K2.out⟩, A2.out, X2.out⟩
        have hd3 : (x.d == 3) = false := by simpa using d3
        have h0 : 0 ≤ x.d := HXO.out.1
        have h4 : 4 ≤ x.d := by omega
        have HS1 : Hid (τ1.S = τ.S) := hid (by rw [← HTD.out, does4 h4]; exact learn_S _ _ _)
        go_wp2_with fail
        refine (p_learn' TZ.out HO.out KZ.out.size x.q HXO.out.2.1 x.port ((does4 h4).symm.trans HTD.out)).mono ?_; rintro ee w2 ⟨rfl, ⟨p2, n2, c2, i2⟩, k2⟩
        have HNA : ¬ TOwn t mb p bA := TZ.out.not_own' AZ.out (by decide) (by decide)
        have HNX : ¬ TOwn t mb p bX := TZ.out.not_own' XZ.out (by decide) (by decide)
        have HNM : ¬ TOwn t mb p ms := TZ.out.not_map MZ.out HMS.out.1 HMS.out.2
        have A2 := hid (k2.lies AZ.out HNA)
        have X2 := hid (k2.lies XZ.out HNX)
        have M2 := hid (MZ.out.keep k2 HNM)
        have K2 := hid (KZ.out.thenOwn k2 (TZ.out.own_ge HX.out.1 HX.out.2))
        have T2 := hid i2
        clear i2 k2 HNA HNX HNM g0 g1 g2 g3 g4 g5 g6 g7 g8 g9 x0 x1 x2 x3 x4 x5 x6
        obtain ⟨g0, g1, g2, g3, g4, g5, g6, g7, g8, g9⟩ := ten_of A2.out
        obtain ⟨x0, x1, x2, x3, x4, x5, x6⟩ := seven_of X2.out
        go_wp2_with fail
        go_meet
        exact hid ⟨⟨_, _, _, T2.out, by rw [HS1.out]; exact M2.out, K2.out⟩, A2.out, X2.out⟩
      case rest =>
        have hh2 := hcut
        obtain ⟨⟨p, n1, c1, hT, hM, hK⟩, hA, hX⟩ := hh2.out
        have T0 := hid hT
        have M0 := hid hM
        have K0 := hid hK
        have A0 := hid hA
        have X0 := hid hX
        clear hT hM hK hA hX hh2
        obtain ⟨g0, g1, g2, g3, g4, g5, g6, g7, g8, g9⟩ := ten_of A0.out
        obtain ⟨x0, x1, x2, x3, x4, x5, x6⟩ := seven_of X0.out
        rcases hlk : τ1.look x.q with ⟨u, z⟩
        have HLK := hid hlk
        clear hlk
        go_wp2_with fail
        refine (p_look' T0.out HG1.out x.q HXO.out.2.1 HLK.out).mono ?_; rintro ee w2 ⟨rfl, k2⟩
        have T3 := hid (T0.out.keepN k2)
        have M3 := hid (M0.out.keep k2 (fun e => e))
        have K3 := hid (K0.out.trans k2)
        have A3 := hid (k2.lies A0.out)
        have X3 := hid (k2.lies X0.out)
        have hbw := Nat.lt_of_lt_of_le hb K3.out.size
        clear k2 g0 g1 g2 g3 g4 g5 g6 g7 g8 g9 x0 x1 x2 x3 x4 x5 x6
        obtain ⟨g0, g1, g2, g3, g4, g5, g6, g7, g8, g9⟩ := ten_of A3.out
        obtain ⟨x0, x1, x2, x3, x4, x5, x6⟩ := seven_of X3.out
        have hlq := M3.out.look x.q HXO.out.2.1
        simp only [Pl.val] at hlq
        cases hs : sget τ1.S x.q with
        | some s =>
          rw [hs] at hlq
          have hz : (u, z) = (s, true) := by rw [← HLK.out]; unfold Tb.look; rw [hs]
          injection hz with hz1 hz2
          subst hz1 hz2
          have KK := hid (Keeps.refl Nil w2)
          have hnn : (u != u) = false := by simp
          clear hs
          go_wp2_with fail
          go_roundw
          case rel => exact ⟨k + 1, by omega, by go_num, hid ⟨τ1, _, _, _, HTA.out, T3.out.keepN KK.out, M3.out.keep KK.out (fun e => e), K3.out.trans KK.out⟩⟩
          case measure => simp only [intOf]; omega
        | none =>
          rw [hs] at hlq
          obtain ⟨hz, ht, hf⟩ := learnt_whole (acts.take (k + 1)) HOKT.out x.q (by rw [HTA.out]; exact hs)
          rw [HTA.out, HLK.out, HTL.out] at hz ht hf
          rcases hlp : lp (acts.take (k + 1)) x.q (k + 1) with ⟨pt, hp⟩
          rw [hlp] at hz ht hf
          simp only at hz ht hf
          subst hz
          have C23 : ∀ W, Keeps Nil w2 W → Calls Try.prog 23 #[.slice (some ⟨b, o, Option.none⟩) (k + 1) cap, x.q.val] W fun e w' => e = .returned (.tuple #[.int .u8 pt, .bool z]) ∧ Keeps Nil W w' := fun W kW => by
            have := learnt_any (some ⟨b, o, Option.none⟩) (k + 1) cap (acts.take (k + 1)) x.q HXO.out.2.1 W (by omega) (by have := HCAP.out; omega) HTL.out (fun _ => ⟨b, o, rfl, Nat.lt_of_lt_of_le hbw kW.size, (HR.out.keepN (K3.out.trans kW) hb).takes (by omega)⟩)
            rw [hlp] at this
            exact this
          have hi1 : (k : Int) + 1 ≤ (cap : Int) := by have := HCAP.out; omega
          have hi4 : (0 : Int) ≤ (k : Int) + 1 := by omega
          have hi3 : IntKind.i64.wrap ((k : Int) + 1) = (k : Int) + 1 := by rw [IntKind.wrap_i64]; omega
          have HH : Hid (∀ X, Keeps Nil w2 X → (fun X : World => X.cell? ⟨bX, 0, Option.none⟩ = some (.int .u16 x.q.v) ∧ X.cell? ⟨bX, 1, Option.none⟩ = some (.int .u8 x.q.a) ∧ X.cell? ⟨bX, 2, Option.none⟩ = some (.int .u8 x.q.b) ∧ X.cell? ⟨bX, 3, Option.none⟩ = some (.int .u8 x.q.c) ∧ X.cell? ⟨bX, 4, Option.none⟩ = some (.int .u8 x.q.d) ∧ X.cell? ⟨bX, 5, Option.none⟩ = some (.int .u8 x.q.e) ∧ X.cell? ⟨bX, 6, Option.none⟩ = some (.int .u8 x.q.f)) X) := hid (fun X kX => seven_of (kX.lies X3.out))
          have kk : Keeps Nil w2 w2 := Keeps.refl _ _
          have HT := hid ht
          have HF := hid hf
          clear ht hf hs hlp hbw
          go_wp2_with fail
          refine wp_region_held_drew (S := (fun X : World => X.cell? ⟨bX, 0, Option.none⟩ = some (.int .u16 x.q.v) ∧ X.cell? ⟨bX, 1, Option.none⟩ = some (.int .u8 x.q.a) ∧ X.cell? ⟨bX, 2, Option.none⟩ = some (.int .u8 x.q.b) ∧ X.cell? ⟨bX, 3, Option.none⟩ = some (.int .u8 x.q.c) ∧ X.cell? ⟨bX, 4, Option.none⟩ = some (.int .u8 x.q.d) ∧ X.cell? ⟨bX, 5, Option.none⟩ = some (.int .u8 x.q.e) ∧ X.cell? ⟨bX, 6, Option.none⟩ = some (.int .u8 x.q.f))) (by kernel_rfl) ?_ (fun hHeld => ?_)
          · (try dsimp only); (first | exact HH.out _ kk | exact HH.out _ kk.drew | exact HH.out _ kk.drew.drew)
          refine wpAnyH_take (i := 0) (v := ?_) rfl (by kernel_rfl) (by kernel_rfl) (by kernel_rfl) (fun _ _ _ h => h) (Or.inl ⟨by rfl, ?_⟩) (by assumption) ?_
          rotate_left
          · (intro W hSw; (try dsimp only at hSw); go_simp <;> with_reducible rfl)
          try simp only [Act.put, List.setIfInBounds_toArray, List.set_cons_zero, List.set_cons_succ, List.getElem_toArray, List.getElem_cons_zero, List.getElem_cons_succ]
          refine wpAnyH_take (i := 1) (v := ?_) rfl (by kernel_rfl) (by kernel_rfl) (by kernel_rfl) (fun _ _ _ h => h) (Or.inl ⟨by rfl, ?_⟩) (by assumption) ?_
          rotate_left
          · (intro W hSw; (try dsimp only at hSw); go_simp <;> with_reducible rfl)
          try simp only [Act.put, List.setIfInBounds_toArray, List.set_cons_zero, List.set_cons_succ, List.getElem_toArray, List.getElem_cons_zero, List.getElem_cons_succ]
          refine wpAnyH_take (i := 2) (v := ?_) rfl (by kernel_rfl) (by kernel_rfl) (by kernel_rfl) (fun _ _ _ h => h) (Or.inl ⟨by rfl, ?_⟩) (by assumption) ?_
          rotate_left
          · (intro W hSw; (try dsimp only at hSw); go_simp <;> with_reducible rfl)
          try simp only [Act.put, List.setIfInBounds_toArray, List.set_cons_zero, List.set_cons_succ, List.getElem_toArray, List.getElem_cons_zero, List.getElem_cons_succ]
          refine wpAnyH_take (i := 3) (v := ?_) rfl (by kernel_rfl) (by kernel_rfl) (by kernel_rfl) (fun _ _ _ h => h) (Or.inl ⟨by rfl, ?_⟩) (by assumption) ?_
          rotate_left
          · (intro W hSw; (try dsimp only at hSw); go_simp <;> with_reducible rfl)
          try simp only [Act.put, List.setIfInBounds_toArray, List.set_cons_zero, List.set_cons_succ, List.getElem_toArray, List.getElem_cons_zero, List.getElem_cons_succ]
          refine wpAnyH_take (i := 4) (v := ?_) rfl (by kernel_rfl) (by kernel_rfl) (by kernel_rfl) (fun _ _ _ h => h) (Or.inl ⟨by rfl, ?_⟩) (by assumption) ?_
          rotate_left
          · (intro W hSw; (try dsimp only at hSw); go_simp <;> with_reducible rfl)
          try simp only [Act.put, List.setIfInBounds_toArray, List.set_cons_zero, List.set_cons_succ, List.getElem_toArray, List.getElem_cons_zero, List.getElem_cons_succ]
          refine wpAnyH_ready (rs := [5]) (by kernel_rfl) (by simp) ?_
          refine AllReadyH.cons rfl (fun K hK => ?_) AllReadyH.nil
          try simp only [Act.put, List.setIfInBounds_toArray, List.set_cons_zero, List.set_cons_succ, List.getElem_toArray, List.getElem_cons_zero, List.getElem_cons_succ]
          go_simp
          (go_at_call 23; refine (C23 _ (by first | exact kk | exact kk.drew | exact kk.drew.drew)).mono ?_; rintro ee wz ⟨rfl, kz⟩; have kk : Keeps Nil w2 wz := by first | exact kk.trans kz | exact kk.drew.trans kz | exact kk.drew.drew.trans kz)
          (try go_wp2_with fail)
          refine hK.out _ _ ?_ (fun hHeld => ?_)
          · (try dsimp only); (first | exact HH.out _ kk | exact HH.out _ kk.drew | exact HH.out _ kk.drew.drew)
          clear hK K
          try simp only [Act.put, List.setIfInBounds_toArray, List.set_cons_zero, List.set_cons_succ, List.getElem_toArray, List.getElem_cons_zero, List.getElem_cons_succ]
          refine wpAnyH_take (i := 6) (v := ?_) rfl (by kernel_rfl) (by kernel_rfl) (by kernel_rfl) (fun _ _ _ h => h) (Or.inl ⟨by rfl, ?_⟩) (by assumption) ?_
          rotate_left
          · (intro W hSw; (try dsimp only at hSw); go_simp <;> with_reducible rfl)
          try simp only [Act.put, List.setIfInBounds_toArray, List.set_cons_zero, List.set_cons_succ, List.getElem_toArray, List.getElem_cons_zero, List.getElem_cons_succ]
          refine wpAnyH_take (i := 7) (v := ?_) rfl (by kernel_rfl) (by kernel_rfl) (by kernel_rfl) (fun _ _ _ h => h) (Or.inl ⟨by rfl, ?_⟩) (by assumption) ?_
          rotate_left
          · (intro W hSw; (try dsimp only at hSw); go_simp <;> with_reducible rfl)
          try simp only [Act.put, List.setIfInBounds_toArray, List.set_cons_zero, List.set_cons_succ, List.getElem_toArray, List.getElem_cons_zero, List.getElem_cons_succ]
          refine wpAnyH_take (i := 8) (v := ?_) rfl (by kernel_rfl) (by kernel_rfl) (by kernel_rfl) (fun _ _ _ h => h) (Or.inl ⟨by rfl, ?_⟩) (by assumption) ?_
          rotate_left
          · (intro W hSw; (try dsimp only at hSw); go_simp <;> with_reducible rfl)
          try simp only [Act.put, List.setIfInBounds_toArray, List.set_cons_zero, List.set_cons_succ, List.getElem_toArray, List.getElem_cons_zero, List.getElem_cons_succ]
          refine wpAnyH_take (i := 9) (v := ?_) rfl (by kernel_rfl) (by kernel_rfl) (by kernel_rfl) (fun _ _ _ h => h) (Or.inl ⟨by rfl, ?_⟩) (by assumption) ?_
          rotate_left
          · (intro W hSw; (try dsimp only at hSw); go_simp <;> with_reducible rfl)
          try simp only [Act.put, List.setIfInBounds_toArray, List.set_cons_zero, List.set_cons_succ, List.getElem_toArray, List.getElem_cons_zero, List.getElem_cons_succ]
          refine wpAnyH_take (i := 10) (v := ?_) rfl (by kernel_rfl) (by kernel_rfl) (by kernel_rfl) (fun _ _ _ h => h) (Or.inl ⟨by rfl, ?_⟩) (by assumption) ?_
          rotate_left
          · (intro W hSw; (try dsimp only at hSw); go_simp <;> with_reducible rfl)
          try simp only [Act.put, List.setIfInBounds_toArray, List.set_cons_zero, List.set_cons_succ, List.getElem_toArray, List.getElem_cons_zero, List.getElem_cons_succ]
          refine wpAnyH_done (by kernel_rfl) ?_ _
          have KK := hid kk
          clear kk
          cases z with
          | true =>
            obtain ⟨h0, h8, hu⟩ := HT.out rfl
            subst hu
            have hsh : IntKind.u8.wrap ((2 : Int) ^ pt.toNat) = 2 ^ pt.toNat := pow_wrap h0 h8
            have hnn : ((2 : Int) ^ pt.toNat != (2 : Int) ^ pt.toNat) = false := by simp
            go_wp2_with fail
            go_roundw
            case rel => exact ⟨k + 1, by omega, by go_num, hid ⟨τ1, _, _, _, HTA.out, T3.out.keepN KK.out, M3.out.keep KK.out (fun e => e), K3.out.trans KK.out⟩⟩
            case measure => simp only [intOf]; omega
          | false =>
            have hu := HF.out rfl
            subst hu
            go_wp2_with fail
            go_roundw
            case rel => exact ⟨k + 1, by omega, by go_num, hid ⟨τ1, _, _, _, HTA.out, T3.out.keepN KK.out, M3.out.keep KK.out (fun e => e), K3.out.trans KK.out⟩⟩
            case measure => simp only [intOf]; omega
    · obtain rfl : k = n := by omega
      obtain ⟨τ, p, n1, c1, hta, hT, hM, hK⟩ := hh.out
      have HG := hid (Tb.Good.start.runs (l := acts.take k) (fun y hy => OKA.out y (List.mem_of_mem_take hy)))
      rw [hta] at HG
      have T0 := hid hT
      have M0 := hid hM
      have K0 := hid hK
      have hn32 : n1 ≤ 32 := by have h1 := hT.2.1.1; have := HG.out.L; omega
      have hd32 : decide ((n1 : Int) ≤ 32) = true := by simp; omega
      clear hta hT hM hK hh
      go_wp2_with fail
      refine (list_any _ _ _ _ _ _ _ _ T0.out (T0.out.n_le HG.out)).mono ?_
      rintro ee w2 ⟨⟨p', c', rfl, _⟩, k2⟩
      have hst := statics_any _ _ _ _ _ _ _ w2 (T0.out.keepN k2)
      have hln : ∀ ty, (Builtin.len_ #[55] ty #[.map (some ms)]).run Try.prog w2 = .ok (.int .i64 τ.S.length) w2 := fun ty => (M0.out.keep k2 (fun e => e)).len ty
      have hee : ((τ.S.length : Int) == (τ.S.length : Int)) = true := by simp
      have K2 := hid (K0.out.trans k2)
      clear k2
      go_wp2_with fail
      refine hst.mono ?_
      rintro ee w3 ⟨rfl, rfl⟩
      go_wp2_with (go_at_call 6; refine (HW _).out.mono ?_; rintro ee w4 ⟨rfl, k4⟩)
      go_ret
      exact ⟨rfl, (K1.out.trans K2.out).trans k4⟩
end Go.Proofs.Ytdmjpgefoppfmaa
