/-
  The statement FdbPlays, walked. Condition: the acts lie in their cells; the numbers are in range.
-/
import Derived.Test.YtdmjpgefoppfmaaFHead
import Derived.Test.YtdmjpgefoppfmaaFSame
import Derived.Deep.DeepCutAuto
import Derived.Deep.CutBlock
namespace Go.Proofs.Ytdmjpgefoppfmaa
open Go.RowKit
set_option linter.unusedVariables false

set_option maxRecDepth 6000 in
set_option maxHeartbeats 60000000 in
theorem plays_any (a : Option Addr) (n cap : Nat) (acts : List FAct) (qq : Pl) (hqq : qq.Ok) (w : World) (hm : n ≤ maxLen) (hll : acts.length = n) (h : 0 < n → ∃ b o, a = some ⟨b, o, Option.none⟩ ∧ b < w.heap.size ∧ FActs w b o n acts) :
    Calls Try.prog 3 #[.slice a n cap, .int .u16 qq.v, qq.mac] w fun e w' => e = .returned (.bool true) ∧ Keeps Nil w w' := by
  have HW : ∀ W, Hid (Calls Try.prog 6 #[] W fun e w' => e = .returned (.bool true) ∧ Keeps Nil W w') := fun W => hid (wakes_any W)
  have kb : Keeps Nil w (w.alloc (.cells #[Value.int IntKind.u8 qq.a, Value.int IntKind.u8 qq.b, Value.int IntKind.u8 qq.c, Value.int IntKind.u8 qq.d, Value.int IntKind.u8 qq.e, Value.int IntKind.u8 qq.f] 25 (0, 0))) := (Keeps.refl _ _).alloc _
  have hb := alloc_block w (.cells #[Value.int IntKind.u8 qq.a, Value.int IntKind.u8 qq.b, Value.int IntKind.u8 qq.c, Value.int IntKind.u8 qq.d, Value.int IntKind.u8 qq.e, Value.int IntKind.u8 qq.f] 25 (0, 0))
  have HQQ := hid hqq
  have HH := hid (fun h0 => by
    obtain ⟨b, o, e, hlt, hr⟩ := h h0
    exact (⟨b, o, e, Nat.lt_of_lt_of_le hlt kb.size, hr.keepN kb hlt⟩ : ∃ b o, a = some ⟨b, o, Option.none⟩ ∧ b < (w.alloc (.cells #[Value.int IntKind.u8 qq.a, Value.int IntKind.u8 qq.b, Value.int IntKind.u8 qq.c, Value.int IntKind.u8 qq.d, Value.int IntKind.u8 qq.e, Value.int IntKind.u8 qq.f] 25 (0, 0))).heap.size ∧ FActs (w.alloc (.cells #[Value.int IntKind.u8 qq.a, Value.int IntKind.u8 qq.b, Value.int IntKind.u8 qq.c, Value.int IntKind.u8 qq.d, Value.int IntKind.u8 qq.e, Value.int IntKind.u8 qq.f] 25 (0, 0))) b o n acts))
  have HN := hid hll
  clear h hll hqq
  go_enter Try.func3, Try.ntmps3
  go_upto_region 1 with (fail)
  generalize (w.alloc (.cells #[Value.int IntKind.u8 qq.a, Value.int IntKind.u8 qq.b, Value.int IntKind.u8 qq.c, Value.int IntKind.u8 qq.d, Value.int IntKind.u8 qq.e, Value.int IntKind.u8 qq.f] 25 (0, 0))) = w1 at *
  have hw1 : w.heap.size < w1.heap.size := lt_of_block hb
  generalize w.heap.size = bM at *
  have HM := hid hb
  have K1 := hid kb
  clear hb kb
  by_cases hn : 300 < n
  · unfold maxLen at hm
    go_wp2_with (go_at_call 6; refine (HW _).out.mono ?_; rintro e w2 ⟨rfl, k2⟩)
    go_ret
    exact ⟨rfl, K1.out.trans k2⟩
  clear hm
  go_wp2_with fail
  refine (new_any _).mono ?_; rintro e w2 ⟨t, mb, rfl, i1, ht, hmb, k1⟩
  have HX := hid (And.intro ht hmb)
  have HI := hid i1
  have HB := hid k1.size
  clear i1 ht hmb
  go_wp2_with fail
  go_loopw [9] (fun v wr => ∃ k : Nat, k ≤ n ∧ v = .int .i64 k ∧ Hid (∃ τ, FHead w1 t mb w2.heap.size τ k wr)) (fun v _ => n - (intOf v).toNat)
  case atStart =>
    have kx : Keeps Nil w2 (w2.alloc (tcells Option.none 0 0 Option.none 0 0)) := (Keeps.refl _ _).alloc _
    exact ⟨0, Nat.zero_le _, rfl, hid ⟨⟨[], []⟩, Option.none, 0, 0, Option.none, 0, 0, Option.none, 0, 0, HI.out.keepN kx, alloc_block w2 _, RO.nil _ _, Tb.Good.start, k1.trans kx⟩⟩
  case round =>
    obtain ⟨k, hk, rfl, hh⟩ := hrel
    by_cases hlt : k < n
    · obtain ⟨b, o, rfl, hb, hr⟩ := HH.out (by omega)
      obtain ⟨⟨dv, q, port, ports⟩, ha⟩ : ∃ x, acts[k]? = some x := ⟨_, List.getElem?_eq_getElem (by have := hr.1; omega)⟩
      obtain ⟨τ, p, n1, c1, pL, nL, cL, pS, nS, cS, iT, bD, iR, ok, hkeep⟩ := hh.out
      obtain ⟨hcells, hd, hq, hp, hps⟩ := (hr.keepN hkeep hb).2 k _ ha
      have g0 : wr.cell? ⟨b, o + k * 10, Option.none⟩ = some (.int .u8 dv) := hcells 0 _ rfl
      have g1 : wr.cell? ⟨b, o + k * 10 + 1, Option.none⟩ = some (.int .u16 q.v) := hcells 1 _ rfl
      have g2 : wr.cell? ⟨b, o + k * 10 + 2, Option.none⟩ = some (.int .u8 q.a) := hcells 2 _ rfl
      have g3 : wr.cell? ⟨b, o + k * 10 + 3, Option.none⟩ = some (.int .u8 q.b) := hcells 3 _ rfl
      have g4 : wr.cell? ⟨b, o + k * 10 + 4, Option.none⟩ = some (.int .u8 q.c) := hcells 4 _ rfl
      have g5 : wr.cell? ⟨b, o + k * 10 + 5, Option.none⟩ = some (.int .u8 q.d) := hcells 5 _ rfl
      have g6 : wr.cell? ⟨b, o + k * 10 + 6, Option.none⟩ = some (.int .u8 q.e) := hcells 6 _ rfl
      have g7 : wr.cell? ⟨b, o + k * 10 + 7, Option.none⟩ = some (.int .u8 q.f) := hcells 7 _ rfl
      have g8 : wr.cell? ⟨b, o + k * 10 + 8, Option.none⟩ = some (.int .u8 port) := hcells 8 _ rfl
      have g9 : wr.cell? ⟨b, o + k * 10 + 9, Option.none⟩ = some (.int .u8 ports) := hcells 9 _ rfl
      have HQ : Hid (q.Ok ∧ (0 ≤ port ∧ port < 256) ∧ (0 ≤ ports ∧ ports < 256)) := hid ⟨hq, hp, hps⟩
      have hd : 0 ≤ dv := hd
      have HT := hid iT
      have HD := hid bD
      have HR := hid iR
      have HO := hid ok
      have HK := hid hkeep
      clear hr ha iT bD iR ok hkeep hh hcells hq hp hps
      go_upto_block 2 with (fail)
      have kz : Keeps Nil wr (wr.alloc (.cells #[Value.int IntKind.u8 dv, Value.int IntKind.u16 q.v, Value.int IntKind.u8 q.a, Value.int IntKind.u8 q.b, Value.int IntKind.u8 q.c, Value.int IntKind.u8 q.d, Value.int IntKind.u8 q.e, Value.int IntKind.u8 q.f, Value.int IntKind.u8 port, Value.int IntKind.u8 ports] 34 (0, 0))) := (Keeps.refl _ _).alloc _
      have AZ := alloc_block wr (.cells #[Value.int IntKind.u8 dv, Value.int IntKind.u16 q.v, Value.int IntKind.u8 q.a, Value.int IntKind.u8 q.b, Value.int IntKind.u8 q.c, Value.int IntKind.u8 q.d, Value.int IntKind.u8 q.e, Value.int IntKind.u8 q.f, Value.int IntKind.u8 port, Value.int IntKind.u8 ports] 34 (0, 0))
      have DZ := hid (kz.lies HD.out)
      have TZ := hid (HT.out.keepN kz)
      have RZ := hid (HR.out.keepN kz)
      have KZ := hid (HK.out.trans kz)
      generalize (wr.alloc (.cells #[Value.int IntKind.u8 dv, Value.int IntKind.u16 q.v, Value.int IntKind.u8 q.a, Value.int IntKind.u8 q.b, Value.int IntKind.u8 q.c, Value.int IntKind.u8 q.d, Value.int IntKind.u8 q.e, Value.int IntKind.u8 q.f, Value.int IntKind.u8 port, Value.int IntKind.u8 ports] 34 (0, 0))) = wz at *
      generalize wr.heap.size = bA at *
      obtain ⟨y0, y1⟩ := two_cells DZ.out
      obtain ⟨z0, z1⟩ := two_free DZ.out
      obtain ⟨t0, t1, t2, t3, t4, t5, t6, t7, t8, t9⟩ := ten_of AZ
      have AZ := hid AZ
      clear HT HD HR HK kz g0 g1 g2 g3 g4 g5 g6 g7 g8 g9
      go_cut [11, 12] (fun s11 s12 wx => ∃ v : Int, s11 = .int .i64 v ∧ s12 = .int .i64 v ∧ Hid ((∃ τ, FHead w1 t mb w2.heap.size τ (k + 1) wx) ∧ wx.heap[bA]? = some (.cells #[Value.int IntKind.u8 dv, Value.int IntKind.u16 q.v, Value.int IntKind.u8 q.a, Value.int IntKind.u8 q.b, Value.int IntKind.u8 q.c, Value.int IntKind.u8 q.d, Value.int IntKind.u8 q.e, Value.int IntKind.u8 q.f, Value.int IntKind.u8 port, Value.int IntKind.u8 ports] 34 (0, 0))))
      case first =>
        have hk3 : k ≤ 300 := by omega
        by_cases h0 : dv = 0
        · subst h0
          obtain ⟨τ', hc⟩ : ∃ τ', τ.tick = τ' := ⟨_, rfl⟩
          have HOK := hid (HO.out.tick)
          rw [hc] at HOK
          have HC := hid hc
          clear hc
          go_wp2_with fail
          refine (p_tick' TZ.out HO.out hk3 HC.out).mono ?_; rintro ee w2 ⟨rfl, ⟨p2, n2, c2, i2⟩, k2⟩
          clear y0 y1 z0 z1 t0 t1 t2 t3 t4 t5 t6 t7 t8 t9
          have D2 := k2.lies DZ.out (TZ.out.not_own' DZ.out (by decide) (by decide))
          have A2 := k2.lies AZ.out (TZ.out.not_own' AZ.out (by decide) (by decide))
          have R2 := hid (RZ.out.keepT TZ.out k2)
          have K2 := hid (KZ.out.thenOwn k2 (TZ.out.own_ge HX.out.1 HX.out.2))
          have T2 := hid i2
          clear i2 k2
          obtain ⟨y0, y1⟩ := two_cells D2
          obtain ⟨z0, z1⟩ := two_free D2
          obtain ⟨t0, t1, t2, t3, t4, t5, t6, t7, t8, t9⟩ := ten_of A2
          have D2 := hid D2
          have A2 := hid A2
          go_wp2_with fail
          refine (r_tick' R2.out (Nat.succ_le_of_lt (lt_of_block D2.out)) HO.out hk3 HC.out).mono ?_; rintro ee w3 ⟨⟨pL', nL', cL', pS', nS', cS', rfl, r3⟩, k3⟩
          clear y0 y1 z0 z1 t0 t1 t2 t3 t4 t5 t6 t7 t8 t9
          have D3 := k3.lies D2.out
          have A3 := k3.lies A2.out
          have R3 := hid (r3)
          have K3 := hid (K2.out.trans k3)
          have T3 := hid (T2.out.keepN k3)
          clear k3
          obtain ⟨y0, y1⟩ := two_cells D3
          obtain ⟨z0, z1⟩ := two_free D3
          obtain ⟨t0, t1, t2, t3, t4, t5, t6, t7, t8, t9⟩ := ten_of A3
          have D3 := hid D3
          have A3 := hid A3
          clear r3
          go_wp2_with fail
          go_meet
          have hfin := FHead.close T3.out D3.out R3.out HOK.out K3.out HB.out A3.out
          exact ⟨_, rfl, rfl, hid ⟨⟨_, hfin.1⟩, hfin.2⟩⟩
        · by_cases h1 : dv = 1
          · subst h1
            obtain ⟨τ', hc⟩ : ∃ τ', τ.flush ports = τ' := ⟨_, rfl⟩
            have HOK := hid (HO.out.flush ports)
            rw [hc] at HOK
            have HC := hid hc
            clear hc
            obtain ⟨v', hv⟩ : ∃ v', (τ.L.length : Int) - τ'.L.length = v' := ⟨_, rfl⟩
            have HV := hid hv
            clear hv
            go_wp2_with fail
            refine (p_flush' TZ.out HO.out ports HQ.out.2.2 HC.out HV.out).mono ?_; rintro ee w2 ⟨rfl, ⟨p2, n2, c2, i2⟩, k2⟩
            clear y0 y1 z0 z1 t0 t1 t2 t3 t4 t5 t6 t7 t8 t9
            have D2 := k2.lies DZ.out (TZ.out.not_own' DZ.out (by decide) (by decide))
            have A2 := k2.lies AZ.out (TZ.out.not_own' AZ.out (by decide) (by decide))
            have R2 := hid (RZ.out.keepT TZ.out k2)
            have K2 := hid (KZ.out.thenOwn k2 (TZ.out.own_ge HX.out.1 HX.out.2))
            have T2 := hid i2
            clear i2 k2
            obtain ⟨y0, y1⟩ := two_cells D2
            obtain ⟨z0, z1⟩ := two_free D2
            obtain ⟨t0, t1, t2, t3, t4, t5, t6, t7, t8, t9⟩ := ten_of A2
            have D2 := hid D2
            have A2 := hid A2
            go_wp2_with fail
            refine (r_flush' R2.out (Nat.succ_le_of_lt (lt_of_block D2.out)) HO.out ports HQ.out.2.2 HC.out HV.out).mono ?_; rintro ee w3 ⟨⟨pL', nL', cL', pS', nS', cS', rfl, r3⟩, k3⟩
            clear y0 y1 z0 z1 t0 t1 t2 t3 t4 t5 t6 t7 t8 t9
            have D3 := k3.lies D2.out
            have A3 := k3.lies A2.out
            have R3 := hid (r3)
            have K3 := hid (K2.out.trans k3)
            have T3 := hid (T2.out.keepN k3)
            clear k3
            obtain ⟨y0, y1⟩ := two_cells D3
            obtain ⟨z0, z1⟩ := two_free D3
            obtain ⟨t0, t1, t2, t3, t4, t5, t6, t7, t8, t9⟩ := ten_of A3
            have D3 := hid D3
            have A3 := hid A3
            clear r3
            go_upto_region 19 with (fail)
            have kx : Keeps Nil w3 (w3.alloc (.cells #[Value.slice pL' nL' cL', Value.slice pS' nS' cS'] 32 (0, 0))) := (Keeps.refl _ _).alloc _
            have h14 := alloc_block w3 (.cells #[Value.slice pL' nL' cL', Value.slice pS' nS' cS'] 32 (0, 0))
            have D4 := kx.lies D3.out
            have A4 := kx.lies A3.out
            have R4 := hid (R3.out.keepN kx)
            have K4 := hid (K3.out.trans kx)
            have T4 := hid (T3.out.keepN kx)
            have g0 : (v' != v') = false := by simp
            clear y0 y1 z0 z1 t0 t1 t2 t3 t4 t5 t6 t7 t8 t9 D3 A3 R3 K3 T3 kx
            generalize (w3.alloc _) = W at *
            generalize w3.heap.size = b14 at *
            obtain ⟨e0, e1⟩ := two_cells h14
            obtain ⟨y0, y1⟩ := two_cells D4
            obtain ⟨z0, z1⟩ := two_free D4
            clear h14
            have D3 := hid D4
            have A3 := hid A4
            have R3 := R4
            have K3 := K4
            have T3 := T4
            clear D4 A4 R4 K4 T4
            go_wp2_with fail
            go_meet
            have hfin := FHead.close T3.out D3.out R3.out HOK.out K3.out HB.out A3.out
            exact ⟨_, rfl, rfl, hid ⟨⟨_, hfin.1⟩, hfin.2⟩⟩
          · by_cases h2 : dv = 2
            · subst h2
              rcases hc : τ.set q ports with ⟨τ', v'⟩
              have HOK := hid (HO.out.set q ports)
              rw [hc] at HOK
              have HC := hid hc
              clear hc
              go_wp2_with fail
              refine (p_set' TZ.out HO.out q HQ.out.1 ports HQ.out.2.2 HC.out).mono ?_; rintro ee w2 ⟨rfl, ⟨p2, n2, c2, i2⟩, k2⟩
              clear y0 y1 z0 z1 t0 t1 t2 t3 t4 t5 t6 t7 t8 t9
              have D2 := k2.lies DZ.out (TZ.out.not_own' DZ.out (by decide) (by decide))
              have A2 := k2.lies AZ.out (TZ.out.not_own' AZ.out (by decide) (by decide))
              have R2 := hid (RZ.out.keepT TZ.out k2)
              have K2 := hid (KZ.out.thenOwn k2 (TZ.out.own_ge HX.out.1 HX.out.2))
              have T2 := hid i2
              clear i2 k2
              obtain ⟨y0, y1⟩ := two_cells D2
              obtain ⟨z0, z1⟩ := two_free D2
              obtain ⟨t0, t1, t2, t3, t4, t5, t6, t7, t8, t9⟩ := ten_of A2
              have D2 := hid D2
              have A2 := hid A2
              go_wp2_with fail
              refine (r_set' R2.out (Nat.succ_le_of_lt (lt_of_block D2.out)) HO.out q ports HC.out).mono ?_; rintro ee w3 ⟨⟨pL', nL', cL', pS', nS', cS', rfl, r3⟩, k3⟩
              clear y0 y1 z0 z1 t0 t1 t2 t3 t4 t5 t6 t7 t8 t9
              have D3 := k3.lies D2.out
              have A3 := k3.lies A2.out
              have R3 := hid (r3)
              have K3 := hid (K2.out.trans k3)
              have T3 := hid (T2.out.keepN k3)
              clear k3
              obtain ⟨y0, y1⟩ := two_cells D3
              obtain ⟨z0, z1⟩ := two_free D3
              obtain ⟨t0, t1, t2, t3, t4, t5, t6, t7, t8, t9⟩ := ten_of A3
              have D3 := hid D3
              have A3 := hid A3
              clear r3
              go_wp2_with fail
              go_meet
              have hfin := FHead.close T3.out D3.out R3.out HOK.out K3.out HB.out A3.out
              exact ⟨_, rfl, rfl, hid ⟨⟨_, hfin.1⟩, hfin.2⟩⟩
            · by_cases h3 : dv = 3
              · subst h3
                rcases hc : τ.unset q with ⟨τ', v'⟩
                have HOK := hid (HO.out.unset q)
                rw [hc] at HOK
                have HC := hid hc
                clear hc
                go_wp2_with fail
                refine (p_unset' TZ.out HO.out q HQ.out.1 HC.out).mono ?_; rintro ee w2 ⟨rfl, ⟨p2, n2, c2, i2⟩, k2⟩
                clear y0 y1 z0 z1 t0 t1 t2 t3 t4 t5 t6 t7 t8 t9
                have D2 := k2.lies DZ.out (TZ.out.not_own' DZ.out (by decide) (by decide))
                have A2 := k2.lies AZ.out (TZ.out.not_own' AZ.out (by decide) (by decide))
                have R2 := hid (RZ.out.keepT TZ.out k2)
                have K2 := hid (KZ.out.thenOwn k2 (TZ.out.own_ge HX.out.1 HX.out.2))
                have T2 := hid i2
                clear i2 k2
                obtain ⟨y0, y1⟩ := two_cells D2
                obtain ⟨z0, z1⟩ := two_free D2
                obtain ⟨t0, t1, t2, t3, t4, t5, t6, t7, t8, t9⟩ := ten_of A2
                have D2 := hid D2
                have A2 := hid A2
                go_wp2_with fail
                refine (r_unset' R2.out (Nat.succ_le_of_lt (lt_of_block D2.out)) HO.out q HC.out).mono ?_; rintro ee w3 ⟨⟨pL', nL', cL', pS', nS', cS', rfl, r3⟩, k3⟩
                clear y0 y1 z0 z1 t0 t1 t2 t3 t4 t5 t6 t7 t8 t9
                have D3 := k3.lies D2.out
                have A3 := k3.lies A2.out
                have R3 := hid (r3)
                have K3 := hid (K2.out.trans k3)
                have T3 := hid (T2.out.keepN k3)
                clear k3
                obtain ⟨y0, y1⟩ := two_cells D3
                obtain ⟨z0, z1⟩ := two_free D3
                obtain ⟨t0, t1, t2, t3, t4, t5, t6, t7, t8, t9⟩ := ten_of A3
                have D3 := hid D3
                have A3 := hid A3
                clear r3
                go_wp2_with fail
                go_meet
                have hfin := FHead.close T3.out D3.out R3.out HOK.out K3.out HB.out A3.out
                exact ⟨_, rfl, rfl, hid ⟨⟨_, hfin.1⟩, hfin.2⟩⟩
              · have h4 : 4 ≤ dv := by omega
                obtain ⟨τ', hc⟩ : ∃ τ', τ.learn q port = τ' := ⟨_, rfl⟩
                have HOK := hid (HO.out.learn q port HQ.out.2.1.1)
                rw [hc] at HOK
                have HC := hid hc
                clear hc
                go_wp2_with fail
                refine (p_learn' TZ.out HO.out KZ.out.size q HQ.out.1 port HC.out).mono ?_; rintro ee w2 ⟨rfl, ⟨p2, n2, c2, i2⟩, k2⟩
                clear y0 y1 z0 z1 t0 t1 t2 t3 t4 t5 t6 t7 t8 t9
                have D2 := k2.lies DZ.out (TZ.out.not_own' DZ.out (by decide) (by decide))
                have A2 := k2.lies AZ.out (TZ.out.not_own' AZ.out (by decide) (by decide))
                have R2 := hid (RZ.out.keepT TZ.out k2)
                have K2 := hid (KZ.out.thenOwn k2 (TZ.out.own_ge HX.out.1 HX.out.2))
                have T2 := hid i2
                clear i2 k2
                obtain ⟨y0, y1⟩ := two_cells D2
                obtain ⟨z0, z1⟩ := two_free D2
                obtain ⟨t0, t1, t2, t3, t4, t5, t6, t7, t8, t9⟩ := ten_of A2
                have D2 := hid D2
                have A2 := hid A2
                go_wp2_with fail
                refine (r_learn' R2.out (Nat.succ_le_of_lt (lt_of_block D2.out)) HO.out q HQ.out.1 port HQ.out.2.1.1 HC.out).mono ?_; rintro ee w3 ⟨⟨pL', nL', cL', pS', nS', cS', rfl, r3⟩, k3⟩
                clear y0 y1 z0 z1 t0 t1 t2 t3 t4 t5 t6 t7 t8 t9
                have D3 := k3.lies D2.out
                have A3 := k3.lies A2.out
                have R3 := hid (r3)
                have K3 := hid (K2.out.trans k3)
                have T3 := hid (T2.out.keepN k3)
                clear k3
                obtain ⟨y0, y1⟩ := two_cells D3
                obtain ⟨z0, z1⟩ := two_free D3
                obtain ⟨t0, t1, t2, t3, t4, t5, t6, t7, t8, t9⟩ := ten_of A3
                have D3 := hid D3
                have A3 := hid A3
                clear r3
                go_wp2_with fail
                go_meet
                have hfin := FHead.close T3.out D3.out R3.out HOK.out K3.out HB.out A3.out
                exact ⟨_, rfl, rfl, hid ⟨⟨_, hfin.1⟩, hfin.2⟩⟩
      case rest =>
        obtain ⟨v, rfl, rfl, hh2⟩ := hcut
        have HH2 := hid hh2.out.1
        have A0 := hid hh2.out.2
        clear hh2
        obtain ⟨τ', p2, n2, c2, pL', nL', cL', pS', nS', cS', hT, hD, hR, hG, hK⟩ := HH2.out
        have D0 := hid hD
        have T0 := hid hT
        have R0 := hid hR
        have HOK := hid hG
        have K0 := hid hK
        obtain ⟨y0, y1⟩ := two_cells hD
        obtain ⟨z0, z1⟩ := two_free hD
        obtain ⟨t0, t1, t2, t3, t4, t5, t6, t7, t8, t9⟩ := ten_of A0.out
        clear hT hD hR hG hK
        rcases hc : τ'.look q with ⟨u', z'⟩
        have HC := hid hc
        clear hc
        have g0 : (v != v) = false := by simp
        have g1 : (u' != u') = false := by simp
        have g2 : (z' != z') = false := by simp
        go_wp2_with fail
        refine (p_look' T0.out HOK.out q HQ.out.1 HC.out).mono ?_; rintro ee w2 ⟨rfl, k2⟩
        clear y0 y1 z0 z1 t0 t1 t2 t3 t4 t5 t6 t7 t8 t9
        have D2 := k2.lies D0.out
        have A2 := k2.lies A0.out
        have R2 := hid (R0.out.keepN k2)
        have K2 := hid (K0.out.trans k2)
        have T2 := hid (T0.out.keepN k2)
        clear k2
        obtain ⟨y0, y1⟩ := two_cells D2
        obtain ⟨z0, z1⟩ := two_free D2
        obtain ⟨t0, t1, t2, t3, t4, t5, t6, t7, t8, t9⟩ := ten_of A2
        have D2 := hid D2
        have A2 := hid A2
        go_wp2_with fail
        refine (r_look' R2.out HOK.out q HC.out).mono ?_; rintro ee w3 ⟨rfl, k3⟩
        clear y0 y1 z0 z1 t0 t1 t2 t3 t4 t5 t6 t7 t8 t9
        have D3 := k3.lies D2.out
        have A3 := k3.lies A2.out
        have R3 := hid (R2.out.keepN k3)
        have K3 := hid (K2.out.trans k3)
        have T3 := hid (T2.out.keepN k3)
        clear k3
        obtain ⟨y0, y1⟩ := two_cells D3
        obtain ⟨z0, z1⟩ := two_free D3
        obtain ⟨t0, t1, t2, t3, t4, t5, t6, t7, t8, t9⟩ := ten_of A3
        have D3 := hid D3
        have A3 := hid A3
        go_wp2_with (go_at_call 20; refine (same_any T3.out R3.out HOK.out).mono ?_; rintro ee w4 ⟨rfl, k4⟩)
        go_roundw
        case rel => exact ⟨k + 1, by omega, by go_num, hid ⟨τ', _, _, _, _, _, _, _, _, _, T3.out.keepN k4, k4.lies D3.out, R3.out.keepN k4, HOK.out, K3.out.trans k4⟩⟩
        case measure => simp only [intOf]; omega
    · obtain rfl : k = n := by omega
      obtain ⟨τ, p2, n2, c2, pL', nL', cL', pS', nS', cS', hT, hD, hR, hG, hK⟩ := hh.out
      have D0 := hid hD
      have T0 := hid hT
      have R0 := hid hR
      have HOK := hid hG
      have K0 := hid hK
      obtain ⟨y0, y1⟩ := two_cells hD
      clear hT hD hR hG hK hh
      rcases hc : τ.look qq with ⟨u', z'⟩
      have HC := hid hc
      clear hc
      have BM := K0.out.lies HM.out
      obtain ⟨x0, x1, x2, x3, x4, x5⟩ := six_of BM
      have BM := hid BM
      go_wp2_with fail
      refine (p_look' T0.out HOK.out qq HQQ.out HC.out).mono ?_; rintro ee w2 ⟨rfl, k2⟩
      clear x0 x1 x2 x3 x4 x5 y0 y1
      have BM2 := k2.lies BM.out
      obtain ⟨x0, x1, x2, x3, x4, x5⟩ := six_of BM2
      have BM2 := hid BM2
      have D2 := k2.lies D0.out
      obtain ⟨y0, y1⟩ := two_cells D2
      have R2 := hid (R0.out.keepN k2)
      have K2 := hid (K0.out.trans k2)
      clear k2 D2
      go_wp2_with fail
      refine (r_look' R2.out HOK.out qq HC.out).mono ?_; rintro ee w3 ⟨rfl, k3⟩
      have g0 : (u' == u') = true := by simp
      have g1 : (z' == z') = true := by simp
      go_wp2_with (go_at_call 6; refine (HW _).out.mono ?_; rintro ee w4 ⟨rfl, k4⟩)
      go_ret
      exact ⟨rfl, ((K1.out.trans K2.out).trans k3).trans k4⟩
end Go.Proofs.Ytdmjpgefoppfmaa
