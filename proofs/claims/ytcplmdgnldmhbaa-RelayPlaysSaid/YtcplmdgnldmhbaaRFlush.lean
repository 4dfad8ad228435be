/-
  Layer 8: the document's database: Has, Flush. Conditions: its rows lie so; the numbers are in range.
-/
import Derived.Test.YtcplmdgnldmhbaaRWithout
namespace Go.Proofs.Ytcplmdgnldmhbaa
open Go.RowKit
set_option linter.unusedVariables false

set_option maxHeartbeats 2000000 in
theorem has_nat (q port : Nat) (hq : q < 256) (hp : port < 8) (w : World) : Calls Try.prog 44 #[.int .u8 q, .int .u8 port] w fun e w' => e = .returned (.bool (decide (q / 2 ^ port % 2 = 1))) ∧ w = w' := by
  go_enter Try.func44, Try.ntmps44
  go_wp2
  go_loop [0, 5] (fun s0 s5 => ∃ k : Nat, k ≤ port ∧ s5 = .int .u8 k ∧ s0 = .int .u8 ((q / 2 ^ k : Nat) : Int)) (fun _ s5 => port - (intOf s5).toNat)
  case atStart => exact ⟨0, Nat.zero_le _, rfl, by simp⟩
  case round =>
    obtain ⟨k, hk, rfl, rfl⟩ := hrel
    have hb : q / 2 ^ k < 256 := Nat.lt_of_le_of_lt (Nat.div_le_self _ _) hq
    have hd : q / 2 ^ (k + 1) = q / 2 ^ k / 2 := by rw [Nat.pow_succ, Nat.div_div_eq_div_mul]
    obtain ⟨y, hy⟩ : ∃ y, q / 2 ^ k = y := ⟨_, rfl⟩
    rw [hy] at hb hd ⊢
    have HD := hid hd
    have HY := hid hy
    clear hd hy
    by_cases hlt : k < port
    · go_wp2
      go_round
      case rel => exact ⟨k + 1, by omega, by go_num, by rw [HD.out]; go_num⟩
      case measure => simp [intOf]; omega
    · obtain rfl : k = port := by omega
      go_wp2
      go_ret
      refine ⟨?_, rfl⟩
      rw [HY.out]
      show Ending.returned (.bool ((y : Int) % 2 == 1)) = _
      congr 2
      rw [Bool.eq_iff_iff]
      simp
      omega
theorem has_any (q port : Int) (hq : 0 ≤ q ∧ q < 256) (hp : 0 ≤ port ∧ port < 8) (w : World) : Calls Try.prog 44 #[.int .u8 q, .int .u8 port] w fun e w' => e = .returned (.bool (bits BinOp.and .u8 (q / 2 ^ port.toNat) 1 == 1)) ∧ w = w' := by
  obtain ⟨a, rfl⟩ := Int.eq_ofNat_of_zero_le hq.1
  obtain ⟨b, rfl⟩ := Int.eq_ofNat_of_zero_le hp.1
  have e1 : ((a : Int) / 2 ^ ((b : Int).toNat)) = ((a / 2 ^ b : Nat) : Int) := by simp
  have hya : a / 2 ^ b ≤ a := Nat.div_le_self _ _
  have := has_nat a b (by omega) (by omega) w
  generalize a / 2 ^ b = y at *
  rw [e1, and_one _ (by omega) (by omega)]
  have e2 : decide ((y : Int) % 2 = 1) = decide (y % 2 = 1) := by
    rw [Bool.eq_iff_iff]; simp only [decide_eq_true_eq]; omega
  rw [e2]
  exact this

set_option maxHeartbeats 8000000 in
theorem rflush_any (q : Int) (hq : 0 ≤ q ∧ q < 256) (B : Nat) (pL : Option Addr) (cL : Nat) (pS : Option Addr) (cS : Nat) (τ : Tb) (w : World) (h : RT w B pL cL pS cS τ) (hl : τ.L.length ≤ 900) (hin : ∀ x ∈ τ.L, InR x) :
    Calls Try.prog 24 #[rtab pL τ.L.length cL pS τ.S.length cS, .int .u8 q] w fun e w' => (∃ p n c, e = .returned (.tuple #[rtab p n c pS τ.S.length cS, .int .i64 ((τ.L.length : Int) - n)]) ∧ Acc w' w.heap.size p n c (τ.L.filter (fun x => (!(bits BinOp.and .u8 (q / 2 ^ x.port.toNat) 1 == 1))))) ∧ Keeps Nil w w' := by
  obtain ⟨hA, hC⟩ := two_allocs w (.cells #[.slice pL τ.L.length cL, .slice pS τ.S.length cS] 61 (0, 0)) (.cells #[.slice Option.none 0 0, .slice Option.none 0 0] 61 (0, 0))
  have kz : Keeps Nil w ((w.alloc (.cells #[.slice pL τ.L.length cL, .slice pS τ.S.length cS] 61 (0, 0))).alloc (.cells #[.slice Option.none 0 0, .slice Option.none 0 0] 61 (0, 0))) := ((Keeps.refl _ _).alloc _).alloc _
  have HA := hid hA
  have HCB := hid hC
  have KZ := hid kz
  have H := hid (h.1.keepN kz)
  have HIN := hid hin
  clear hA hC kz h hin
  go_enter Try.func24, Try.ntmps24
  go_upto_region 1 with (fail)
  generalize ((w.alloc (.cells #[.slice pL τ.L.length cL, .slice pS τ.S.length cS] 61 (0, 0))).alloc (.cells #[.slice Option.none 0 0, .slice Option.none 0 0] 61 (0, 0))) = W at *
  generalize hb4 : w.heap.size + 1 = b4 at *
  have HB4 := hid hb4
  clear hb4
  obtain ⟨n, hn⟩ : ∃ n, τ.L.length = n := ⟨_, rfl⟩
  rw [hn] at hl HA
  have HN := hid hn
  clear hn
  go_wp2_with fail
  go_loopw [6, 7] (fun s7 s8 wr => ∃ (k n' : Nat) (p' : Option Addr) (c' : Nat), k ≤ n ∧ n' ≤ k ∧ s8 = .int .i64 k ∧ s7 = .slice p' n' c' ∧ Keeps Nil W wr ∧ Hid (Acc wr W.heap.size p' n' c' ((τ.L.take k).filter (fun x => (!(bits BinOp.and .u8 (q / 2 ^ x.port.toNat) 1 == 1)))))) (fun _ s8 _ => n - (intOf s8).toNat)
  case atStart => exact ⟨0, 0, Option.none, 0, Nat.zero_le _, Nat.le_refl _, rfl, rfl, Keeps.refl _ _, hid (World.ownsRow_nil _ _ _ _)⟩
  case round =>
    obtain ⟨k, n', p', c', hk, hnk, rfl, rfl, kk, hacc⟩ := hrel
    have hA := (kk.block _ (lt_of_block HA.out) (fun e => e)).trans HA.out
    obtain ⟨a0, a1⟩ := two_cells hA
    clear hA
    by_cases hlt : k < n
    · obtain ⟨x, hx⟩ : ∃ x, τ.L[k]? = some x := ⟨_, List.getElem?_eq_getElem (by have := HN.out; omega)⟩
      obtain ⟨g, off, hp, _, hg, c0, c1, c2, c3, c4, c5, c6, c7, c8⟩ := (H.out.keepN kk).entry hx
      have HX := hid hx
      subst hp
      have hnc : n ≤ cL := by have := H.out.2.1; have := HN.out; omega
      have HH := hid (has_any q x.port hq (HIN.out x (List.mem_of_getElem? hx)) wr)
      have OWN := hid hacc.out
      have hNV : W.heap.size ≤ wr.heap.size := kk.size
      have HNV := hid hNV
      clear hx hNV
      cases hh : (bits BinOp.and .u8 (q / 2 ^ x.port.toNat) 1 == 1) with
      | true =>
        have HQ := hid hh
        rw [hh] at HH
        clear hh
        go_wp2_with (go_at_call 44; refine HH.out.mono ?_; rintro ee wz ⟨rfl, rfl⟩)
        go_roundw
        case rel =>
          refine ⟨k + 1, n', p', c', by omega, by omega, by go_num, rfl, kk, hid ?_⟩
          rw [take_keep HX.out, HQ.out]
          simp only [Bool.not_true, Bool.false_eq_true, if_false, List.append_nil]
          exact hacc.out
        case measure => simp only [intOf]; omega
      | false =>
        have HQ := hid hh
        rw [hh] at HH
        clear hh
        go_wp2_with (first | (go_at_call 44; refine HH.out.mono ?_; rintro ee wz ⟨rfl, rfl⟩) | (at_builtin; refine acc_step (o := ⟨some 31, _, _, _, _, _⟩) x OWN.out (by omega) HNV.out rfl _ _ rfl rfl rfl ?_; intro p2 c2 w2 own2 k2))
        go_roundw
        case rel =>
          refine ⟨k + 1, n' + 1, p2, c2, by omega, by omega, by go_num, rfl, k2 W (Nat.le_refl _) kk, hid ?_⟩
          rw [take_keep HX.out]
          simp only [HQ.out, Bool.not_false, if_true]
          exact own2
        case measure => simp only [intOf]; omega
    · obtain rfl : k = n := by omega
      have hC := (kk.block _ (lt_of_block HCB.out) (fun e => e)).trans HCB.out
      obtain ⟨z0, z1⟩ := two_cells hC
      obtain ⟨f0, f1⟩ := two_free hC
      have HC := hid hC
      have hb4 := lt_of_block HCB.out
      have hkz := kk.size
      have hne : b4 ≠ w.heap.size := by have := HB4.out; omega
      have hne' : w.heap.size ≠ b4 := hne.symm
      clear hC
      rw [List.take_of_length_le (Nat.le_of_eq HN.out)] at hacc
      go_wp2_with fail
      go_region
      go_wp2_with fail
      obtain ⟨w2, hw2, hF, hAcc, hK⟩ := acc_close (u := .slice p' n' c') (v := .slice pS τ.S.length cS) KZ.out kk hacc.out HC.out (by have := HB4.out; omega) (lt_of_block HCB.out)
      rw [hw2]
      obtain ⟨y0, y1⟩ := two_cells hF
      clear z0 z1 f0 f1
      rw [HN.out]
      refine bodyPost_ret (v := .tuple #[rtab p' n' c' pS τ.S.length cS, .int .i64 ((k : Int) - n')]) (by simp [results, Try.results24, go_sem, y0, y1]) rfl ?_
      exact ⟨⟨p', n', c', rfl, hAcc⟩, hK.drew⟩

theorem ten_age {w : World} {b : Nat} {T : TypeId} {x0 x1 x2 x3 x4 x5 x6 x7 x8 : Value} (h : w.heap[b]? = some (.cells #[x0, x1, x2, x3, x4, x5, x6, x7, x8] T (0, 0))) (v : Value) :
    (w.setCell ⟨b, 8, Option.none⟩ v).heap[b]? = some (.cells #[x0, x1, x2, x3, x4, x5, x6, x7, v] T (0, 0)) := setCell_block h 8 v
set_option maxHeartbeats 8000000 in
theorem rtick_any (B : Nat) (pL : Option Addr) (cL : Nat) (pS : Option Addr) (cS : Nat) (τ : Tb) (w : World) (h : RT w B pL cL pS cS τ) (hl : τ.L.length ≤ 900) (hin : ∀ x ∈ τ.L, 0 ≤ x.age ∧ x.age < 1000000) :
    Calls Try.prog 23 #[rtab pL τ.L.length cL pS τ.S.length cS] w fun e w' => (∃ p n c, e = .returned (rtab p n c pS τ.S.length cS) ∧ Acc w' w.heap.size p n c ((τ.L.map older).filter (fun x => decide (x.age < 40)))) ∧ Keeps Nil w w' := by
  obtain ⟨hA, hC⟩ := two_allocs w (.cells #[.slice pL τ.L.length cL, .slice pS τ.S.length cS] 61 (0, 0)) (.cells #[.slice Option.none 0 0, .slice Option.none 0 0] 61 (0, 0))
  have kz : Keeps Nil w ((w.alloc (.cells #[.slice pL τ.L.length cL, .slice pS τ.S.length cS] 61 (0, 0))).alloc (.cells #[.slice Option.none 0 0, .slice Option.none 0 0] 61 (0, 0))) := ((Keeps.refl _ _).alloc _).alloc _
  have HA := hid hA
  have HCB := hid hC
  have KZ := hid kz
  have H := hid (h.1.keepN kz)
  have HIN := hid hin
  clear hA hC kz h hin
  go_enter Try.func23, Try.ntmps23
  go_upto_region 1 with (fail)
  generalize ((w.alloc (.cells #[.slice pL τ.L.length cL, .slice pS τ.S.length cS] 61 (0, 0))).alloc (.cells #[.slice Option.none 0 0, .slice Option.none 0 0] 61 (0, 0))) = W at *
  generalize hb4 : w.heap.size + 1 = b4 at *
  have HB4 := hid hb4
  clear hb4
  obtain ⟨n, hn⟩ : ∃ n, τ.L.length = n := ⟨_, rfl⟩
  rw [hn] at hl HA
  have HN := hid hn
  clear hn
  go_wp2_with fail
  go_loopw [3, 4] (fun s7 s8 wr => ∃ (k n' : Nat) (p' : Option Addr) (c' : Nat), k ≤ n ∧ n' ≤ k ∧ s8 = .int .i64 k ∧ s7 = .slice p' n' c' ∧ Keeps Nil W wr ∧ Hid (Acc wr W.heap.size p' n' c' (((τ.L.map older).take k).filter (fun x => decide (x.age < 40))))) (fun _ s8 _ => n - (intOf s8).toNat)
  case atStart => exact ⟨0, 0, Option.none, 0, Nat.zero_le _, Nat.le_refl _, rfl, rfl, Keeps.refl _ _, hid (World.ownsRow_nil _ _ _ _)⟩
  case round =>
    obtain ⟨k, n', p', c', hk, hnk, rfl, rfl, kk, hacc⟩ := hrel
    have hA := (kk.block _ (lt_of_block HA.out) (fun e => e)).trans HA.out
    obtain ⟨a0, a1⟩ := two_cells hA
    clear hA
    by_cases hlt : k < n
    · obtain ⟨x, hx⟩ : ∃ x, τ.L[k]? = some x := ⟨_, List.getElem?_eq_getElem (by have := HN.out; omega)⟩
      obtain ⟨g, off, hp, _, hg, c0, c1, c2, c3, c4, c5, c6, c7, c8⟩ := (H.out.keepN kk).entry hx
      have hm : (τ.L.map older)[k]? = some (older x) := by rw [List.getElem?_map, hx]; rfl
      have HX := hid hm
      have hage := HIN.out x (List.mem_of_getElem? hx)
      have hw : IntKind.i64.wrap (x.age + 1) = x.age + 1 := by rw [IntKind.wrap_i64]; omega
      subst hp
      have hnc : n ≤ cL := by have := H.out.2.1; have := HN.out; omega
      clear hx hm
      have OWN := hid (hacc.out.keep ((Keeps.refl Nil wr).alloc (.cells #[.int .u16 x.p.v, .int .u8 x.p.a, .int .u8 x.p.b, .int .u8 x.p.c, .int .u8 x.p.d, .int .u8 x.p.e, .int .u8 x.p.f, .int .u8 x.port, .int .i64 (x.age + 1)] 109 (0, 0))))
      have hNV : W.heap.size ≤ (wr.alloc (.cells #[.int .u16 x.p.v, .int .u8 x.p.a, .int .u8 x.p.b, .int .u8 x.p.c, .int .u8 x.p.d, .int .u8 x.p.e, .int .u8 x.p.f, .int .u8 x.port, .int .i64 (x.age + 1)] 109 (0, 0))).heap.size := (kk.alloc _).size
      have HNV := hid hNV
      clear hNV
      by_cases ho : x.age + 1 < 40
      · have HQ := hid (show decide ((older x).age < 40) = true from decide_eq_true ho)
        go_upto_region 8 with (fail)
        have ha := alloc_block wr (.cells #[.int .u16 x.p.v, .int .u8 x.p.a, .int .u8 x.p.b, .int .u8 x.p.c, .int .u8 x.p.d, .int .u8 x.p.e, .int .u8 x.p.f, .int .u8 x.port, .int .i64 (x.age + 1)] 109 (0, 0))
        have kv : Keeps Nil W (wr.alloc (.cells #[.int .u16 x.p.v, .int .u8 x.p.a, .int .u8 x.p.b, .int .u8 x.p.c, .int .u8 x.p.d, .int .u8 x.p.e, .int .u8 x.p.f, .int .u8 x.port, .int .i64 (x.age + 1)] 109 (0, 0))) := kk.alloc _
        have KV := hid kv
        generalize (wr.alloc (.cells #[.int .u16 x.p.v, .int .u8 x.p.a, .int .u8 x.p.b, .int .u8 x.p.c, .int .u8 x.p.d, .int .u8 x.p.e, .int .u8 x.p.f, .int .u8 x.port, .int .i64 (x.age + 1)] 109 (0, 0))) = V at *
        generalize wr.heap.size = b5 at *
        obtain ⟨d0, d1, d2, d3, d4, d5, d6, d7, d8⟩ := nine_of ha
        clear ha kv c0 c1 c2 c3 c4 c5 c6 c7 c8 a0 a1
        go_wp2_with (at_builtin; refine acc_step (o := ⟨some 28, _, _, _, _, _⟩) (older x) OWN.out (by omega) HNV.out rfl _ _ rfl rfl rfl ?_; intro p2 c2 w2 own2 k2)
        go_roundw
        case rel =>
          refine ⟨k + 1, n' + 1, p2, c2, by omega, by omega, by go_num, rfl, k2 W (Nat.le_refl _) KV.out, hid ?_⟩
          rw [take_keep HX.out]
          simp only [HQ.out, if_true]
          exact own2
        case measure => simp only [intOf]; omega
      · have HQ := hid (show decide ((older x).age < 40) = false from decide_eq_false ho)
        go_wp2_with fail
        go_roundw
        case rel =>
          refine ⟨k + 1, n', p', c', by omega, by omega, by go_num, rfl, kk.alloc _, hid ?_⟩
          rw [take_keep HX.out, HQ.out]
          simp only [Bool.false_eq_true, if_false, List.append_nil]
          exact OWN.out
        case measure => simp only [intOf]; omega
    · obtain rfl : k = n := by omega
      have hC := (kk.block _ (lt_of_block HCB.out) (fun e => e)).trans HCB.out
      obtain ⟨z0, z1⟩ := two_cells hC
      obtain ⟨f0, f1⟩ := two_free hC
      have HC := hid hC
      have hkz := kk.size
      have hne : b4 ≠ w.heap.size := by have := HB4.out; omega
      have hne' : w.heap.size ≠ b4 := hne.symm
      clear hC
      rw [List.take_of_length_le (by rw [List.length_map]; exact Nat.le_of_eq HN.out)] at hacc
      go_wp2_with fail
      obtain ⟨w2, hw2, hF, hAcc, hK⟩ := acc_close (u := .slice p' n' c') (v := .slice pS τ.S.length cS) KZ.out kk hacc.out HC.out (by have := HB4.out; omega) (lt_of_block HCB.out)
      rw [hw2]
      obtain ⟨y0, y1⟩ := two_cells hF
      clear z0 z1 f0 f1
      refine bodyPost_ret (v := rtab p' n' c' pS τ.S.length cS) (by simp [results, Try.results23, go_sem, y0, y1]) rfl ?_
      exact ⟨⟨p', n', c', rfl, hAcc⟩, hK⟩
end Go.Proofs.Ytcplmdgnldmhbaa
