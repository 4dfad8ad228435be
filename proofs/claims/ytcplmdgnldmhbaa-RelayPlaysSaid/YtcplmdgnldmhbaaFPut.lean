/-
  Layers 1 and 3: bytes put behind others, by the program and by the document; a row of bytes as a string. Conditions: rows of at most 3,000 bytes.
-/
import Derived.Test.YtcplmdgnldmhbaaFMay
import Derived.Test.YtcplmdgnldmhbaaRNil
import Derived.Test.YtcplmdgnldmhbaaRLearn2
import Derived.Laws.BytesArg
namespace Go.Proofs.Ytcplmdgnldmhbaa
open Go.RowKit
set_option linter.unusedVariables false
set_option linter.unusedSimpArgs false
set_option maxRecDepth 8000

/-- A row of bytes of the call's own, whatever they are. -/
def BRow (w : World) (B : Nat) (p : Option Addr) (n c : Nat) : Prop := ∃ ns : List Int, w.ownsRow B 5 1 (.slice p n c) n (ns.map (Value.int .u8))
theorem binfo : (Try.prog.info? 5).map (fun i => (i.zero, i.size, i.bytes)) = some (some (.int .u8 0), 1, 1) := by kernel_rfl
theorem BRow.keepN {w w' : World} {B n c : Nat} {p : Option Addr} (h : BRow w B p n c) (k : Keeps Nil w w') : BRow w' B p n c := by
  obtain ⟨ns, h⟩ := h
  exact ⟨ns, ownsRow_keep h k (fun _ _ e => e)⟩
/-- The row's bytes as a string. -/
theorem BRow.str {w : World} {B n c : Nat} {p : Option Addr} (h : BRow w B p n c) : ∃ s : ByteArray, s.size = n ∧ (convert 120 9 (.slice p n c)).run Try.prog w = .ok (.string s) w := by
  obtain ⟨ns, h⟩ := h
  rcases ownsRow_read h with ⟨hv, rfl, hn⟩ | ⟨g, cap, hv, _, _, _, hl, hc⟩
  · injection hv with h1 h2 h3
    subst h1
    exact ⟨ByteArray.empty, rfl, run_convert_bytes_nil w 120 5 Try.underlying120 Try.underlying5 _ _ 9 Try.underlying9⟩
  · injection hv with h1 h2 h3
    subst h1
    refine ⟨strOfNums ns, by rw [strOfNums_size]; simpa using hl, run_convert_bytes_arg w 120 5 Try.underlying120 Try.underlying5 g 0 n c ns (by simpa using hl) (fun i hi => ?_) 9 Try.underlying9⟩
    have hi' : i < ns.length := by have : ns.length = n := by simpa using hl
                                   omega
    have := hc i (.int .u8 ns[i]) (by rw [List.getElem?_map, List.getElem?_eq_getElem hi']; rfl)
    rw [Nat.zero_add, this, List.getD_eq_getElem?_getD, List.getElem?_eq_getElem hi']
    rfl
theorem accb_step {ops : Array Oper} {rest : List Oper} {o : Oper} {a : Act} {Q : Exit → Act → World → Prop} {V : World} {N : Nat} {p : Option Addr} {n c : Nat} {k : Int} (h : BRow V N p n c) (hn : n ≤ 3000) (hN : N ≤ V.heap.size) (hgd : o.guard = Option.none) (s y : Operand)
    (ho : o.op = .call { callee := .builtin .append, args := #[s, y], argTypes := #[120, 120] }) (hs : a.eval s = .slice p n c) (hy : a.eval y = .slice (some ⟨V.heap.size, 0, Option.none⟩) 1 1)
    (hk : ∀ p' c' w1, BRow w1 N p' (n + 1) c' → (∀ W0 : World, W0.heap.size ≤ N → Keeps Nil W0 V → Keeps Nil W0 w1) → V.heap.size ≤ w1.heap.size → wpList Try.prog ops Q rest (a.put o.dst (.slice p' (n + 1) c')) w1) :
    wpList Try.prog ops Q (o :: rest) a (V.alloc (.cells #[.int .u8 k] 5 (0, 0))) := by
  obtain ⟨i0, hi, hz0, hz1, hz2⟩ := info_parts binfo
  obtain ⟨ns, h⟩ := h
  refine wpList_append_wv _ hgd s y 120 ho N 5 i0 (.int .u8 0) 1 1 Try.underlying120 hi hz0 hz1 hz2 rfl (by decide) (.slice p n c) n (ns.map (Value.int .u8)) hs (ownsRow_keep h ((Keeps.refl Nil V).alloc _) (fun _ _ e => e)) 0 _ 1 1 [.int .u8 k] hy (WV.new V #[.int .u8 k] 5 1 rfl) (by simp [Value.oneCell']) (by unfold maxLen; omega) (by omega) (by simp; omega) ?_
  intro v1 w1 own1 hg1 hat1
  have own1 : w1.ownsRow N 5 1 v1 (n + 1) ((ns ++ [k]).map (Value.int .u8)) := by rw [List.map_append]; exact own1
  obtain ⟨p', c', hv⟩ := own_shape own1
  subst hv
  exact hk p' c' w1 ⟨_, own1⟩ (fun W0 h0 k0 => (k0.alloc _).grown hg1 (fun g hg hlt => by have := own_ge h hg; omega)) (Nat.le_trans (by simp) hg1.size)
/-- A row that grew: what lay below is kept. -/
def Grew (N : Nat) (w w' : World) : Prop := ∀ W0 : World, W0.heap.size ≤ N → Keeps Nil W0 w → Keeps Nil W0 w'
def WPut (N n : Nat) (w : World) (e : Ending) (w' : World) : Prop := ∃ p' c', e = .returned (.slice p' (n + 2) c') ∧ BRow w' N p' (n + 2) c' ∧ Grew N w w' ∧ N ≤ w'.heap.size

set_option maxHeartbeats 4000000 in
theorem wput_any {N : Nat} {p : Option Addr} {n c : Nat} (w : World) (h : BRow w N p n c) (hN : N ≤ w.heap.size) (hn : n ≤ 2000) (v : Int) :
    Calls Try.prog 65 #[.slice p n c, .int .u16 v] w (WPut N n w) := by
  have H := hid h
  have HNN := hid hN
  clear h hN
  go_enter Try.func65, Try.ntmps65
  go_wp2_with (go_at_call 67; refine (width_any _).mono ?_; rintro e w' ⟨rfl, rfl⟩)
  go_loopw [0, 6, 9] (fun s0 s6 s9 wr => ∃ (k : Nat) (p' : Option Addr) (c' : Nat) , k ≤ 2 ∧ s9 = .int .i64 k ∧ s0 = .slice p' (n + k) c' ∧ Hid (BRow wr N p' (n + k) c') ∧ Hid (Grew N w wr) ∧ N ≤ wr.heap.size) (fun _ _ s9 _ => 2 - (intOf s9).toNat)
  case atStart => exact ⟨0, p, c, by omega, rfl, rfl, hid H.out, hid (fun _ _ k => k), HNN.out⟩
  case round =>
    obtain ⟨k, p', c', hk, rfl, rfl, HB, HG, hNr⟩ := hrel
    rcases (show k = 0 ∨ k = 1 ∨ k = 2 by omega) with rfl | rfl | rfl
    · have HNR := hid hNr
      clear hNr
      go_wp2_with (at_builtin; refine accb_step (o := ⟨some 23, _, _, _, _, _⟩) HB.out (by omega) HNR.out rfl _ _ rfl rfl rfl ?_; intro p2 c2 w2 own2 k2 z2)
      go_roundw
      case rel => exact ⟨1, p2, c2, by omega, by first | rfl | go_num, by first | rfl | simp, hid own2, hid (fun W0 h0 k0 => k2 W0 h0 (HG.out W0 h0 k0)), Nat.le_trans HNR.out z2⟩
      case measure => simp only [intOf]; omega
    · have HNR := hid hNr
      clear hNr
      go_wp2_with (at_builtin; refine accb_step (o := ⟨some 23, _, _, _, _, _⟩) HB.out (by omega) HNR.out rfl _ _ rfl rfl rfl ?_; intro p2 c2 w2 own2 k2 z2)
      go_roundw
      case rel => exact ⟨2, p2, c2, by omega, by first | rfl | go_num, by first | rfl | simp, hid own2, hid (fun W0 h0 k0 => k2 W0 h0 (HG.out W0 h0 k0)), Nat.le_trans HNR.out z2⟩
      case measure => simp only [intOf]; omega
    · have HNR := hid hNr
      clear hNr
      go_wp2_with fail
      go_ret
      exact ⟨p', c', rfl, HB.out, HG.out, HNR.out⟩

/-- The error of a frame that is put. -/
def putE (x : Frm) : Int := if mayB x then (if 1522 < lenF x then 5 else 0) else 2
def Puts (x : Frm) (w : World) (e : Ending) (w' : World) : Prop := ∃ s, e = .returned (.tuple #[.string s, .int .i64 (putE x)]) ∧ Keeps Nil w w'
theorem wv_dst {w : World} {b : Nat} {x : Frm} (h : w.heap[b]? = some (.cells #[Value.int IntKind.u8 x.dst.a, Value.int IntKind.u8 x.dst.b, Value.int IntKind.u8 x.dst.c, Value.int IntKind.u8 x.dst.d, Value.int IntKind.u8 x.dst.e, Value.int IntKind.u8 x.dst.f, Value.int IntKind.u8 x.src.a, Value.int IntKind.u8 x.src.b, Value.int IntKind.u8 x.src.c, Value.int IntKind.u8 x.src.d, Value.int IntKind.u8 x.src.e, Value.int IntKind.u8 x.src.f, Value.bool x.tag, Value.int IntKind.u8 x.pri, Value.int IntKind.u16 x.fvid, Value.int IntKind.u16 x.ty, Value.string x.data] 33 (0, 0))) : WV w 0 1 (some ⟨b, 0, Option.none⟩) 6 6 (x.cells.take 6) :=
  ⟨rfl, by decide, fun _ => ⟨b, 0, rfl, Nat.zero_le _, lt_of_block h, fun j u hu => range_block h (x.cells.take 6) 0 (fun j v hv => by
    rw [List.getElem?_take] at hv
    split at hv
    · simpa using hv
    · cases hv) j u hu⟩⟩
theorem wv_src {w : World} {b : Nat} {x : Frm} (h : w.heap[b]? = some (.cells #[Value.int IntKind.u8 x.dst.a, Value.int IntKind.u8 x.dst.b, Value.int IntKind.u8 x.dst.c, Value.int IntKind.u8 x.dst.d, Value.int IntKind.u8 x.dst.e, Value.int IntKind.u8 x.dst.f, Value.int IntKind.u8 x.src.a, Value.int IntKind.u8 x.src.b, Value.int IntKind.u8 x.src.c, Value.int IntKind.u8 x.src.d, Value.int IntKind.u8 x.src.e, Value.int IntKind.u8 x.src.f, Value.bool x.tag, Value.int IntKind.u8 x.pri, Value.int IntKind.u16 x.fvid, Value.int IntKind.u16 x.ty, Value.string x.data] 33 (0, 0))) : WV w 0 1 (some ⟨b, 6, Option.none⟩) 6 6 ((x.cells.drop 6).take 6) :=
  ⟨rfl, by decide, fun _ => ⟨b, 6, rfl, Nat.zero_le _, lt_of_block h, fun j u hu => range_block h ((x.cells.drop 6).take 6) 6 (fun j v hv => by
    rw [List.getElem?_take] at hv
    split at hv
    · rw [List.getElem?_drop] at hv
      simpa using hv
    · cases hv) j u hu⟩⟩
set_option maxHeartbeats 8000000 in
theorem put_any (x : Frm) (hd : x.data.size ≤ 2000) (hp : 0 ≤ x.pri ∧ x.pri < 256) (hv : 0 ≤ x.fvid ∧ x.fvid < 65536) (ht : 0 ≤ x.ty ∧ x.ty < 65536) (w : World) : Calls Try.prog 60 #[x.val] w (Puts x w) := by
  have kz : Keeps Nil w (w.alloc (.cells #[Value.int IntKind.u8 x.dst.a, Value.int IntKind.u8 x.dst.b, Value.int IntKind.u8 x.dst.c, Value.int IntKind.u8 x.dst.d, Value.int IntKind.u8 x.dst.e, Value.int IntKind.u8 x.dst.f, Value.int IntKind.u8 x.src.a, Value.int IntKind.u8 x.src.b, Value.int IntKind.u8 x.src.c, Value.int IntKind.u8 x.src.d, Value.int IntKind.u8 x.src.e, Value.int IntKind.u8 x.src.f, Value.bool x.tag, Value.int IntKind.u8 x.pri, Value.int IntKind.u16 x.fvid, Value.int IntKind.u16 x.ty, Value.string x.data] 33 (0, 0))) := (Keeps.refl _ _).alloc _
  have hb := alloc_block w (.cells #[Value.int IntKind.u8 x.dst.a, Value.int IntKind.u8 x.dst.b, Value.int IntKind.u8 x.dst.c, Value.int IntKind.u8 x.dst.d, Value.int IntKind.u8 x.dst.e, Value.int IntKind.u8 x.dst.f, Value.int IntKind.u8 x.src.a, Value.int IntKind.u8 x.src.b, Value.int IntKind.u8 x.src.c, Value.int IntKind.u8 x.src.d, Value.int IntKind.u8 x.src.e, Value.int IntKind.u8 x.src.f, Value.bool x.tag, Value.int IntKind.u8 x.pri, Value.int IntKind.u16 x.fvid, Value.int IntKind.u16 x.ty, Value.string x.data] 33 (0, 0))
  go_enter Try.func60, Try.ntmps60
  go_upto_region 1 with (fail)
  generalize (w.alloc (.cells #[Value.int IntKind.u8 x.dst.a, Value.int IntKind.u8 x.dst.b, Value.int IntKind.u8 x.dst.c, Value.int IntKind.u8 x.dst.d, Value.int IntKind.u8 x.dst.e, Value.int IntKind.u8 x.dst.f, Value.int IntKind.u8 x.src.a, Value.int IntKind.u8 x.src.b, Value.int IntKind.u8 x.src.c, Value.int IntKind.u8 x.src.d, Value.int IntKind.u8 x.src.e, Value.int IntKind.u8 x.src.f, Value.bool x.tag, Value.int IntKind.u8 x.pri, Value.int IntKind.u16 x.fvid, Value.int IntKind.u16 x.ty, Value.string x.data] 33 (0, 0))) = wz at *
  generalize w.heap.size = bF at *
  have FB := hid hb
  have K1 := hid kz
  clear hb kz
  cases hm : mayB x with
  | false =>
    have HE := hid (show putE x = 2 by simp [putE, hm])
    have HM := hid hm
    clear hm
    go_wp2_with (first | (refine wpList_load_mid rfl 33 _ rfl bF 0 rfl x.cells _ (range_frame FB.out) Try.underlying33 rfl (by kernel_rfl) ?_) | (go_at_call 63; refine (may_put x _).mono ?_; rw [HM.out]; rintro ee w2 ⟨rfl, k2⟩))
    go_ret2
    exact ⟨_, by rw [HE.out]; rfl, K1.out.trans k2⟩
  | true =>
    have HM := hid hm
    clear hm
    go_wp2_with ((refine wpList_load_mid rfl 33 _ rfl bF 0 rfl x.cells _ (range_frame FB.out) Try.underlying33 rfl (by kernel_rfl) ?_))
    refine (may_put x _).mono ?_
    rw [HM.out]
    rintro ee w2 ⟨rfl, k2⟩
    have F2 := hid (k2.lies FB.out)
    have K2 := hid (K1.out.trans k2)
    clear k2 FB K1
    by_cases hl : 1522 < lenF x
    · have HE := hid (show putE x = 5 by simp [putE, HM.out, hl])
      go_wp2_with (first | (refine wpList_load_mid rfl 33 _ rfl bF 0 rfl x.cells _ (range_frame F2.out) Try.underlying33 rfl (by kernel_rfl) ?_) | (go_at_call 64; refine (len_put x hd _).mono ?_; rintro ee w3 ⟨rfl, k3⟩))
      go_ret2
      exact ⟨_, by rw [HE.out]; rfl, K2.out.trans k3⟩
    · have HE := hid (show putE x = 0 by simp [putE, HM.out, hl])
      go_wp2_with ((refine wpList_load_mid rfl 33 _ rfl bF 0 rfl x.cells _ (range_frame F2.out) Try.underlying33 rfl (by kernel_rfl) ?_))
      refine (len_put x hd _).mono ?_
      rintro ee w3 ⟨rfl, k3⟩
      have F3 := hid (k3.lies F2.out)
      have K3 := hid (K2.out.trans k3)
      clear k3 F2 K2
      go_wp2_with fail
      have HN := hid (Nat.le_refl w3.heap.size)
      obtain ⟨i0, hi0, hz0, hz1, hz2⟩ := info_parts binfo
      have HIN := hid (And.intro hi0 (And.intro hz0 (And.intro hz1 hz2)))
      clear hi0 hz0 hz1 hz2
      refine wp_region_held_drew (S := (fun _ : World => True)) (by kernel_rfl) ?_ (fun hHeld => ?_)
      · trivial
      refine wpAnyH_take (i := 0) (v := ?_) rfl (by kernel_rfl) (by kernel_rfl) (by kernel_rfl) (fun _ _ _ h => h) (Or.inl ⟨by rfl, ?_⟩) (by assumption) ?_
      rotate_left
      · (intro W hSw; (try dsimp only at hSw); go_simp <;> with_reducible rfl)
      try simp only [Act.put, List.setIfInBounds_toArray, List.set_cons_zero, List.set_cons_succ, List.getElem_toArray, List.getElem_cons_zero, List.getElem_cons_succ]
      refine wpAnyH_take (i := 1) (v := ?_) rfl (by kernel_rfl) (by kernel_rfl) (by kernel_rfl) (fun _ _ _ h => h) (Or.inl ⟨by rfl, ?_⟩) (by assumption) ?_
      rotate_left
      · (intro W hSw; (try dsimp only at hSw); go_simp <;> with_reducible rfl)
      try simp only [Act.put, List.setIfInBounds_toArray, List.set_cons_zero, List.set_cons_succ, List.getElem_toArray, List.getElem_cons_zero, List.getElem_cons_succ]
      refine wpAnyH_take (i := 3) (v := ?_) rfl (by kernel_rfl) (by kernel_rfl) (by kernel_rfl) (fun _ _ _ h => h) (Or.inl ⟨by rfl, ?_⟩) (by assumption) ?_
      rotate_left
      · (intro W hSw; (try dsimp only at hSw); go_simp <;> with_reducible rfl)
      try simp only [Act.put, List.setIfInBounds_toArray, List.set_cons_zero, List.set_cons_succ, List.getElem_toArray, List.getElem_cons_zero, List.getElem_cons_succ]
      refine wpAnyH_take (i := 4) (v := ?_) rfl (by kernel_rfl) (by kernel_rfl) (by kernel_rfl) (fun _ _ _ h => h) (Or.inl ⟨by rfl, ?_⟩) (by assumption) ?_
      rotate_left
      · (intro W hSw; (try dsimp only at hSw); go_simp <;> with_reducible rfl)
      try simp only [Act.put, List.setIfInBounds_toArray, List.set_cons_zero, List.set_cons_succ, List.getElem_toArray, List.getElem_cons_zero, List.getElem_cons_succ]
      refine wpAnyH_ready (rs := [2]) (by kernel_rfl) (by simp) ?_
      refine AllReadyH.cons rfl (fun K hK => ?_) AllReadyH.nil
      refine step_append_wv (o := ⟨some 15, _, _, _, _, _⟩) _ (by rfl) _ _ 120 (by rfl) w3.heap.size 5 i0 (.int .u8 0) 1 1 Try.underlying120 HIN.out.1 HIN.out.2.1 HIN.out.2.2.1 HIN.out.2.2.2 rfl (by decide) (.slice Option.none 0 0) 0 [] (by rfl) (World.ownsRow_nil _ _ _ _) 0 (some ⟨bF, 0, Option.none⟩) 6 6 (x.cells.take 6) (by rfl) (wv_dst ((Keeps.refl Nil w3).drew.lies F3.out)) (by simp [Value.oneCell']) (by unfold maxLen; omega) (by omega) (HN.out) ?_
      intro v1 w5 own1 hg1 hat1
      refine hK.out _ _ ?_ (fun hHeld => ?_)
      · trivial
      clear hK K
      try simp only [Act.put, List.setIfInBounds_toArray, List.set_cons_zero, List.set_cons_succ, List.getElem_toArray, List.getElem_cons_zero, List.getElem_cons_succ]

      refine wpAnyH_ready (rs := [5]) (by kernel_rfl) (by simp) ?_
      refine AllReadyH.cons rfl (fun K hK => ?_) AllReadyH.nil
      refine step_append_wv (o := ⟨some 18, _, _, _, _, _⟩) _ (by rfl) _ _ 120 (by rfl) w3.heap.size 5 i0 (.int .u8 0) 1 1 Try.underlying120 HIN.out.1 HIN.out.2.1 HIN.out.2.2.1 HIN.out.2.2.2 rfl (by decide) v1 6 (x.cells.take 6) (by rfl) own1 0 (some ⟨bF, 6, Option.none⟩) 6 6 ((x.cells.drop 6).take 6) (by rfl) (wv_src (((Keeps.refl Nil w3).drew.trans (grown_nil hg1)).lies F3.out)) (by simp [Value.oneCell']) (by unfold maxLen; omega) (by omega) (((Keeps.refl Nil w3).drew.trans (grown_nil hg1)).size) ?_
      intro v2 w6 own2 hg2 hat2
      refine hK.out _ _ ?_ (fun hHeld => ?_)
      · trivial
      clear hK K
      try simp only [Act.put, List.setIfInBounds_toArray, List.set_cons_zero, List.set_cons_succ, List.getElem_toArray, List.getElem_cons_zero, List.getElem_cons_succ]

      refine wpAnyH_take (i := 6) (v := ?_) rfl (by kernel_rfl) (by kernel_rfl) (by kernel_rfl) (fun _ _ _ h => h) (Or.inl ⟨by rfl, ?_⟩) (by assumption) ?_
      rotate_left
      · (intro W hSw; (try dsimp only at hSw); go_simp <;> with_reducible rfl)
      try simp only [Act.put, List.setIfInBounds_toArray, List.set_cons_zero, List.set_cons_succ, List.getElem_toArray, List.getElem_cons_zero, List.getElem_cons_succ]

      refine wpAnyH_done (by kernel_rfl) ?_ _
      obtain ⟨p2, c2, hv2⟩ := own_shape own2
      subst hv2
      have B6 := hid (show BRow w6 w3.heap.size p2 12 c2 from ⟨[x.dst.a, x.dst.b, x.dst.c, x.dst.d, x.dst.e, x.dst.f, x.src.a, x.src.b, x.src.c, x.src.d, x.src.e, x.src.f], own2⟩)
      have k6 : Keeps Nil w3 w6 := grown_own own1 hg2 (Nat.le_refl _) ((Keeps.refl Nil w3).drew.trans (grown_nil hg1))
      have F6 := hid (k6.lies F3.out)
      have K6 := hid k6
      clear k6 own1 own2 hg1 hg2 hat1 hat2 hHeld
      obtain ⟨f12, f13, f14, f15, f16⟩ := five_frame F6.out
      have hN6 := K6.out.size
      cases htg : x.tag with
      | true =>
        rw [htg] at f12
        go_wp2_with fail
        refine (wput_any w6 B6.out hN6 (by omega) 33024).mono ?_
        rintro ee w7 ⟨p3, c3, rfl, hb7, hg7, hz7⟩
        have B7 := hid hb7
        have K7 := hid (hg7 w3 (Nat.le_refl _) K6.out)
        have F7 := hid (K7.out.lies F3.out)
        clear hb7 hg7 f12 f13 f14 f15 f16
        obtain ⟨f12, f13, f14, f15, f16⟩ := five_frame F7.out
        go_wp2_with fail
        refine (wput_any w7 B7.out hz7 (by omega) _).mono ?_
        rintro ee w8 ⟨p4, c4, rfl, hb8, hg8, hz8⟩
        have B8 := hid hb8
        have K8 := hid (hg8 w3 (Nat.le_refl _) K7.out)
        have F8 := hid (K8.out.lies F3.out)
        clear hb8 hg8 f12 f13 f14 f15 f16
        have kk : Keeps Nil w3 w8 := K8.out
        have HS9 := hid (show ∀ X, Keeps Nil w3 X → (fun X : World => X.cell? ⟨bF, 15, Option.none⟩ = some (.int .u16 x.ty) ∧ X.cell? ⟨bF, 16, Option.none⟩ = some (.string x.data)) X from fun X kX => ⟨(five_frame (kX.lies F3.out)).2.2.2.1, (five_frame (kX.lies F3.out)).2.2.2.2⟩)
        have hzd : w3.heap.size ≤ w8.drew.heap.size := hz8
        go_wp2_with fail
        refine wp_region_held_drew (S := (fun X : World => X.cell? ⟨bF, 15, Option.none⟩ = some (.int .u16 x.ty) ∧ X.cell? ⟨bF, 16, Option.none⟩ = some (.string x.data))) (by kernel_rfl) ?_ (fun hHeld => ?_)
        · (try dsimp only); (first | exact HS9.out _ kk | exact HS9.out _ kk.drew | exact HS9.out _ kk.drew.drew)
        refine wpAnyH_take (i := 0) (v := ?_) rfl (by kernel_rfl) (by kernel_rfl) (by kernel_rfl) (fun _ _ _ h => h) (Or.inl ⟨by rfl, ?_⟩) (by assumption) ?_
        rotate_left
        · (intro W hSw; (try dsimp only at hSw); go_simp <;> with_reducible rfl)
        try simp only [Act.put, List.setIfInBounds_toArray, List.set_cons_zero, List.set_cons_succ, List.getElem_toArray, List.getElem_cons_zero, List.getElem_cons_succ]
        refine wpAnyH_take (i := 1) (v := ?_) rfl (by kernel_rfl) (by kernel_rfl) (by kernel_rfl) (fun _ _ _ h => h) (Or.inl ⟨by rfl, ?_⟩) (by assumption) ?_
        rotate_left
        · (intro W hSw; (try dsimp only at hSw); go_simp <;> with_reducible rfl)
        try simp only [Act.put, List.setIfInBounds_toArray, List.set_cons_zero, List.set_cons_succ, List.getElem_toArray, List.getElem_cons_zero, List.getElem_cons_succ]
        refine wpAnyH_take (i := 2) (v := ?_) rfl (by kernel_rfl) (by kernel_rfl) (by kernel_rfl) (fun _ _ _ h => h) (Or.inl ⟨by rfl, ?_⟩) (by assumption) ?_
        rotate_left
        · (intro W hSw; (try dsimp only at hSw); go_simp <;> with_reducible rfl)
        try simp only [Act.put, List.setIfInBounds_toArray, List.set_cons_zero, List.set_cons_succ, List.getElem_toArray, List.getElem_cons_zero, List.getElem_cons_succ]
        refine wpAnyH_take (i := 5) (v := ?_) rfl (by kernel_rfl) (by kernel_rfl) (by kernel_rfl) (fun _ _ _ h => h) (Or.inl ⟨by rfl, ?_⟩) (by assumption) ?_
        rotate_left
        · (intro W hSw; (try dsimp only at hSw); go_simp <;> with_reducible rfl)
        try simp only [Act.put, List.setIfInBounds_toArray, List.set_cons_zero, List.set_cons_succ, List.getElem_toArray, List.getElem_cons_zero, List.getElem_cons_succ]
        refine wpAnyH_take (i := 6) (v := ?_) rfl (by kernel_rfl) (by kernel_rfl) (by kernel_rfl) (fun _ _ _ h => h) (Or.inl ⟨by rfl, ?_⟩) (by assumption) ?_
        rotate_left
        · (intro W hSw; (try dsimp only at hSw); go_simp <;> with_reducible rfl)
        try simp only [Act.put, List.setIfInBounds_toArray, List.set_cons_zero, List.set_cons_succ, List.getElem_toArray, List.getElem_cons_zero, List.getElem_cons_succ]
        refine wpAnyH_ready (rs := [3]) (by kernel_rfl) (by simp) ?_
        refine AllReadyH.cons rfl (fun K hK => ?_) AllReadyH.nil
        try simp only [Act.put, List.setIfInBounds_toArray, List.set_cons_zero, List.set_cons_succ, List.getElem_toArray, List.getElem_cons_zero, List.getElem_cons_succ]
        go_simp
        (refine (wput_any _ (B8.out.keepN (Keeps.drewN w8 1)) hzd (by omega) _).mono ?_; rintro ee w9 ⟨p9, c9, rfl, hb9, hg9, hz9⟩; have K9 := hid (hg9 w3 (Nat.le_refl _) kk.drew); obtain ⟨s9, hs9, hconv⟩ := hb9.str; have kk : Keeps Nil w3 w9 := K9.out; have hcat : ¬ (9223372036854775807 < s9.size + x.data.size) := (by omega); clear hb9 hs9 hg9)
        (try go_wp2_with fail)
        refine hK.out _ _ ?_ (fun hHeld => ?_)
        · (try dsimp only); (first | exact HS9.out _ kk | exact HS9.out _ kk.drew | exact HS9.out _ kk.drew.drew)
        clear hK K
        try simp only [Act.put, List.setIfInBounds_toArray, List.set_cons_zero, List.set_cons_succ, List.getElem_toArray, List.getElem_cons_zero, List.getElem_cons_succ]
        refine wpAnyH_ready (rs := [4]) (by kernel_rfl) (by simp) ?_
        refine AllReadyH.cons rfl (fun K hK => ?_) AllReadyH.nil
        try simp only [Act.put, List.setIfInBounds_toArray, List.set_cons_zero, List.set_cons_succ, List.getElem_toArray, List.getElem_cons_zero, List.getElem_cons_succ]
        go_simp
        refine hK.out _ _ ?_ (fun hHeld => ?_)
        · (try dsimp only); (first | exact HS9.out _ kk | exact HS9.out _ kk.drew | exact HS9.out _ kk.drew.drew)
        clear hK K
        try simp only [Act.put, List.setIfInBounds_toArray, List.set_cons_zero, List.set_cons_succ, List.getElem_toArray, List.getElem_cons_zero, List.getElem_cons_succ]
        refine wpAnyH_take (i := 7) (v := ?_) rfl (by kernel_rfl) (by kernel_rfl) (by kernel_rfl) (fun _ _ _ h => h) (Or.inl ⟨by rfl, ?_⟩) (by assumption) ?_
        rotate_left
        · (intro W hSw; (try dsimp only at hSw); go_simp <;> with_reducible rfl)
        try simp only [Act.put, List.setIfInBounds_toArray, List.set_cons_zero, List.set_cons_succ, List.getElem_toArray, List.getElem_cons_zero, List.getElem_cons_succ]
        refine wpAnyH_take (i := 8) (v := ?_) rfl (by kernel_rfl) (by kernel_rfl) (by kernel_rfl) (fun _ _ _ h => h) (Or.inl ⟨by rfl, ?_⟩) (by assumption) ?_
        rotate_left
        · (intro W hSw; (try dsimp only at hSw); go_simp <;> with_reducible rfl)
        try simp only [Act.put, List.setIfInBounds_toArray, List.set_cons_zero, List.set_cons_succ, List.getElem_toArray, List.getElem_cons_zero, List.getElem_cons_succ]
        refine wpAnyH_take (i := 9) (v := ?_) rfl (by kernel_rfl) (by kernel_rfl) (by kernel_rfl) (fun _ _ _ h => h) (Or.inl ⟨by rfl, ?_⟩) (by assumption) ?_
        rotate_left
        · (intro W hSw; (try dsimp only at hSw); go_simp <;> with_reducible rfl)
        try simp only [Act.put, List.setIfInBounds_toArray, List.set_cons_zero, List.set_cons_succ, List.getElem_toArray, List.getElem_cons_zero, List.getElem_cons_succ]
        refine wpAnyH_done (by kernel_rfl) ?_ _
        go_wp2_with fail
        go_ret2
        exact ⟨_, by rw [HE.out]; rfl, K3.out.trans K9.out⟩
      | false =>
        rw [htg] at f12
        go_wp2_with fail
        have hz6 := hN6
        have kk : Keeps Nil w3 w6 := K6.out
        have HS9 := hid (show ∀ X, Keeps Nil w3 X → (fun X : World => X.cell? ⟨bF, 15, Option.none⟩ = some (.int .u16 x.ty) ∧ X.cell? ⟨bF, 16, Option.none⟩ = some (.string x.data)) X from fun X kX => ⟨(five_frame (kX.lies F3.out)).2.2.2.1, (five_frame (kX.lies F3.out)).2.2.2.2⟩)
        have hzd : w3.heap.size ≤ w6.drew.heap.size := hz6
        go_wp2_with fail
        refine wp_region_held_drew (S := (fun X : World => X.cell? ⟨bF, 15, Option.none⟩ = some (.int .u16 x.ty) ∧ X.cell? ⟨bF, 16, Option.none⟩ = some (.string x.data))) (by kernel_rfl) ?_ (fun hHeld => ?_)
        · (try dsimp only); (first | exact HS9.out _ kk | exact HS9.out _ kk.drew | exact HS9.out _ kk.drew.drew)
        refine wpAnyH_take (i := 0) (v := ?_) rfl (by kernel_rfl) (by kernel_rfl) (by kernel_rfl) (fun _ _ _ h => h) (Or.inl ⟨by rfl, ?_⟩) (by assumption) ?_
        rotate_left
        · (intro W hSw; (try dsimp only at hSw); go_simp <;> with_reducible rfl)
        try simp only [Act.put, List.setIfInBounds_toArray, List.set_cons_zero, List.set_cons_succ, List.getElem_toArray, List.getElem_cons_zero, List.getElem_cons_succ]
        refine wpAnyH_take (i := 1) (v := ?_) rfl (by kernel_rfl) (by kernel_rfl) (by kernel_rfl) (fun _ _ _ h => h) (Or.inl ⟨by rfl, ?_⟩) (by assumption) ?_
        rotate_left
        · (intro W hSw; (try dsimp only at hSw); go_simp <;> with_reducible rfl)
        try simp only [Act.put, List.setIfInBounds_toArray, List.set_cons_zero, List.set_cons_succ, List.getElem_toArray, List.getElem_cons_zero, List.getElem_cons_succ]
        refine wpAnyH_take (i := 2) (v := ?_) rfl (by kernel_rfl) (by kernel_rfl) (by kernel_rfl) (fun _ _ _ h => h) (Or.inl ⟨by rfl, ?_⟩) (by assumption) ?_
        rotate_left
        · (intro W hSw; (try dsimp only at hSw); go_simp <;> with_reducible rfl)
        try simp only [Act.put, List.setIfInBounds_toArray, List.set_cons_zero, List.set_cons_succ, List.getElem_toArray, List.getElem_cons_zero, List.getElem_cons_succ]
        refine wpAnyH_take (i := 5) (v := ?_) rfl (by kernel_rfl) (by kernel_rfl) (by kernel_rfl) (fun _ _ _ h => h) (Or.inl ⟨by rfl, ?_⟩) (by assumption) ?_
        rotate_left
        · (intro W hSw; (try dsimp only at hSw); go_simp <;> with_reducible rfl)
        try simp only [Act.put, List.setIfInBounds_toArray, List.set_cons_zero, List.set_cons_succ, List.getElem_toArray, List.getElem_cons_zero, List.getElem_cons_succ]
        refine wpAnyH_take (i := 6) (v := ?_) rfl (by kernel_rfl) (by kernel_rfl) (by kernel_rfl) (fun _ _ _ h => h) (Or.inl ⟨by rfl, ?_⟩) (by assumption) ?_
        rotate_left
        · (intro W hSw; (try dsimp only at hSw); go_simp <;> with_reducible rfl)
        try simp only [Act.put, List.setIfInBounds_toArray, List.set_cons_zero, List.set_cons_succ, List.getElem_toArray, List.getElem_cons_zero, List.getElem_cons_succ]
        refine wpAnyH_ready (rs := [3]) (by kernel_rfl) (by simp) ?_
        refine AllReadyH.cons rfl (fun K hK => ?_) AllReadyH.nil
        try simp only [Act.put, List.setIfInBounds_toArray, List.set_cons_zero, List.set_cons_succ, List.getElem_toArray, List.getElem_cons_zero, List.getElem_cons_succ]
        go_simp
        (refine (wput_any _ (B6.out.keepN (Keeps.drewN w6 1)) hzd (by omega) _).mono ?_; rintro ee w9 ⟨p9, c9, rfl, hb9, hg9, hz9⟩; have K9 := hid (hg9 w3 (Nat.le_refl _) kk.drew); obtain ⟨s9, hs9, hconv⟩ := hb9.str; have kk : Keeps Nil w3 w9 := K9.out; have hcat : ¬ (9223372036854775807 < s9.size + x.data.size) := (by omega); clear hb9 hs9 hg9)
        (try go_wp2_with fail)
        refine hK.out _ _ ?_ (fun hHeld => ?_)
        · (try dsimp only); (first | exact HS9.out _ kk | exact HS9.out _ kk.drew | exact HS9.out _ kk.drew.drew)
        clear hK K
        try simp only [Act.put, List.setIfInBounds_toArray, List.set_cons_zero, List.set_cons_succ, List.getElem_toArray, List.getElem_cons_zero, List.getElem_cons_succ]
        refine wpAnyH_ready (rs := [4]) (by kernel_rfl) (by simp) ?_
        refine AllReadyH.cons rfl (fun K hK => ?_) AllReadyH.nil
        try simp only [Act.put, List.setIfInBounds_toArray, List.set_cons_zero, List.set_cons_succ, List.getElem_toArray, List.getElem_cons_zero, List.getElem_cons_succ]
        go_simp
        refine hK.out _ _ ?_ (fun hHeld => ?_)
        · (try dsimp only); (first | exact HS9.out _ kk | exact HS9.out _ kk.drew | exact HS9.out _ kk.drew.drew)
        clear hK K
        try simp only [Act.put, List.setIfInBounds_toArray, List.set_cons_zero, List.set_cons_succ, List.getElem_toArray, List.getElem_cons_zero, List.getElem_cons_succ]
        refine wpAnyH_take (i := 7) (v := ?_) rfl (by kernel_rfl) (by kernel_rfl) (by kernel_rfl) (fun _ _ _ h => h) (Or.inl ⟨by rfl, ?_⟩) (by assumption) ?_
        rotate_left
        · (intro W hSw; (try dsimp only at hSw); go_simp <;> with_reducible rfl)
        try simp only [Act.put, List.setIfInBounds_toArray, List.set_cons_zero, List.set_cons_succ, List.getElem_toArray, List.getElem_cons_zero, List.getElem_cons_succ]
        refine wpAnyH_take (i := 8) (v := ?_) rfl (by kernel_rfl) (by kernel_rfl) (by kernel_rfl) (fun _ _ _ h => h) (Or.inl ⟨by rfl, ?_⟩) (by assumption) ?_
        rotate_left
        · (intro W hSw; (try dsimp only at hSw); go_simp <;> with_reducible rfl)
        try simp only [Act.put, List.setIfInBounds_toArray, List.set_cons_zero, List.set_cons_succ, List.getElem_toArray, List.getElem_cons_zero, List.getElem_cons_succ]
        refine wpAnyH_take (i := 9) (v := ?_) rfl (by kernel_rfl) (by kernel_rfl) (by kernel_rfl) (fun _ _ _ h => h) (Or.inl ⟨by rfl, ?_⟩) (by assumption) ?_
        rotate_left
        · (intro W hSw; (try dsimp only at hSw); go_simp <;> with_reducible rfl)
        try simp only [Act.put, List.setIfInBounds_toArray, List.set_cons_zero, List.set_cons_succ, List.getElem_toArray, List.getElem_cons_zero, List.getElem_cons_succ]
        refine wpAnyH_done (by kernel_rfl) ?_ _
        go_wp2_with fail
        go_ret2
        exact ⟨_, by rw [HE.out]; rfl, K3.out.trans K9.out⟩
end Go.Proofs.Ytcplmdgnldmhbaa
