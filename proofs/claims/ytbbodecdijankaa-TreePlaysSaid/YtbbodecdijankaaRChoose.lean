/-
  Layer 9: the document's machine chooses. Conditions: it lies so.
-/
import Derived.Test.YtbbodecdijankaaRWord
import Derived.Test.YtbbodecdijankaaRLeast
import Derived.Test.YtbbodecdijankaaChoose
import Derived.Test.YtbbodecdijankaaNew
import Derived.Test.YtbbodecdijankaaBut
import Derived.BigGuard
namespace Go.Proofs.Ytbbodecdijankaa
open Go.RowKit
set_option linter.unusedVariables false
set_option linter.unusedSimpArgs false
set_option maxRecDepth 8000

/-- Is the port's word taken, but for its cost? -/
def oneB (id : Int) (x : Pt) : Bool := x.link && (!decide (x.lasts = 0) && (decide (x.h.role = 2) && (!decide (x.h.b = id) && decide (x.h.hops < 20))))
theorem off_one (id : Int) (x : Pt) : offB id x = (oneB id x && farB x.h.c x.cost) := by
  unfold offB oneB
  cases x.link <;> cases decide (x.lasts = 0) <;> cases decide (x.h.role = 2) <;> cases decide (x.h.b = id) <;> cases decide (x.h.hops < 20) <;> rfl
theorem one_cases (id : Int) (x : Pt) (hl : 0 ≤ x.lasts) :
    (oneB id x = false ∧ x.link = false) ∨ (oneB id x = false ∧ x.link = true ∧ decide (x.lasts < 1) = true) ∨ (oneB id x = false ∧ x.link = true ∧ decide (x.lasts < 1) = false ∧ (x.h.role != 2) = true) ∨
    (oneB id x = false ∧ x.link = true ∧ decide (x.lasts < 1) = false ∧ (x.h.role != 2) = false ∧ (x.h.b == id) = true) ∨
    (oneB id x = false ∧ x.link = true ∧ decide (x.lasts < 1) = false ∧ (x.h.role != 2) = false ∧ (x.h.b == id) = false ∧ decide (20 ≤ x.h.hops) = true) ∨
    (oneB id x = true ∧ x.link = true ∧ decide (x.lasts < 1) = false ∧ (x.h.role != 2) = false ∧ (x.h.b == id) = false ∧ decide (20 ≤ x.h.hops) = false) := by
  unfold oneB
  cases h0 : x.link with
  | false => exact .inl ⟨by simp, rfl⟩
  | true =>
    refine .inr ?_
    by_cases h1 : x.lasts < 1
    · exact .inl ⟨by simp; intros; omega, rfl, by simp [h1]⟩
    · refine .inr ?_
      by_cases h2 : x.h.role = 2
      · refine .inr ?_
        by_cases h3 : x.h.b = id
        · exact .inl ⟨by simp [h3], rfl, by simp [h1], by simp [h2], by simp [h3]⟩
        · refine .inr ?_
          by_cases h4 : 20 ≤ x.h.hops
          · exact .inl ⟨by simp; intros; omega, rfl, by simp [h1], by simp [h2], by simp [h3], by simp [h4]⟩
          · exact .inr ⟨by simp [h2, h3]; omega, rfl, by simp [h1], by simp [h2], by simp [h3], by simp [h4]⟩
      · exact .inl ⟨by simp [h2], rfl, by simp [h1], by simp [h2]⟩
theorem farV_parts (r c b p k : Int) : ∃ y0 y1 y2 y3, farV r c b p k = vec y0 y1 y2 y3 ∧ (farB c k = true → y0 = r ∧ y1 = c + k ∧ y2 = b ∧ y3 = p) := by
  unfold farV
  cases h : farB c k with
  | true => exact ⟨_, _, _, _, rfl, fun _ => ⟨rfl, rfl, rfl, rfl⟩⟩
  | false => exact ⟨_, _, _, _, rfl, fun h => by cases h⟩
theorem info121 : (Try.prog.info? 121).map (fun i => (i.zero, i.size, i.bytes)) = some (some (pth (0, 0, 0, 0, 0)), 5, 40) := by kernel_rfl
/-- The least of the document's row of paths. -/
theorem pc_getq (L : List Pth) : ∀ (i q : Nat) (x : Pth), L[i]? = some x → q < 5 → (pc L)[i * 5 + q]? = (pcells x).toList[q]? := by
  induction L with
  | nil => intro i q x h; simp at h
  | cons y L ih =>
    intro i q x h hq
    have e : pc (y :: L) = (pcells y).toList ++ pc L := by simp [pc]
    have hy5 : (pcells y).toList.length = 5 := rfl
    rw [e]
    match i with
    | 0 =>
      simp at h; subst h
      rw [List.getElem?_append_left (by rw [hy5]; omega)]
      simp
    | i + 1 =>
      rw [List.getElem?_append_right (by rw [hy5]; omega), hy5, show (i + 1) * 5 + q - 5 = i * 5 + q from by omega]
      exact ih i q x (by simpa using h) hq
theorem row_in {w : World} {B b n c : Nat} {L : List Pth} (h : w.ownsRow B 121 5 (.slice (some ⟨b, 0, Option.none⟩) n c) n (pc L)) : RowIn w b 0 L := by
  have hc := h.cells (g := b) rfl
  intro i x hx
  have key : ∀ (q : Nat) (v : Value), q < 5 → (pcells x).toList[q]? = some v → w.cell? ⟨b, 0 + i * 5 + q, Option.none⟩ = some v := fun q v hq hv => by
    have h1 := hc (i * 5 + q) v ((pc_getq L i q x hx hq).trans hv)
    rw [Nat.zero_add]
    rwa [show (⟨b, 0, Option.none⟩ : Addr).add (i * 5 + q) = ⟨b, i * 5 + q, Option.none⟩ from by unfold Addr.add; split <;> simp_all] at h1
  exact ⟨key 0 _ (by omega) rfl, key 1 _ (by omega) rfl, key 2 _ (by omega) rfl, key 3 _ (by omega) rfl, key 4 _ (by omega) rfl⟩
theorem rleast_any {w : World} {B : Nat} (L : List Pth) (p : Option Addr) (q c : Nat) (h : w.ownsRow B 121 5 (.slice p q c) q (pc L)) (hL : L.length ≤ 100) :
    Calls Try.prog 52 #[.slice p q c] w fun e w' => LeastIs L e ∧ Keeps Nil w w' := by
  have hl : L.length = q := by have := h.1; rw [pc_length] at this; omega
  cases L with
  | nil =>
    subst hl
    exact (rleast_none p c).mono fun e w' ⟨he, k⟩ => ⟨.inl ⟨rfl, he⟩, k⟩
  | cons x0 l =>
    subst hl
    rcases h.2 with ⟨hv, hn⟩ | ⟨g, cap, cur, hv, hb, hg, _⟩
    · simp at hn
    · injection hv with h1 h2 h3
      subst h1
      exact (rleast_some g 0 c x0 l (lt_of_block hg) (row_in h) (by simp at hL; omega)).mono fun e w' ⟨he, k⟩ => ⟨.inr ⟨x0, l, rfl, he⟩, k⟩
/-- Behind a turn of the first k ports. -/
def TM.rt (τ : TM) (k : Nat) : TM := { τ with P := (τ.P.take k).map Pt.turn ++ τ.P.drop k, fl := orTo τ.fl k, ver := τ.ver + 1 }
theorem rt_get (τ : TM) {k : Nat} {x : Pt} (hx : τ.P[k]? = some x) : (τ.rt k).P[k]? = some x := take_get _ _ hx
theorem rt_len (τ : TM) {k : Nat} (hk : k ≤ τ.P.length) : (τ.rt k).P.length = τ.P.length := take_len _ _ _ hk
theorem rt_all (τ : TM) : τ.rt τ.P.length = τ.turn := by simp [TM.rt, TM.turn]
theorem rt_next (τ : TM) {k : Nat} {x : Pt} (hx : τ.P[k]? = some x) : { τ.rt k with P := (τ.rt k).P.set k x.turn, fl := bor (τ.rt k).fl k } = τ.rt (k + 1) := by
  have h := take_set τ.P Pt.turn hx
  simp only [TM.rt, h, orTo]
set_option maxHeartbeats 200000000 in
theorem rchoose_any {w : World} {m g c f : Nat} {τ : TM} (h : RMach w m g c f τ) (hok : τ.Ok) (hv : τ.ver < 9223372036854775807) :
    Calls Try.prog 34 #[.pointer (some ⟨m, 0, Option.none⟩)] w fun e w' => e = .returned (.tuple #[]) ∧ RMach w' m g c f τ.choose ∧ Keeps (Om m g f) w w' := by
  obtain ⟨i0, hi, hz0, hz1, hz2⟩ := info_parts info121
  have HI := hid (And.intro hi (And.intro hz0 (And.intro hz1 hz2)))
  obtain ⟨⟨m0, m1, m2, m3, m4, m5, m6, m7⟩, mf⟩ := h.cells
  have hle := h.row.le
  have hn := hok.n
  have H := hid h
  have HOK := hid hok
  have HV := hid hv
  clear hi hz0 hz1 hz2 h hok hv mf m2 m3 m4 m5 m6 m7
  go_enter Try.func34, Try.ntmps34
  go_wp2_with fail
  go_loopw [2, 3] (fun s2 s3 wr => ∃ k : Nat, k ≤ τ.P.length ∧ s3 = .int .i64 k ∧ ∃ (p : Option Addr) (q c' : Nat), s2 = .slice p q c' ∧ q ≤ k ∧ Hid (wr.ownsRow w.heap.size 121 5 (.slice p q c') q (pc (pathsTo τ.id τ.P k)) ∧ Keeps Nil w wr)) (fun _ s3 _ => τ.P.length - (intOf s3).toNat)
  case atStart => exact ⟨0, Nat.zero_le _, rfl, Option.none, 0, 0, rfl, Nat.zero_le _, hid ⟨World.ownsRow_nil _ _ _ _, Keeps.refl _ _⟩⟩
  case round =>
    obtain ⟨k, hk, rfl, p, q, c', rfl, hqk, HR⟩ := hrel
    have HM := hid (H.out.keepN HR.out.2)
    by_cases hlt : k < τ.P.length
    · obtain ⟨x, hx⟩ : ∃ x, τ.P[k]? = some x := ⟨_, List.getElem?_eq_getElem hlt⟩
      have hxo := HOK.out.P x (List.mem_of_getElem? hx)
      have HX := hid hx
      have HXO := hid hxo
      have m1r := HM.out.cells.1.2.1
      have hgl := HM.out.lt
      have HRH := hid (HM.out.row.rangeH hx)
      clear hx hxo m0 m1
      go_upto_region 5 with ((first
        | (refine wpList_load_mid rfl 37 _ rfl g (k * 16 + 2) rfl (bcl x.h) _ ?_ Try.underlying37 rfl (by kernel_rfl) ?_; exact HRH.out)
        | (refine wpList_store_mid rfl 37 _ _ rfl wr.heap.size 0 (bcl x.h).toArray rfl rfl ?_ (by kernel_rfl) (by simp [bcl, Value.oneCell']) ?_; exact there_block (alloc_block wr _) 11 rfl)))
      try simp only [Act.put, List.setIfInBounds_toArray, List.set_cons_zero, List.set_cons_succ]
      obtain ⟨hPB, kP0⟩ := setCells_all (alloc_block wr (.cells #[.int .u64 0, .int .u32 0, .int .u64 0, .int .u8 0, .int .u8 0, .int .u64 0, .int .u8 0, .bool false, .bool false, .bool false, .int .u64 0] 37 (0, 0))) (bcl x.h).toArray rfl
      have kP : Keeps Nil wr ((wr.alloc (.cells #[.int .u64 0, .int .u32 0, .int .u64 0, .int .u8 0, .int .u8 0, .int .u64 0, .int .u8 0, .bool false, .bool false, .bool false, .int .u64 0] 37 (0, 0))).setCells wr.heap.size 0 (bcl x.h)) := ((Keeps.refl Nil wr).alloc _).thenAt kP0 (Nat.le_refl _)
      have hPB : ((wr.alloc (.cells #[.int .u64 0, .int .u32 0, .int .u64 0, .int .u8 0, .int .u8 0, .int .u64 0, .int .u8 0, .bool false, .bool false, .bool false, .int .u64 0] 37 (0, 0))).setCells wr.heap.size 0 (bcl x.h)).heap[wr.heap.size]? = some (.cells (bcl x.h).toArray 37 (0, 0)) := hPB
      generalize (wr.alloc (.cells #[.int .u64 0, .int .u32 0, .int .u64 0, .int .u8 0, .int .u8 0, .int .u64 0, .int .u8 0, .bool false, .bool false, .bool false, .int .u64 0] 37 (0, 0))).setCells wr.heap.size 0 (bcl x.h) = wb at *
      obtain ⟨b4, hb4⟩ : ∃ b4, wr.heap.size = b4 := ⟨_, rfl⟩
      rw [hb4] at hPB ⊢
      have HB4 := hid hb4
      have HPB := hid hPB
      have KP := hid kP
      have hPB' : wb.heap[b4]? = some (.cells #[.int .u64 x.h.r, .int .u32 x.h.c, .int .u64 x.h.b, .int .u8 x.h.p, .int .u8 x.h.hops, .int .u64 x.h.ver, .int .u8 x.h.role, .bool x.h.prop, .bool x.h.agree, .bool x.h.top, .int .u64 x.h.echo] 37 (0, 0)) := hPB
      obtain ⟨d0, d1, d2, d3, d4, d5, d6, d7, d8, d9, d10⟩ := blk11 hPB'
      have HMB := hid (HM.out.keepN kP)
      have HS : ∀ W, Keeps Nil wb W → (W.cell? ⟨b4, 0, Option.none⟩ = some (.int .u64 x.h.r) ∧ W.cell? ⟨b4, 1, Option.none⟩ = some (.int .u32 x.h.c) ∧ W.cell? ⟨b4, 2, Option.none⟩ = some (.int .u64 x.h.b) ∧ W.cell? ⟨b4, 3, Option.none⟩ = some (.int .u8 x.h.p) ∧ W.cell? ⟨m, 1, Option.none⟩ = some (.slice (some ⟨g, 0, Option.none⟩) τ.P.length c) ∧ W.cell? ⟨g, k * 16, Option.none⟩ = some (.int .u32 x.cost)) := fun W k => by
        have hb := (k.block _ (lt_of_block HPB.out) (fun e => e)).trans HPB.out
        have M := HMB.out.keepN k
        exact ⟨by simp [World.cell?, hb, bcl], by simp [World.cell?, hb, bcl], by simp [World.cell?, hb, bcl], by simp [World.cell?, hb, bcl], M.cells.1.2.1, (M.row.read HX.out).1⟩
      have HSH := hid HS
      have m0r := HMB.out.cells.1.1
      have m1b := HMB.out.cells.1.2.1
      have c13 := (HMB.out.row.read HX.out).2.2.2.2.2.2.2.2.2.2.2.2.2.1
      have LK := hid (fun W (kW : Keeps Nil wb W) => rlink_any (HMB.out.keepN kW) HX.out)
      have hlas := HXO.out.lasts.1
      have hcs := one_cases τ.id x hlas
      clear m1r hb4 hPB hPB' kP kP0 HS hgl
      go_cut [66] (fun s66 wx => s66 = .bool (!oneB τ.id x) ∧ ∃ n, wx = wb.drewN n)
      case first =>
        rcases hcs with ⟨ho, hl⟩ | ⟨ho, hl, f1⟩ | ⟨ho, hl, f1, f2⟩ | ⟨ho, hl, f1, f2, f3⟩ | ⟨ho, hl, f1, f2, f3, f4⟩ | ⟨ho, hl, f1, f2, f3, f4⟩
        all_goals
          have HO := hid ho
          rw [hl] at LK
          clear ho hl
          go_quiet ((go_at_call 38; exact quiet_left (LK.out _ (Keeps.drewN _ _))))
          go_wp2_with fail
          go_meet
          exact ⟨by rw [HO.out]; rfl, _, rfl⟩
      case rest =>
        obtain ⟨rfl, nd, rfl⟩ := hcut
        have KD := hid (KP.out.trans (Keeps.drewN wb nd))
        clear hcs d0 d1 d2 d3 d4 d5 d6 d7 d8 d9 d10 m0r m1b c13
        cases ho : oneB τ.id x with
        | false =>
          have hno : offB τ.id x = false := by rw [off_one, ho]; rfl
          have HNO := hid hno
          clear ho hno
          go_wp2_with fail
          go_roundw
          case rel =>
            refine ⟨k + 1, by omega, by go_num, p, q, c', rfl, by omega, hid ⟨?_, HR.out.2.trans KD.out⟩⟩
            rw [pathsTo_no HX.out HNO.out]
            exact ownsRow_keep HR.out.1 KD.out (fun _ _ e => e)
          case measure => simp only [intOf]; omega
        | true =>
          have HO := hid ho
          clear ho
          go_upto_region 6 with (fail)
          have HV0 : Keeps Nil wb (wb.drewN nd) := Keeps.drewN _ _
          have HV0' := hid HV0
          have hVs : (wb.drewN nd).heap.size = wb.heap.size := rfl
          generalize wb.drewN nd = V at *
          obtain ⟨y0, y1, y2, y3, hfv, hfy⟩ := farV_parts x.h.r x.h.c x.h.b x.h.p x.cost
          have HFY := hid hfy
          have FA := hid (fun W => rfar_any x.h.r x.h.c x.h.b x.h.p x.cost HXO.out.h.c.1 HXO.out.h.c.2 HXO.out.cost.1 (by have := HXO.out.cost; omega) W)
          rw [hfv] at FA
          clear hfv hfy HV0 hVs
          go_cut [5, 6] (fun s5 s6 wx => ∃ b8 : Nat, s5 = .pointer (some ⟨b8, 0, Option.none⟩) ∧ s6 = .bool (farB x.h.c x.cost) ∧ Hid (V.heap.size ≤ b8 ∧ wx.heap[b8]? = some (.cells #[.int .u64 y0, .int .u32 y1, .int .u64 y2, .int .u8 y3] 35 (0, 0)) ∧ Keeps Nil V wx))
          case first =>
            have kk := Keeps.refl Nil V
            obtain ⟨s0, s1, s2, s3, s4, s5⟩ := HSH.out V HV0'.out
            go_region_held3 (fun W => W.cell? ⟨b4, 0, Option.none⟩ = some (.int .u64 x.h.r) ∧ W.cell? ⟨b4, 1, Option.none⟩ = some (.int .u32 x.h.c) ∧ W.cell? ⟨b4, 2, Option.none⟩ = some (.int .u64 x.h.b) ∧ W.cell? ⟨b4, 3, Option.none⟩ = some (.int .u8 x.h.p) ∧ W.cell? ⟨m, 1, Option.none⟩ = some (.slice (some ⟨g, 0, Option.none⟩) τ.P.length c) ∧ W.cell? ⟨g, k * 16, Option.none⟩ = some (.int .u32 x.cost)) ((refine HSH.out _ (HV0'.out.trans ?_); first | with_reducible exact kk | with_reducible exact kk.drew | with_reducible exact (kk.alloc _) | with_reducible exact (kk.drew.alloc _) | with_reducible exact (kk.alloc _).drew | with_reducible exact (set4_keeps _ kk (Nat.le_refl _) _ _ _ _)))
              ((first
                | (go_at_call 51; refine (FA.out V.drew).mono ?_; rintro e w2 ⟨rfl, k2⟩; replace kk := kk.drew.trans k2; skip)
                | (go_at_call 51; refine (FA.out (V.alloc (.cells #[.int .u64 0, .int .u32 0, .int .u64 0, .int .u8 0] 35 (0, 0))).drew).mono ?_; rintro e w2 ⟨rfl, k2⟩; replace kk := (kk.alloc _).drew.trans k2; have hl2 := (k2.block V.heap.size (by simp) (fun e => e)).trans (alloc_block V (.cells #[.int .u64 0, .int .u32 0, .int .u64 0, .int .u8 0] 35 (0, 0))); obtain ⟨v0, v1, v2, v3⟩ := four_block hl2; obtain ⟨vf0, vf1, vf2, vf3⟩ := four_free hl2; replace hl2 := hid hl2)))
            all_goals (go_wp2_with fail; go_meet)
            all_goals first
              | (have hs4 := store_4 hl2.out; exact ⟨V.heap.size, rfl, rfl, hid ⟨Nat.le_refl _, hs4 _ _ _ _, set4_keeps _ kk (Nat.le_refl _) _ _ _ _⟩⟩)
              | exact ⟨w2.heap.size, rfl, rfl, hid ⟨kk.size, alloc_block _ _, kk.alloc _⟩⟩
          case rest =>
            obtain ⟨b8, rfl, rfl, H8⟩ := hcut
            have KX := hid (HR.out.2.trans ((KP.out.trans HV0'.out).trans H8.out.2.2))
            have KR := hid ((KP.out.trans HV0'.out).trans H8.out.2.2)
            cases hf : farB x.h.c x.cost with
            | false =>
              have hno : offB τ.id x = false := by rw [off_one, HO.out, hf]; rfl
              have HNO := hid hno
              clear hf hno
              go_wp2_with fail
              go_roundw
              case rel =>
                refine ⟨k + 1, by omega, by go_num, p, q, c', rfl, by omega, hid ⟨?_, KX.out⟩⟩
                rw [pathsTo_no HX.out HNO.out]
                exact ownsRow_keep HR.out.1 KR.out (fun _ _ e => e)
              case measure => simp only [intOf]; omega
            | true =>
              have hyes : offB τ.id x = true := by rw [off_one, HO.out, hf]; rfl
              obtain ⟨rfl, rfl, rfl, rfl⟩ := HFY.out hf
              have HY := hid hyes
              have hw8 := u8i k (by omega)
              obtain ⟨v0, v1, v2, v3⟩ := four_block H8.out.2.1
              have OW := hid (ownsRow_keep HR.out.1 (KR.out.alloc (.cells (pcells (offV x k)) 121 (0, 0))) (fun _ _ e => e))
              have KW := hid (KX.out.alloc (.cells (pcells (offV x k)) 121 (0, 0)))
              have hpl := pathsTo_len τ.id τ.P k
              have HSZ := hid (show w.heap.size ≤ (wc.alloc (.cells (pcells (offV x k)) 121 (0, 0))).heap.size from KW.out.size)
              clear hf hyes
              go_wp2_with (at_builtin; refine wpList_append_wv (o := ⟨some 88, _, _, _, _, _⟩) _ rfl _ _ 117 rfl w.heap.size 121 i0 (pth (0, 0, 0, 0, 0)) 5 40 Try.underlying117 HI.out.1 HI.out.2.1 HI.out.2.2.1 HI.out.2.2.2 rfl (by decide) (.slice p q c') q (pc (pathsTo τ.id τ.P k)) rfl OW.out 0 (some ⟨wc.heap.size, 0, Option.none⟩) 1 1 (pcells (offV x k)).toList rfl (WV.new wc (pcells (offV x k)) 121 5 rfl) (by simp [Value.oneCell', pcells]) (by unfold maxLen; omega) (by omega) HSZ.out ?_; intro v1 w5 own1 hg1 hat1; obtain ⟨p1, c1, hv1⟩ := own_shape own1; subst hv1)
              go_roundw
              case rel =>
                refine ⟨k + 1, by omega, by go_num, p1, q + 1, c1, rfl, by omega, hid ⟨?_, ?_⟩⟩
                · rw [pathsTo_yes HX.out HY.out, pc_snoc]
                  exact own1
                · exact KW.out.grown hg1 (fun g hg hlt => by have := own_ge OW.out hg; omega)
              case measure => simp only [intOf]; omega
    · obtain rfl : k = τ.P.length := by omega
      have OW := hid HR.out.1
      have KW := hid HR.out.2
      have hq : (pathsTo τ.id τ.P τ.P.length).length = q := by have := OW.out.1; rw [pc_length] at this; omega
      have HQ := hid hq
      have hq8 : (pathsTo τ.id τ.P τ.P.length).length ≤ 100 := by omega
      have LA := hid (rleast_any _ p q c' OW.out hq8)
      obtain ⟨⟨n0, n1, _⟩, _⟩ := HM.out.cells
      have hlm := HM.out.lt
      clear m0 m1 hq hq8
      go_upto_region 13 with (fail)
      go_cut [11, 12] (fun s11 s12 wx => ∃ (b11 : Nat) (y : Pth) (is : Bool), s11 = .pointer (some ⟨b11, 0, Option.none⟩) ∧ s12 = .bool is ∧ Hid (wx.heap[b11]? = some (.cells (pcells y) 121 (0, 0)) ∧ Keeps Nil wr wx ∧ Pick τ.id τ.P y is))
      case first =>
        go_wp2_with fail
        refine LA.out.mono ?_; rintro e w5 ⟨⟨hp, rfl⟩ | ⟨x0, l, hp, rfl⟩, k5⟩
        · have HPI := hid (pick_none hp)
          clear hp
          go_wp2_with fail
          go_meet
          exact ⟨w5.heap.size, (0, 0, 0, 0, 0), false, rfl, rfl, hid ⟨alloc_block _ _, k5.alloc _, HPI.out⟩⟩
        · have HPI := hid (pick_some hp)
          generalize best x0 l = y at *
          obtain ⟨yr, yc, yb, yp, yi⟩ := y
          clear hp
          go_wp2_with fail
          go_meet
          exact ⟨w5.heap.size, (yr, yc, yb, yp, yi), true, rfl, rfl, hid ⟨alloc_block _ _, k5.alloc _, HPI.out⟩⟩
      case rest =>
        obtain ⟨b11, ⟨yr, yc, yb, yp, yi⟩, is, rfl, rfl, HC⟩ := hcut
        clear n0 n1
        have HMX := hid (HM.out.keepN HC.out.2.1)
        have KX := hid (KW.out.trans HC.out.2.1)
        obtain ⟨⟨n0, n1, _⟩, _⟩ := HMX.out.cells
        obtain ⟨y0, y1, y2, y3, y4⟩ := five_block HC.out.1
        go_upto_region 14 with (fail)
        go_cut [108] (fun s108 wy => s108 = .bool (is && decide (yr < τ.id)) ∧ ∃ n, wy = wc.drewN n)
        case first =>
          cases is with
          | false =>
            go_quiet (fail)
            go_wp2_with fail
            go_meet
            exact ⟨rfl, _, rfl⟩
          | true =>
            go_quiet (fail)
            go_wp2_with fail
            go_meet
            exact ⟨rfl, _, rfl⟩
        case rest =>
          obtain ⟨rfl, nd, rfl⟩ := hcut
          go_upto_if 108 with (fail)
          go_cut [7, 8, 9, 10] from 7 to 128 (fun s7 s8 s9 s10 wy => s7 = .int .u64 (chosen τ.id τ.P).1 ∧ s8 = .int .u32 (chosen τ.id τ.P).2.1 ∧ s9 = .int .i64 (chosen τ.id τ.P).2.2.1 ∧ s10 = .int .u8 (chosen τ.id τ.P).2.2.2 ∧ ∃ n, wy = wc.drewN n)
          case first =>
            cases hd : (is && decide (yr < τ.id)) with
            | false =>
              have hch : chosen τ.id τ.P = (τ.id, 0, -1, 0) := by
                cases is with
                | false => exact HC.out.2.2.2.1 rfl
                | true => exact HC.out.2.2.2.2.1 rfl (by simpa using hd)
              have HCH := hid hch
              clear hch hd
              go_wp2_with fail
              go_meet
              exact ⟨by rw [HCH.out], by rw [HCH.out], by rw [HCH.out], by rw [HCH.out], _, rfl⟩
            | true =>
              have hd' : is = true ∧ yr < τ.id := by simpa using hd
              obtain ⟨rfl, hyr⟩ := hd'
              obtain ⟨j, xj, hxj, hoj, hyj⟩ := HC.out.2.2.1 rfl
              have hch := HC.out.2.2.2.2.2 j xj rfl hxj hyj hyr
              obtain ⟨_, _, _, _, _, hh20, _⟩ := offB_parts hoj
              have hh0 := (HOK.out.P xj (List.mem_of_getElem? hxj)).h.hops
              have hjl := (List.getElem?_eq_some_iff.1 hxj).1
              unfold offV at hyj
              simp only [Prod.mk.injEq] at hyj
              obtain ⟨rfl, rfl, rfl, rfl, rfl⟩ := hyj
              have HCH := hid hch
              have hgr := ((HMX.out.drewN nd).row.read hxj).2.2.2.2.2.2.1
              have hj0 : (0 : Int) ≤ (j : Int) := by omega
              have hjn : (j : Int) < (τ.P.length : Int) := by omega
              clear hch hoj hd hxj
              go_wp2_with fail
              go_meet
              exact ⟨by rw [HCH.out], by rw [HCH.out], by rw [HCH.out], by rw [HCH.out], _, rfl⟩
          case rest =>
            as_aux_lemma =>
            obtain ⟨rfl, rfl, rfl, rfl, nd2, rfl⟩ := hcut
            clear n0 n1 y0 y1 y2 y3 y4 LA
            have M0 := HMX.out.drewN nd2
            have K0 := KX.out.trans (Keeps.drewN wc nd2)
            generalize wc.drewN nd2 = wd at *
            obtain ⟨X, hX⟩ : ∃ X, chosen τ.id τ.P = X := ⟨_, rfl⟩
            rw [hX]
            have HXX := hid hX
            obtain ⟨xr, xc, xp, xh⟩ := X
            clear hX
            have nf5 := M0.cells.2 5
            have n5 := M0.cells.1.2.2.2.2.2.1
            have S5 := hid (M0.set (τ' := { τ with hops := xh }) 5 (v := .int .u8 xh) rfl rfl (by simp [rcl]))
            have K5 := hid ((K0.ofNil (S := Om m g f)).mM 5 (.int .u8 xh))
            have hm5 := M0.lt.1
            go_upto_region 20 with (fail)
            clear nf5 n5 M0 K0
            have K5 := K5
            generalize wd.setCell ⟨m, 5, Option.none⟩ (.int .u8 xh) = we at *
            obtain ⟨⟨n0, n1, n2, n3, n4, n5, n6, n7⟩, nf⟩ := S5.out.cells
            try simp only at n2
            try simp only at n3
            try simp only at n4
            go_cut [153] (fun s153 wy => s153 = .bool (τ.moved (xr, xc, xp, xh)) ∧ wy = we)
            case first =>
              by_cases e1 : xr = τ.root
              · have f1 : (xr != τ.root) = false := by simp [e1]
                by_cases e2 : xc = τ.cost
                · have f2 : (xc != τ.cost) = false := by simp [e2]
                  by_cases e3 : xp = τ.port
                  · have f3 : (xp != τ.port) = false := by simp [e3]
                    have HEE := hid (And.intro e1 (And.intro e2 e3))
                    clear e1 e2 e3 nf
                    go_wp2_with fail
                    go_meet
                    exact ⟨by simp [TM.moved, HEE.out.1, HEE.out.2.1, HEE.out.2.2], rfl⟩
                  · have f3 : (xp != τ.port) = true := by simp [e3]
                    have HEE := hid (And.intro e1 (And.intro e2 e3))
                    clear e1 e2 e3 nf
                    go_wp2_with fail
                    go_meet
                    exact ⟨by simp [TM.moved, HEE.out.1, HEE.out.2.1, HEE.out.2.2], rfl⟩
                · have f2 : (xc != τ.cost) = true := by simp [e2]
                  have HEE := hid (And.intro e1 e2)
                  clear e1 e2 nf
                  go_wp2_with fail
                  go_meet
                  exact ⟨by simp [TM.moved, HEE.out.1, HEE.out.2], rfl⟩
              · have f1 : (xr != τ.root) = true := by simp [e1]
                have HEE := hid e1
                clear e1 nf
                go_wp2_with fail
                go_meet
                exact ⟨by simp [TM.moved, HEE.out], rfl⟩
            case rest =>
              obtain ⟨rfl, hw5⟩ := hcut
              have hw5 := hw5.symm
              subst hw5
              go_upto_if 153 with (fail)
              go_cut [] from 13 to 205 (fun wy => Hid (RMach wy m g c f (if τ.moved (xr, xc, xp, xh) then (τ.takes (xr, xc, xp, xh)).turn else τ.takes (xr, xc, xp, xh)) ∧ Keeps (Om m g f) w wy))
              case first =>
                cases hmv : τ.moved (xr, xc, xp, xh) with
                | false =>
                  have he : xr = τ.root ∧ xc = τ.cost ∧ xp = τ.port := by simpa [TM.moved] using hmv
                  have hTT : τ.takes (xr, xc, xp, xh) = { τ with hops := xh } := by obtain ⟨rfl, rfl, rfl⟩ := he; rfl
                  have HTT := hid hTT
                  have HMV := hid hmv
                  clear hTT he hmv nf
                  go_wp2_with fail
                  go_meet
                  exact hid ⟨by rw [HMV.out, if_neg (by simp), HTT.out]; exact S5.out, K5.out⟩
                | true =>
                  have nf2 := nf 2
                  have nf3 := nf 3
                  have nf4 := nf 4
                  have nf6 := nf 6
                  have hv1 : 0 ≤ τ.ver := by have := HOK.out.ver; omega
                  have hv2 := HV.out
                  have s2 := S5.out.set 2 (τ' := { τ with hops := xh, root := xr }) (v := .int .u64 xr) rfl rfl (by simp [rcl])
                  have s3 := s2.set 3 (τ' := { τ with hops := xh, root := xr, cost := xc }) (v := .int .u32 xc) rfl rfl (by simp [rcl])
                  have s4 := s3.set 4 (τ' := τ.takes (xr, xc, xp, xh)) (v := .int .i64 xp) rfl rfl (by simp [rcl, TM.takes])
                  have s6 := s4.set 6 (τ' := (τ.takes (xr, xc, xp, xh)).rt 0) (v := .int .u64 (τ.ver + 1)) (by simp [TM.rt, TM.takes]) (by simp [TM.rt, TM.takes, orTo]) (by simp [rcl, TM.takes, TM.rt, orTo])
                  have S6 := hid s6
                  have K6 := hid ((((K5.out.mM 2 (.int .u64 xr)).mM 3 (.int .u32 xc)).mM 4 (.int .i64 xp)).mM 6 (.int .u64 (τ.ver + 1)))
                  have hm6 := S5.out.lt.1
                  have HMV := hid hmv
                  clear nf hmv s2 s3 s4 s6
                  go_upto_region 25 with (fail)
                  clear n0 n1 n2 n3 n4 n5 n6 n7 nf2 nf3 nf4 nf6
                  generalize (((we.setCell ⟨m, 2, Option.none⟩ (.int .u64 xr)).setCell ⟨m, 3, Option.none⟩ (.int .u32 xc)).setCell ⟨m, 4, Option.none⟩ (.int .i64 xp)).setCell ⟨m, 6, Option.none⟩ (.int .u64 (τ.ver + 1)) = wf at *
                  obtain ⟨T, hT⟩ : ∃ T, τ.takes (xr, xc, xp, xh) = T := ⟨_, rfl⟩
                  have hTP : T.P.length ≤ 8 := by rw [← hT]; exact hn.2
                  rw [hT] at S6
                  have HT := hid hT
                  clear hT
                  go_wp2_with fail
                  go_loopw [13] (fun s13 wr => ∃ k : Nat, k ≤ T.P.length ∧ s13 = .int .i64 k ∧ Hid (RMach wr m g c f (T.rt k) ∧ Keeps (Om m g f) w wr)) (fun s13 _ => T.P.length - (intOf s13).toNat)
                  case atStart => exact ⟨0, Nat.zero_le _, rfl, hid ⟨S6.out, K6.out⟩⟩
                  case round =>
                    obtain ⟨k, hk, rfl, HR2⟩ := hrel
                    have hln := rt_len T hk
                    have HLN := hid hln
                    have hln8 : (T.rt k).P.length ≤ 8 := by omega
                    obtain ⟨⟨_, n1, _, _, _, _, _, n7⟩, _⟩ := HR2.out.1.cells
                    rw [hln] at n1 n7
                    by_cases hlt2 : k < T.P.length
                    · obtain ⟨x, hx⟩ : ∃ x, T.P[k]? = some x := ⟨_, List.getElem?_eq_getElem hlt2⟩
                      have hu := rt_get T hx
                      have hkn : k < (T.rt k).P.length := by omega
                      have c14 := (HR2.out.1.row.read hu).2.2.2.2.2.2.2.2.2.2.2.2.2.2.1
                      have fr14 := HR2.out.1.row.frozen (k * 16 + 14)
                      have P1 := HR2.out.1.put (x' := { x with ag := false }) 14 (by omega) (v := .bool false) hu rfl
                      have K1 := HR2.out.2.mG (k * 16 + 14) (.bool false)
                      obtain ⟨⟨bf, hbf⟩, ffr⟩ := P1.bit (i := k) (by simpa using hkn)
                      have P2 := P1.flag (i := k) (by simpa using hkn) (by simp [hln]; omega)
                      have K2 := K1.mF k (.bool true)
                      have hl2 := HR2.out.1.lt
                      have hgf := HR2.out.1.gf
                      have hmg := HR2.out.1.mg
                      have hmf := HR2.out.1.mf
                      have hx2 : ({ T.rt k with P := (T.rt k).P.set k { x with ag := false }, fl := bor (T.rt k).fl k } : TM).P[k]? = some { x with ag := false } := by
                        show ((T.rt k).P.set k { x with ag := false })[k]? = _
                        rw [List.getElem?_set]; simp [hkn]
                      have LK2 := hid (rlink_any P2 hx2)
                      have P1H := hid P1
                      have P2H := hid P2
                      have K2H := hid K2
                      have HX2 := hid hx2
                      have HU := hid hu
                      have HXT := hid hx
                      have c2 := P2.cells.1.2.1
                      have c2' : ((wr.setCell ⟨g, k * 16 + 14, Option.none⟩ (.bool false)).setCell ⟨f, k, Option.none⟩ (.bool true)).cell? ⟨m, 1, Option.none⟩ = some (.slice (some ⟨g, 0, Option.none⟩) T.P.length c) := by rw [c2]; simp [hln]
                      have C2 := hid c2'
                      have c15 := (P2.row.read hx2).2.2.2.2.2.2.2.2.2.2.2.2.2.2.2
                      have fr15 := P2.row.frozen (k * 16 + 15)
                      have C15 := hid (And.intro c15 fr15)
                      clear c2 c2' c15 fr15
                      have c1 := P1.cells.1.2.2.2.2.2.2.2
                      have c1' : (wr.setCell ⟨g, k * 16 + 14, Option.none⟩ (.bool false)).cell? ⟨m, 7, Option.none⟩ = some (.slice (some ⟨f, 0, Option.none⟩) T.P.length T.P.length) := by rw [c1]; simp [hln]
                      clear P1 P2 K1 K2 hx2 hu hx c1 hln
                      go_upto_region 30 with (fail)
                      clear n1 n7 c14 fr14 hbf ffr c1'
                      generalize ((wr.setCell ⟨g, k * 16 + 14, Option.none⟩ (.bool false)).setCell ⟨f, k, Option.none⟩ (.bool true)) = wg at *
                      have hlk : ({ x with ag := false } : Pt).link = x.link := rfl
                      rw [hlk] at LK2
                      clear hlk
                      go_wp2_with fail
                      refine LK2.out.mono ?_; rintro e wh ⟨rfl, hwh⟩
                      have hwh := hwh.symm
                      subst hwh
                      have hn1 := C2.out
                      obtain ⟨c15, fr15⟩ := C15.out
                      cases hl : x.link with
                      | true =>
                        have hf : Pt.turn x = { x with ag := false, sp := 4 } := by simp [Pt.turn, hl]
                        have HF := hid hf
                        clear hl hf
                        go_wp2_with fail
                        go_roundw
                        case rel =>
                          refine ⟨k + 1, by omega, by go_num, hid ⟨?_, K2H.out.mG (k * 16 + 15) (.int .i64 4)⟩⟩
                          have h3 := P2H.out.put (x' := { x with ag := false, sp := 4 }) 15 (by omega) (v := .int .i64 4) HX2.out rfl
                          have hs := rt_next T HXT.out
                          rw [HF.out] at hs
                          simp only [List.set_set] at h3
                          rw [hs] at h3
                          exact h3
                        case measure => simp only [intOf]; omega
                      | false =>
                        have hf : Pt.turn x = { x with ag := false } := by simp [Pt.turn, hl]
                        have HF := hid hf
                        clear hl hf
                        go_wp2_with fail
                        go_roundw
                        case rel =>
                          refine ⟨k + 1, by omega, by go_num, hid ⟨?_, K2H.out⟩⟩
                          have h3 := P2H.out
                          have hs := rt_next T HXT.out
                          rw [HF.out] at hs
                          rw [hs] at h3
                          exact h3
                        case measure => simp only [intOf]; omega
                    · obtain rfl : k = T.P.length := by omega
                      clear hln
                      have hr := HR2.out.1
                      rw [rt_all, ← HT.out] at hr
                      have HRR := hid hr
                      clear hr n7
                      go_wp2_with fail
                      go_meet
                      exact hid ⟨by rw [HMV.out, if_pos rfl]; exact HRR.out, HR2.out.2⟩
              case rest =>
                clear n0 n1 n2 n3 n4 n5 n6 n7 nf S5 K5
                obtain ⟨τ1, hτ1⟩ : ∃ τ1, (if τ.moved (xr, xc, xp, xh) then (τ.takes (xr, xc, xp, xh)).turn else τ.takes (xr, xc, xp, xh)) = τ1 := ⟨_, rfl⟩
                rw [hτ1] at hcut
                have hch : τ.choose = τ1.calm := by rw [choose_eq τ HXX.out, hτ1]
                have hn1 : τ1.P.length ≤ 8 := by rw [← hτ1]; split <;> simp [TM.turn, TM.takes] <;> exact hn.2
                have HCH := hid hch
                have HC4 := hid hcut.out
                clear hτ1 hch hcut
                go_wp2_with fail
                go_loopw [14] (fun s14 wr => ∃ k : Nat, k ≤ τ1.P.length ∧ s14 = .int .i64 k ∧ Hid (RMach wr m g c f (τ1.calmTo k) ∧ Keeps (Om m g f) w wr)) (fun s14 _ => τ1.P.length - (intOf s14).toNat)
                case atStart => exact ⟨0, Nat.zero_le _, rfl, hid ⟨by rw [calmTo_zero]; exact HC4.out.1, HC4.out.2⟩⟩
                case round =>
                  obtain ⟨k, hk, rfl, HR3⟩ := hrel
                  have hln := calmTo_len τ1 hk
                  have HLN := hid hln
                  obtain ⟨⟨_, n1, _⟩, _⟩ := HR3.out.1.cells
                  rw [hln] at n1
                  clear hln
                  by_cases hlt3 : k < τ1.P.length
                  · obtain ⟨x, hx⟩ : ∃ x, τ1.P[k]? = some x := ⟨_, List.getElem?_eq_getElem hlt3⟩
                    have hu := calmTo_get τ1 hx
                    have RL := hid (rrole_any HR3.out.1 hu (by omega))
                    rw [calmTo_role] at RL
                    have HX3 := hid hx
                    have HU3 := hid hu
                    clear hx hu
                    go_upto_region 35 with (fail)
                    clear n1
                    go_wp2_with fail
                    refine RL.out.mono ?_; rintro e wh ⟨rfl, kh⟩
                    have HK := hid (HR3.out.1.keepN kh)
                    have KK := hid (HR3.out.2.thenNil kh)
                    have hn1 : wh.cell? ⟨m, 1, Option.none⟩ = some (.slice (some ⟨g, 0, Option.none⟩) τ1.P.length c) := by rw [HK.out.cells.1.2.1, HLN.out]
                    have c14 := (HK.out.row.read HU3.out).2.2.2.2.2.2.2.2.2.2.2.2.2.2.1
                    have fr14 := HK.out.row.frozen (k * 16 + 14)
                    by_cases hro : τ1.roleOf k x = 2
                    · have e1 : (τ1.roleOf k x != 2) = false := by simp [hro]
                      have HRO := hid hro
                      clear hro kh
                      go_wp2_with fail
                      go_roundw
                      case rel =>
                        refine ⟨k + 1, by omega, by go_num, hid ⟨?_, KK.out⟩⟩
                        have hs := calmTo_set τ1 HX3.out
                        have hp : calmP τ1 k x = x := by simp [calmP, HRO.out]
                        rw [hp, set_self _ HU3.out] at hs
                        have h3 := HK.out
                        rw [← hs]
                        exact h3
                      case measure => simp only [intOf]; omega
                    · have e1 : (τ1.roleOf k x != 2) = true := by simp [hro]
                      have HRO := hid hro
                      clear hro kh
                      go_wp2_with fail
                      go_roundw
                      case rel =>
                        refine ⟨k + 1, by omega, by go_num, hid ⟨?_, KK.out.mG (k * 16 + 14) (.bool false)⟩⟩
                        have hs := calmTo_set τ1 HX3.out
                        have hp : calmP τ1 k x = { x with ag := false } := by simp [calmP, HRO.out]
                        rw [hp] at hs
                        have h3 := HK.out.put (x' := { x with ag := false }) 14 (by omega) (v := .bool false) HU3.out rfl
                        rw [hs] at h3
                        exact h3
                      case measure => simp only [intOf]; omega
                  · obtain rfl : k = τ1.P.length := by omega
                    have hr := HR3.out.1
                    rw [calmTo_all, ← HCH.out] at hr
                    have HRR := hid hr
                    clear hr
                    go_wp2_with fail
                    go_end0
                    exact ⟨rfl, HRR.out, HR3.out.2⟩
end Go.Proofs.Ytbbodecdijankaa
