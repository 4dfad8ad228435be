/-
  Graphs: the document's word on whether there may be such a graph (May). Conditions: the rows lie so; numbers are in their types.
-/
import Derived.Test.YthnkeppkhdceoaaRMayK
namespace Go.Proofs.Ythnkeppkhdceoaa
open Go.RowKit
set_option linter.unusedVariables false
set_option linter.unusedSimpArgs false
set_option maxRecDepth 8000

set_option maxHeartbeats 16000000 in
theorem rmay_any {w : World} {BI n ci nl cl : Nat} {pi pl : Option Addr} {ids : List Int} {L : List Lk}
    (hI : WV w BI 1 pi n ci (idc ids)) (hL : LSl w.heap.size w pl cl L) (hnl : L.length = nl) (hl : nl ≤ 50) (hn : n ≤ 1000) (ht : InT ids L) :
    Calls Try.prog 9 #[.slice pi n ci, .slice pl nl cl] w fun e w' => e = .returned (.bool (mayB ids L)) ∧ Keeps Nil w w' := by
  have hlen : ids.length = n := by have := hI.1; simpa [idc] using this
  have HT := hid ht
  have HI := hid hI
  have HL := hid hL
  clear hI hL ht
  by_cases h1 : n < 1
  · go_enter Try.func9, Try.ntmps9
    go_wp2
    go_ret
    exact ⟨by rw [mayB_false (fun h => by have := h.n1; omega)]; rfl, Keeps.refl Nil w⟩
  by_cases h8 : 8 < n
  · go_enter Try.func9, Try.ntmps9
    go_wp2
    go_ret
    exact ⟨by rw [mayB_false (fun h => by have := h.n8; omega)]; rfl, Keeps.refl Nil w⟩
  have hd1 : decide ((n : Int) < 1) = false := by simp; omega
  have hd8 : decide (8 < (n : Int)) = false := by simp; omega
  have hnc : n ≤ ci := HI.out.2.1
  go_enter Try.func9, Try.ntmps9
  go_wp2
  go_loopw [5] (fun s wr => ∃ i : Nat, i ≤ n ∧ s = .int .i64 i ∧ Hid (∀ (a b : Nat) (x y : Int), b < a → a < i → ids[a]? = some x → ids[b]? = some y → x ≠ y) ∧ Hid (Keeps Nil w wr)) (fun s _ => n - (intOf s).toNat)
  case atStart => exact ⟨0, Nat.zero_le _, rfl, hid (fun a b x y _ h => by omega), hid (Keeps.refl _ _)⟩
  case round =>
    obtain ⟨i, hi, rfl, HD, HK⟩ := hrel
    by_cases hin : i < n
    · obtain ⟨x, hx⟩ : ∃ x, ids[i]? = some x := ⟨_, List.getElem?_eq_getElem (by omega)⟩
      obtain ⟨_, _, g, off, hp, _, hgl, hc⟩ := HI.out.id hx
      subst hp
      have HX := hid hx
      have HCX := hid hc
      clear hx hc
      go_wp2
      go_loopw [6] (fun s wz => ∃ k : Nat, k ≤ i ∧ s = .int .i64 k ∧ Hid (∀ (b : Nat) (y : Int), b < k → ids[b]? = some y → x ≠ y) ∧ Hid (Keeps Nil w wz)) (fun s _ => i - (intOf s).toNat)
      case atStart => exact ⟨0, Nat.zero_le _, rfl, hid (fun b y h => by omega), HK⟩
      case round =>
        obtain ⟨k, hk, rfl, HD2, HK2⟩ := hrel
        by_cases hki : k < i
        · obtain ⟨y, hy⟩ : ∃ y, ids[k]? = some y := ⟨_, List.getElem?_eq_getElem (by omega)⟩
          obtain ⟨_, _, g', off', hp', _, _, hc'⟩ := HI.out.id hy
          injection hp' with hp'
          injection hp' with e1 e2
          subst e1 e2
          have hgw : g < wr.heap.size := Nat.lt_of_lt_of_le hgl HK2.out.size
          have c0 := (HK2.out.cell (p := ⟨g, off + i, Option.none⟩) hgl (fun e => e)).trans HCX.out
          have c1 := (HK2.out.cell (p := ⟨g, off + k, Option.none⟩) hgl (fun e => e)).trans hc'
          have hkn : k < n := by omega
          have HY := hid hy
          clear hy hc'
          by_cases hxy : x = y
          · have HF := hid (show ¬ MayG ids L from fun h => (nodup_iff.1 h.once) i k x y hki HX.out HY.out hxy)
            have hb : (x == y) = true := by simp [hxy]
            clear hxy
            go_wp2
            go_quiet (fail)
            go_wp2
            go_ret
            exact ⟨by rw [mayB_false HF.out]; rfl, HK2.out.thenNil (Keeps.drewN _ _)⟩
          · have hb : (x == y) = false := by simp [hxy]
            have HXY := hid hxy
            clear hxy
            go_wp2
            go_quiet (fail)
            go_wp2
            go_roundw
            case rel => exact ⟨k + 1, by omega, by go_num, hid (fun b z hb hz => by
                by_cases e : b = k
                · subst e; rw [HY.out] at hz; cases hz; exact HXY.out
                · exact HD2.out b z (by omega) hz), hid (HK2.out.thenNil (Keeps.drewN _ _))⟩
            case measure => simp [intOf]; omega
        · have hki' : k = i := by omega
          subst hki'
          go_wp2
          go_roundw
          case rel => exact ⟨k + 1, by omega, by go_num, hid (fun a b z y hab ha hz hy => by
              by_cases e : a = k
              · subst e; rw [HX.out] at hz; cases hz; exact HD2.out b y hab hy
              · exact HD.out a b z y hab (by omega) hz hy), HK2⟩
          case measure => simp [intOf]; omega
    · have HND := hid (show ids.Nodup from nodup_iff.2 (fun a b x y hab hx hy => HD.out a b x y hab (by have := (List.getElem?_eq_some_iff.1 hx).1; omega) hx hy))
      clear HD
      go_wp2
      obtain ⟨i0, hi0, hz0, hz1, hz2⟩ := info_parts info55
      have HLE := hid (ends_len L)
      go_loopw [7, 8] (fun s7 s8 wq => ∃ (k : Nat) (p7 : Option Addr) (c7 : Nat), k ≤ nl ∧ s8 = .int .i64 k ∧ s7 = .slice p7 (2 * k) c7 ∧ Hid (∀ e ∈ (ends L).take (2 * k), okE n e) ∧ Hid (wq.ownsRow w.heap.size 55 3 (.slice p7 (2 * k) c7) (2 * k) (flatE ((ends L).take (2 * k)))) ∧ Hid (Keeps Nil w wq)) (fun _ s8 _ => nl - (intOf s8).toNat)
      case atStart => exact ⟨0, Option.none, 0, Nat.zero_le _, rfl, rfl, hid (by simp), hid (World.ownsRow_nil _ _ _ _), HK⟩
      case round =>
        obtain ⟨k, p7, c7, hk, rfl, rfl, HOK, HOWN, HKQ⟩ := hrel
        by_cases hkl : k < nl
        · obtain ⟨x, hx⟩ : ∃ x, L[k]? = some x := ⟨_, List.getElem?_eq_getElem (by omega)⟩
          obtain ⟨lb, lo, hlp, hlb, hlr⟩ := HL.out.2 (fun e => by rw [e] at hx; simp at hx)
          subst hlp
          have hncl : nl ≤ cl := by have := HL.out.1; omega
          have HCX := hid (show ∀ X, Keeps Nil wr X → lb < X.heap.size ∧ X.cell? ⟨lb, lo + k * 7, Option.none⟩ = some (.int .i64 x.a.b) ∧ X.cell? ⟨lb, lo + k * 7 + 1, Option.none⟩ = some (.int .u8 x.a.p) ∧ X.cell? ⟨lb, lo + k * 7 + 2, Option.none⟩ = some (.int .u32 x.a.c) ∧ X.cell? ⟨lb, lo + k * 7 + 3, Option.none⟩ = some (.int .i64 x.z.b) ∧ X.cell? ⟨lb, lo + k * 7 + 4, Option.none⟩ = some (.int .u8 x.z.p) ∧ X.cell? ⟨lb, lo + k * 7 + 5, Option.none⟩ = some (.int .u32 x.z.c) from fun X kX => by
            obtain ⟨c0, c1, c2, c3, c4, c5, c6⟩ := (hlr.below ((HKQ.out.trans kX).below (fun _ _ e => e)) hlb) k x hx
            exact ⟨Nat.lt_of_lt_of_le hlb (HKQ.out.trans kX).size, c0, c1, c2, c3, c4, c5⟩)
          have kk := Keeps.refl Nil wr
          obtain ⟨hlx, c0, c1, c2, c3, c4, c5⟩ := HCX.out _ kk
          have hEA := ends_at hx
          have HEA := hid hEA
          have HX := hid hx
          have hma := hid (List.mem_of_getElem? hEA.1)
          have hmz := hid (List.mem_of_getElem? hEA.2)
          clear hx hlr hEA
          by_cases hoka : okE n x.a
          · have da : decide (okE n ⟨x.a.b, x.a.p, x.a.c⟩) = true := decide_eq_true hoka
            by_cases hokz : okE n x.z
            · have dz : decide (okE n ⟨x.z.b, x.z.p, x.z.c⟩) = true := decide_eq_true hokz
              have HOA := hid hoka
              have HOZ := hid hokz
              clear hoka hokz
              go_wp2_with (go_at_call 16; refine (end_any _ _ _ _ _).mono ?_; rintro e w1 ⟨rfl, k1⟩; replace kk := kk.trans k1; obtain ⟨hlx, c0, c1, c2, c3, c4, c5⟩ := HCX.out _ kk)
              have HOWN6 := hid (ownsRow_keep HOWN.out kk.drew (fun _ _ e => e))
              have hw6 : w.heap.size ≤ w1.drew.heap.size := Nat.le_trans (Keeps.size (HKQ.out.trans kk)) (Nat.le_refl _)
              have HS17 := hid (show ∀ W', Keeps (fun g => w.heap.size ≤ g) w1.drew W' → (fun W => W.cell? ⟨lb, lo + k * 7, Option.none⟩ = some (.int .i64 x.a.b) ∧ W.cell? ⟨lb, lo + k * 7 + 1, Option.none⟩ = some (.int .u8 x.a.p) ∧ W.cell? ⟨lb, lo + k * 7 + 2, Option.none⟩ = some (.int .u32 x.a.c) ∧ W.cell? ⟨lb, lo + k * 7 + 3, Option.none⟩ = some (.int .i64 x.z.b) ∧ W.cell? ⟨lb, lo + k * 7 + 4, Option.none⟩ = some (.int .u8 x.z.p) ∧ W.cell? ⟨lb, lo + k * 7 + 5, Option.none⟩ = some (.int .u32 x.z.c)) W' from fun W' k' => by
                have hl : lb < w1.drew.heap.size := hlx
                have hc : ∀ q, W'.cell? ⟨lb, q, Option.none⟩ = w1.cell? ⟨lb, q, Option.none⟩ := fun q => k'.cell (p := ⟨lb, q, Option.none⟩) hl (fun e => by have e : w.heap.size ≤ lb := e; omega)
                exact ⟨(hc _).trans c0, (hc _).trans c1, (hc _).trans c2, (hc _).trans c3, (hc _).trans c4, (hc _).trans c5⟩)
              refine wp_region_held_drew (S := (fun W => W.cell? ⟨lb, lo + k * 7, Option.none⟩ = some (.int .i64 x.a.b) ∧ W.cell? ⟨lb, lo + k * 7 + 1, Option.none⟩ = some (.int .u8 x.a.p) ∧ W.cell? ⟨lb, lo + k * 7 + 2, Option.none⟩ = some (.int .u32 x.a.c) ∧ W.cell? ⟨lb, lo + k * 7 + 3, Option.none⟩ = some (.int .i64 x.z.b) ∧ W.cell? ⟨lb, lo + k * 7 + 4, Option.none⟩ = some (.int .u8 x.z.p) ∧ W.cell? ⟨lb, lo + k * 7 + 5, Option.none⟩ = some (.int .u32 x.z.c))) (by kernel_rfl) ?_ (fun hHeld => ?_)
              · (try dsimp only); exact ⟨c0, c1, c2, c3, c4, c5⟩
              obtain ⟨W6, hW6⟩ : ∃ W6, w1.drew = W6 := ⟨_, rfl⟩
              rw [hW6] at HOWN6 hw6 HS17 hHeld ⊢
              have kk6 : Keeps Nil _ W6 := hW6 ▸ kk.drew
              clear hW6
              refine wpAnyH_take (i := 0) (v := ?_) rfl (by kernel_rfl) (by kernel_rfl) (by kernel_rfl) (fun _ _ _ h => h) (Or.inl ⟨by rfl, ?_⟩) (by assumption) ?_
              rotate_left
              · (intro W hSw; (try dsimp only at hSw); go_simp <;> with_reducible rfl)
              try simp only [Act.put, List.setIfInBounds_toArray, List.set_cons_zero, List.set_cons_succ, List.getElem_toArray, List.getElem_cons_zero, List.getElem_cons_succ]
              refine wpAnyH_take (i := 1) (v := ?_) rfl (by kernel_rfl) (by kernel_rfl) (by kernel_rfl) (fun _ _ _ h => h) (Or.inl ⟨by rfl, ?_⟩) (by assumption) ?_
              rotate_left
              · (intro W hSw; (try dsimp only at hSw); go_simp <;> with_reducible rfl)
              try simp only [Act.put, List.setIfInBounds_toArray, List.set_cons_zero, List.set_cons_succ, List.getElem_toArray, List.getElem_cons_zero, List.getElem_cons_succ]
              refine wpAnyH_take (i := 2) (v := ?_) rfl (by kernel_rfl) (by kernel_rfl) (by kernel_rfl) (fun _ _ _ h => h) (Or.inl ⟨by rfl, ?_⟩) (by assumption) ?_
              rotate_left
              · (intro W hSw; (try dsimp only at hSw); go_simp <;> with_reducible rfl)
              try simp only [Act.put, List.setIfInBounds_toArray, List.set_cons_zero, List.set_cons_succ, List.getElem_toArray, List.getElem_cons_zero, List.getElem_cons_succ]
              refine wpAnyH_take (i := 3) (v := ?_) rfl (by kernel_rfl) (by kernel_rfl) (by kernel_rfl) (fun _ _ _ h => h) (Or.inl ⟨by rfl, ?_⟩) (by assumption) ?_
              rotate_left
              · (intro W hSw; (try dsimp only at hSw); go_simp <;> with_reducible rfl)
              try simp only [Act.put, List.setIfInBounds_toArray, List.set_cons_zero, List.set_cons_succ, List.getElem_toArray, List.getElem_cons_zero, List.getElem_cons_succ]
              refine wpAnyH_take (i := 4) (v := ?_) rfl (by kernel_rfl) (by kernel_rfl) (by kernel_rfl) (fun _ _ _ h => h) (Or.inl ⟨by rfl, ?_⟩) (by assumption) ?_
              rotate_left
              · (intro W hSw; (try dsimp only at hSw); go_simp <;> with_reducible rfl)
              try simp only [Act.put, List.setIfInBounds_toArray, List.set_cons_zero, List.set_cons_succ, List.getElem_toArray, List.getElem_cons_zero, List.getElem_cons_succ]
              refine wpAnyH_take (i := 5) (v := ?_) rfl (by kernel_rfl) (by kernel_rfl) (by kernel_rfl) (fun _ _ _ h => h) (Or.inl ⟨by rfl, ?_⟩) (by assumption) ?_
              rotate_left
              · (intro W hSw; (try dsimp only at hSw); go_simp <;> with_reducible rfl)
              try simp only [Act.put, List.setIfInBounds_toArray, List.set_cons_zero, List.set_cons_succ, List.getElem_toArray, List.getElem_cons_zero, List.getElem_cons_succ]
              refine wpAnyH_take (i := 8) (v := ?_) rfl (by kernel_rfl) (by kernel_rfl) (by kernel_rfl) (fun _ _ _ h => h) (Or.inl ⟨by rfl, ?_⟩) (by assumption) ?_
              rotate_left
              · (intro W hSw; (try dsimp only at hSw); go_simp <;> with_reducible rfl)
              try simp only [Act.put, List.setIfInBounds_toArray, List.set_cons_zero, List.set_cons_succ, List.getElem_toArray, List.getElem_cons_zero, List.getElem_cons_succ]
              refine wpAnyH_take (i := 9) (v := ?_) rfl (by kernel_rfl) (by kernel_rfl) (by kernel_rfl) (fun _ _ _ h => h) (Or.inl ⟨by rfl, ?_⟩) (by assumption) ?_
              rotate_left
              · (intro W hSw; (try dsimp only at hSw); go_simp <;> with_reducible rfl)
              try simp only [Act.put, List.setIfInBounds_toArray, List.set_cons_zero, List.set_cons_succ, List.getElem_toArray, List.getElem_cons_zero, List.getElem_cons_succ]
              refine wpAnyH_take (i := 10) (v := ?_) rfl (by kernel_rfl) (by kernel_rfl) (by kernel_rfl) (fun _ _ _ h => h) (Or.inl ⟨by rfl, ?_⟩) (by assumption) ?_
              rotate_left
              · (intro W hSw; (try dsimp only at hSw); go_simp <;> with_reducible rfl)
              try simp only [Act.put, List.setIfInBounds_toArray, List.set_cons_zero, List.set_cons_succ, List.getElem_toArray, List.getElem_cons_zero, List.getElem_cons_succ]
              refine wpAnyH_take (i := 11) (v := ?_) rfl (by kernel_rfl) (by kernel_rfl) (by kernel_rfl) (fun _ _ _ h => h) (Or.inl ⟨by rfl, ?_⟩) (by assumption) ?_
              rotate_left
              · (intro W hSw; (try dsimp only at hSw); go_simp <;> with_reducible rfl)
              try simp only [Act.put, List.setIfInBounds_toArray, List.set_cons_zero, List.set_cons_succ, List.getElem_toArray, List.getElem_cons_zero, List.getElem_cons_succ]
              refine wpAnyH_take (i := 12) (v := ?_) rfl (by kernel_rfl) (by kernel_rfl) (by kernel_rfl) (fun _ _ _ h => h) (Or.inl ⟨by rfl, ?_⟩) (by assumption) ?_
              rotate_left
              · (intro W hSw; (try dsimp only at hSw); go_simp <;> with_reducible rfl)
              try simp only [Act.put, List.setIfInBounds_toArray, List.set_cons_zero, List.set_cons_succ, List.getElem_toArray, List.getElem_cons_zero, List.getElem_cons_succ]
              refine wpAnyH_ready (rs := [6, 13]) (by kernel_rfl) (by simp) ?_
              refine AllReadyH.cons rfl (fun K hK => ?_) (AllReadyH.cons rfl (fun K hK => ?_) AllReadyH.nil)
              · try simp only [Act.put, List.setIfInBounds_toArray, List.set_cons_zero, List.set_cons_succ, List.getElem_toArray, List.getElem_cons_zero, List.getElem_cons_succ]
                go_simp
                refine hK.out _ _ (HS17.out _ ((Keeps.refl _ W6).alloc (.cells #[.int .i64 x.a.b, .int .u8 x.a.p, .int .u32 x.a.c] 55 (0, 0)))) (fun hHeld => ?_)
                clear hK K
                try simp only [Act.put, List.setIfInBounds_toArray, List.set_cons_zero, List.set_cons_succ, List.getElem_toArray, List.getElem_cons_zero, List.getElem_cons_succ]
                refine wpAnyH_ready (rs := [7, 13]) (by kernel_rfl) (by simp) ?_
                refine AllReadyH.cons rfl (fun K hK => ?_) (AllReadyH.cons rfl (fun K hK => ?_) AllReadyH.nil)
                · try simp only [Act.put, List.setIfInBounds_toArray, List.set_cons_zero, List.set_cons_succ, List.getElem_toArray, List.getElem_cons_zero, List.getElem_cons_succ]
                  have hba := alloc_block W6 (.cells #[.int .i64 x.a.b, .int .u8 x.a.p, .int .u32 x.a.c] 55 (0, 0))
                  have hs7 : w.heap.size ≤ (W6.alloc (.cells #[.int .i64 x.a.b, .int .u8 x.a.p, .int .u32 x.a.c] 55 (0, 0))).heap.size := by simp; omega
                  have HOWNX := ownsRow_keep HOWN6.out ((Keeps.refl Nil W6).alloc (.cells #[.int .i64 x.a.b, .int .u8 x.a.p, .int .u32 x.a.c] 55 (0, 0))) (fun _ _ e => e)
                  rw [if_pos (by rfl)]
                  refine wp_append_lies _ (.tmp 65) (.tmp 71) 62 ?_ w.heap.size 55 i0 (.agg #[.int .i64 0, .int .u8 0, .int .u32 0]) 3 16 Try.underlying62 hi0 hz0 hz1 hz2 ?_ ?_ (.slice p7 (2 * k) c7) (2 * k) (flatE ((ends L).take (2 * k))) ?_ ?_ ⟨W6.heap.size, 0, Option.none⟩ 1 1 [.int .i64 x.a.b, .int .u8 x.a.p, .int .u32 x.a.c] ?_ ?_ ?_ ?_ ?_ ?_ ?_ ?_ _ rfl ?_
                  · rfl
                  · rfl
                  · decide
                  · rfl
                  · exact HOWNX
                  · rfl
                  · rfl
                  · exact (World.news_of_block (cs := #[.int .i64 x.a.b, .int .u8 x.a.p, .int .u32 x.a.c]) (t := 55) (fr := (0, 0)) hba)
                  · simp [Value.oneCell']
                  · decide
                  · unfold maxLen; omega
                  · omega
                  · omega
                  intro g7 cap7 w7 own7 hgrow7 hat7 hlt7
                  have k7 : Keeps (fun g => w.heap.size ≤ g) W6 w7 := ((Keeps.refl _ W6).alloc (.cells #[.int .i64 x.a.b, .int .u8 x.a.p, .int .u32 x.a.c] 55 (0, 0))).grown hgrow7 (fun g e _ => by have := own_ge HOWN6.out e; exact this)
                  refine hK.out _ _ (HS17.out _ k7) (fun hHeld => ?_)
                  clear hK K
                  try simp only [Act.put, List.setIfInBounds_toArray, List.set_cons_zero, List.set_cons_succ, List.getElem_toArray, List.getElem_cons_zero, List.getElem_cons_succ]
                  refine wpAnyH_ready (rs := [13]) (by kernel_rfl) (by simp) ?_
                  refine AllReadyH.cons rfl (fun K hK => ?_) AllReadyH.nil
                  try simp only [Act.put, List.setIfInBounds_toArray, List.set_cons_zero, List.set_cons_succ, List.getElem_toArray, List.getElem_cons_zero, List.getElem_cons_succ]
                  go_simp
                  refine hK.out _ _ (HS17.out _ (k7.alloc _)) (fun hHeld => ?_)
                  clear hK K
                  try simp only [Act.put, List.setIfInBounds_toArray, List.set_cons_zero, List.set_cons_succ, List.getElem_toArray, List.getElem_cons_zero, List.getElem_cons_succ]
                  refine wpAnyH_ready (rs := [14]) (by kernel_rfl) (by simp) ?_
                  refine AllReadyH.cons rfl (fun K hK => ?_) AllReadyH.nil
                  try simp only [Act.put, List.setIfInBounds_toArray, List.set_cons_zero, List.set_cons_succ, List.getElem_toArray, List.getElem_cons_zero, List.getElem_cons_succ]
                  have hbz := alloc_block w7 (.cells #[.int .i64 x.z.b, .int .u8 x.z.p, .int .u32 x.z.c] 55 (0, 0))
                  have hs8 : w.heap.size ≤ (w7.alloc (.cells #[.int .i64 x.z.b, .int .u8 x.z.p, .int .u32 x.z.c] 55 (0, 0))).heap.size := by have := k7.size; simp; omega
                  have own7' := ownsRow_keep own7 ((Keeps.refl Nil w7).alloc (.cells #[.int .i64 x.z.b, .int .u8 x.z.p, .int .u32 x.z.c] 55 (0, 0))) (fun _ _ e => e)
                  rw [if_pos (by rfl)]
                  refine wp_append_lies _ (.tmp 72) (.tmp 78) 62 ?_ w.heap.size 55 i0 (.agg #[.int .i64 0, .int .u8 0, .int .u32 0]) 3 16 Try.underlying62 hi0 hz0 hz1 hz2 ?_ ?_ (.slice (some ⟨g7, 0, Option.none⟩) (2 * k + 1) cap7) (2 * k + 1) ((flatE ((ends L).take (2 * k))) ++ [.int .i64 x.a.b, .int .u8 x.a.p, .int .u32 x.a.c]) ?_ ?_ ⟨w7.heap.size, 0, Option.none⟩ 1 1 [.int .i64 x.z.b, .int .u8 x.z.p, .int .u32 x.z.c] ?_ ?_ ?_ ?_ ?_ ?_ ?_ ?_ _ rfl ?_
                  · rfl
                  · rfl
                  · decide
                  · rfl
                  · exact own7'
                  · rfl
                  · rfl
                  · exact (World.news_of_block (cs := #[.int .i64 x.z.b, .int .u8 x.z.p, .int .u32 x.z.c]) (t := 55) (fr := (0, 0)) hbz)
                  · simp [Value.oneCell']
                  · decide
                  · unfold maxLen; omega
                  · omega
                  · omega
                  intro g8 cap8 w8 own8 hgrow8 hat8 hlt8
                  have k8 : Keeps (fun g => w.heap.size ≤ g) W6 w8 := (k7.alloc (.cells #[.int .i64 x.z.b, .int .u8 x.z.p, .int .u32 x.z.c] 55 (0, 0))).grown hgrow8 (fun g e _ => by have := own_ge own7 e; exact this)
                  refine hK.out _ _ (HS17.out _ k8) (fun hHeld => ?_)
                  clear hK K
                  try simp only [Act.put, List.setIfInBounds_toArray, List.set_cons_zero, List.set_cons_succ, List.getElem_toArray, List.getElem_cons_zero, List.getElem_cons_succ]
                  refine wpAnyH_take (i := 15) (v := ?_) rfl (by kernel_rfl) (by kernel_rfl) (by kernel_rfl) (fun _ _ _ h => h) (Or.inl ⟨by rfl, ?_⟩) (by assumption) ?_
                  rotate_left
                  · (intro W hSw; (try dsimp only at hSw); go_simp <;> with_reducible rfl)
                  try simp only [Act.put, List.setIfInBounds_toArray, List.set_cons_zero, List.set_cons_succ, List.getElem_toArray, List.getElem_cons_zero, List.getElem_cons_succ]
                  refine wpAnyH_done (by kernel_rfl) ?_ _
                  go_wp2
                  have hown9 := hid own8
                  have k9 := hid k8
                  go_roundw
                  case rel => exact ⟨k + 1, _, _, by omega, by go_num, rfl, hid (fun e he => by
                      rw [show 2 * (k + 1) = 2 * k + 1 + 1 from rfl, dist_take_succ HEA.out.2, dist_take_succ HEA.out.1] at he
                      rcases List.mem_append.1 he with h | h
                      · rcases List.mem_append.1 h with h | h
                        · exact HOK.out e h
                        · simp at h; subst h; exact HOA.out
                      · simp at h; subst h; exact HOZ.out), hid (by
                      rw [show 2 * (k + 1) = 2 * k + 1 + 1 from rfl, dist_take_succ HEA.out.2, dist_take_succ HEA.out.1, flatE_append, flatE_append]
                      simpa [flatE] using hown9.out), hid ((HKQ.out.trans kk6).trans' k9.out (fun y hy e => by have e : w.heap.size ≤ y := e; omega))⟩
                  case measure => simp [intOf]; omega
                · try simp only [Act.put, List.setIfInBounds_toArray, List.set_cons_zero, List.set_cons_succ, List.getElem_toArray, List.getElem_cons_zero, List.getElem_cons_succ]
                  go_simp
                  refine hK.out _ _ (HS17.out _ (((Keeps.refl _ W6).alloc (.cells #[.int .i64 x.a.b, .int .u8 x.a.p, .int .u32 x.a.c] 55 (0, 0))).alloc (.cells #[.int .i64 x.z.b, .int .u8 x.z.p, .int .u32 x.z.c] 55 (0, 0)))) (fun hHeld => ?_)
                  clear hK K
                  try simp only [Act.put, List.setIfInBounds_toArray, List.set_cons_zero, List.set_cons_succ, List.getElem_toArray, List.getElem_cons_zero, List.getElem_cons_succ]
                  refine wpAnyH_ready (rs := [7]) (by kernel_rfl) (by simp) ?_
                  refine AllReadyH.cons rfl (fun K hK => ?_) AllReadyH.nil
                  try simp only [Act.put, List.setIfInBounds_toArray, List.set_cons_zero, List.set_cons_succ, List.getElem_toArray, List.getElem_cons_zero, List.getElem_cons_succ]
                  have hba := alloc_other (alloc_block W6 (.cells #[.int .i64 x.a.b, .int .u8 x.a.p, .int .u32 x.a.c] 55 (0, 0))) (.cells #[.int .i64 x.z.b, .int .u8 x.z.p, .int .u32 x.z.c] 55 (0, 0))
                  have hbz : ((W6.alloc (.cells #[.int .i64 x.a.b, .int .u8 x.a.p, .int .u32 x.a.c] 55 (0, 0))).alloc (.cells #[.int .i64 x.z.b, .int .u8 x.z.p, .int .u32 x.z.c] 55 (0, 0))).heap[W6.heap.size + 1]? = _ := (two_allocs W6 (.cells #[.int .i64 x.a.b, .int .u8 x.a.p, .int .u32 x.a.c] 55 (0, 0)) (.cells #[.int .i64 x.z.b, .int .u8 x.z.p, .int .u32 x.z.c] 55 (0, 0))).2
                  have hs7 : w.heap.size ≤ ((W6.alloc (.cells #[.int .i64 x.a.b, .int .u8 x.a.p, .int .u32 x.a.c] 55 (0, 0))).alloc (.cells #[.int .i64 x.z.b, .int .u8 x.z.p, .int .u32 x.z.c] 55 (0, 0))).heap.size := by simp; omega
                  have HOWNX := ownsRow_keep HOWN6.out (((Keeps.refl Nil W6).alloc (.cells #[.int .i64 x.a.b, .int .u8 x.a.p, .int .u32 x.a.c] 55 (0, 0))).alloc (.cells #[.int .i64 x.z.b, .int .u8 x.z.p, .int .u32 x.z.c] 55 (0, 0))) (fun _ _ e => e)
                  rw [if_pos (by rfl)]
                  refine wp_append_lies _ (.tmp 65) (.tmp 71) 62 ?_ w.heap.size 55 i0 (.agg #[.int .i64 0, .int .u8 0, .int .u32 0]) 3 16 Try.underlying62 hi0 hz0 hz1 hz2 ?_ ?_ (.slice p7 (2 * k) c7) (2 * k) (flatE ((ends L).take (2 * k))) ?_ ?_ ⟨W6.heap.size, 0, Option.none⟩ 1 1 [.int .i64 x.a.b, .int .u8 x.a.p, .int .u32 x.a.c] ?_ ?_ ?_ ?_ ?_ ?_ ?_ ?_ _ rfl ?_
                  · rfl
                  · rfl
                  · decide
                  · rfl
                  · exact HOWNX
                  · rfl
                  · rfl
                  · exact (World.news_of_block (cs := #[.int .i64 x.a.b, .int .u8 x.a.p, .int .u32 x.a.c]) (t := 55) (fr := (0, 0)) hba)
                  · simp [Value.oneCell']
                  · decide
                  · unfold maxLen; omega
                  · omega
                  · omega
                  intro g7 cap7 w7 own7 hgrow7 hat7 hlt7
                  have k7 : Keeps (fun g => w.heap.size ≤ g) W6 w7 := (((Keeps.refl _ W6).alloc (.cells #[.int .i64 x.a.b, .int .u8 x.a.p, .int .u32 x.a.c] 55 (0, 0))).alloc (.cells #[.int .i64 x.z.b, .int .u8 x.z.p, .int .u32 x.z.c] 55 (0, 0))).grown hgrow7 (fun g e _ => by have := own_ge HOWN6.out e; exact this)
                  have hbz7 := (hgrow7.block _ (lt_of_block hbz) (fun e => by have h1 := HOWN6.out.lt _ e.symm; omega)).trans hbz
                  refine hK.out _ _ (HS17.out _ k7) (fun hHeld => ?_)
                  clear hK K
                  try simp only [Act.put, List.setIfInBounds_toArray, List.set_cons_zero, List.set_cons_succ, List.getElem_toArray, List.getElem_cons_zero, List.getElem_cons_succ]
                  refine wpAnyH_ready (rs := [14]) (by kernel_rfl) (by simp) ?_
                  refine AllReadyH.cons rfl (fun K hK => ?_) AllReadyH.nil
                  try simp only [Act.put, List.setIfInBounds_toArray, List.set_cons_zero, List.set_cons_succ, List.getElem_toArray, List.getElem_cons_zero, List.getElem_cons_succ]
                  have hs8 : w.heap.size ≤ w7.heap.size := by have := k7.size; omega
                  rw [if_pos (by rfl)]
                  refine wp_append_lies _ (.tmp 72) (.tmp 78) 62 ?_ w.heap.size 55 i0 (.agg #[.int .i64 0, .int .u8 0, .int .u32 0]) 3 16 Try.underlying62 hi0 hz0 hz1 hz2 ?_ ?_ (.slice (some ⟨g7, 0, Option.none⟩) (2 * k + 1) cap7) (2 * k + 1) ((flatE ((ends L).take (2 * k))) ++ [.int .i64 x.a.b, .int .u8 x.a.p, .int .u32 x.a.c]) ?_ ?_ ⟨(W6.heap.size + 1), 0, Option.none⟩ 1 1 [.int .i64 x.z.b, .int .u8 x.z.p, .int .u32 x.z.c] ?_ ?_ ?_ ?_ ?_ ?_ ?_ ?_ _ rfl ?_
                  · rfl
                  · rfl
                  · decide
                  · rfl
                  · exact own7
                  · rfl
                  · rfl
                  · exact (World.news_of_block (cs := #[.int .i64 x.z.b, .int .u8 x.z.p, .int .u32 x.z.c]) (t := 55) (fr := (0, 0)) hbz7)
                  · simp [Value.oneCell']
                  · decide
                  · unfold maxLen; omega
                  · omega
                  · omega
                  intro g8 cap8 w8 own8 hgrow8 hat8 hlt8
                  have k8 : Keeps (fun g => w.heap.size ≤ g) W6 w8 := (k7).grown hgrow8 (fun g e _ => by have := own_ge own7 e; exact this)
                  refine hK.out _ _ (HS17.out _ k8) (fun hHeld => ?_)
                  clear hK K
                  try simp only [Act.put, List.setIfInBounds_toArray, List.set_cons_zero, List.set_cons_succ, List.getElem_toArray, List.getElem_cons_zero, List.getElem_cons_succ]
                  refine wpAnyH_take (i := 15) (v := ?_) rfl (by kernel_rfl) (by kernel_rfl) (by kernel_rfl) (fun _ _ _ h => h) (Or.inl ⟨by rfl, ?_⟩) (by assumption) ?_
                  rotate_left
                  · (intro W hSw; (try dsimp only at hSw); go_simp <;> with_reducible rfl)
                  try simp only [Act.put, List.setIfInBounds_toArray, List.set_cons_zero, List.set_cons_succ, List.getElem_toArray, List.getElem_cons_zero, List.getElem_cons_succ]
                  refine wpAnyH_done (by kernel_rfl) ?_ _
                  go_wp2
                  have hown9 := hid own8
                  have k9 := hid k8
                  go_roundw
                  case rel => exact ⟨k + 1, _, _, by omega, by go_num, rfl, hid (fun e he => by
                      rw [show 2 * (k + 1) = 2 * k + 1 + 1 from rfl, dist_take_succ HEA.out.2, dist_take_succ HEA.out.1] at he
                      rcases List.mem_append.1 he with h | h
                      · rcases List.mem_append.1 h with h | h
                        · exact HOK.out e h
                        · simp at h; subst h; exact HOA.out
                      · simp at h; subst h; exact HOZ.out), hid (by
                      rw [show 2 * (k + 1) = 2 * k + 1 + 1 from rfl, dist_take_succ HEA.out.2, dist_take_succ HEA.out.1, flatE_append, flatE_append]
                      simpa [flatE] using hown9.out), hid ((HKQ.out.trans kk6).trans' k9.out (fun y hy e => by have e : w.heap.size ≤ y := e; omega))⟩
                  case measure => simp [intOf]; omega
              · try simp only [Act.put, List.setIfInBounds_toArray, List.set_cons_zero, List.set_cons_succ, List.getElem_toArray, List.getElem_cons_zero, List.getElem_cons_succ]
                go_simp
                refine hK.out _ _ (HS17.out _ ((Keeps.refl _ W6).alloc (.cells #[.int .i64 x.z.b, .int .u8 x.z.p, .int .u32 x.z.c] 55 (0, 0)))) (fun hHeld => ?_)
                clear hK K
                try simp only [Act.put, List.setIfInBounds_toArray, List.set_cons_zero, List.set_cons_succ, List.getElem_toArray, List.getElem_cons_zero, List.getElem_cons_succ]
                refine wpAnyH_ready (rs := [6]) (by kernel_rfl) (by simp) ?_
                refine AllReadyH.cons rfl (fun K hK => ?_) AllReadyH.nil
                try simp only [Act.put, List.setIfInBounds_toArray, List.set_cons_zero, List.set_cons_succ, List.getElem_toArray, List.getElem_cons_zero, List.getElem_cons_succ]
                go_simp
                refine hK.out _ _ (HS17.out _ (((Keeps.refl _ W6).alloc (.cells #[.int .i64 x.z.b, .int .u8 x.z.p, .int .u32 x.z.c] 55 (0, 0))).alloc (.cells #[.int .i64 x.a.b, .int .u8 x.a.p, .int .u32 x.a.c] 55 (0, 0)))) (fun hHeld => ?_)
                clear hK K
                try simp only [Act.put, List.setIfInBounds_toArray, List.set_cons_zero, List.set_cons_succ, List.getElem_toArray, List.getElem_cons_zero, List.getElem_cons_succ]
                refine wpAnyH_ready (rs := [7]) (by kernel_rfl) (by simp) ?_
                refine AllReadyH.cons rfl (fun K hK => ?_) AllReadyH.nil
                try simp only [Act.put, List.setIfInBounds_toArray, List.set_cons_zero, List.set_cons_succ, List.getElem_toArray, List.getElem_cons_zero, List.getElem_cons_succ]
                have hbz := alloc_other (alloc_block W6 (.cells #[.int .i64 x.z.b, .int .u8 x.z.p, .int .u32 x.z.c] 55 (0, 0))) (.cells #[.int .i64 x.a.b, .int .u8 x.a.p, .int .u32 x.a.c] 55 (0, 0))
                have hba : ((W6.alloc (.cells #[.int .i64 x.z.b, .int .u8 x.z.p, .int .u32 x.z.c] 55 (0, 0))).alloc (.cells #[.int .i64 x.a.b, .int .u8 x.a.p, .int .u32 x.a.c] 55 (0, 0))).heap[W6.heap.size + 1]? = _ := (two_allocs W6 (.cells #[.int .i64 x.z.b, .int .u8 x.z.p, .int .u32 x.z.c] 55 (0, 0)) (.cells #[.int .i64 x.a.b, .int .u8 x.a.p, .int .u32 x.a.c] 55 (0, 0))).2
                have hs7 : w.heap.size ≤ ((W6.alloc (.cells #[.int .i64 x.z.b, .int .u8 x.z.p, .int .u32 x.z.c] 55 (0, 0))).alloc (.cells #[.int .i64 x.a.b, .int .u8 x.a.p, .int .u32 x.a.c] 55 (0, 0))).heap.size := by simp; omega
                have HOWNX := ownsRow_keep HOWN6.out (((Keeps.refl Nil W6).alloc (.cells #[.int .i64 x.z.b, .int .u8 x.z.p, .int .u32 x.z.c] 55 (0, 0))).alloc (.cells #[.int .i64 x.a.b, .int .u8 x.a.p, .int .u32 x.a.c] 55 (0, 0))) (fun _ _ e => e)
                rw [if_pos (by rfl)]
                refine wp_append_lies _ (.tmp 65) (.tmp 71) 62 ?_ w.heap.size 55 i0 (.agg #[.int .i64 0, .int .u8 0, .int .u32 0]) 3 16 Try.underlying62 hi0 hz0 hz1 hz2 ?_ ?_ (.slice p7 (2 * k) c7) (2 * k) (flatE ((ends L).take (2 * k))) ?_ ?_ ⟨(W6.heap.size + 1), 0, Option.none⟩ 1 1 [.int .i64 x.a.b, .int .u8 x.a.p, .int .u32 x.a.c] ?_ ?_ ?_ ?_ ?_ ?_ ?_ ?_ _ rfl ?_
                · rfl
                · rfl
                · decide
                · rfl
                · exact HOWNX
                · rfl
                · rfl
                · exact (World.news_of_block (cs := #[.int .i64 x.a.b, .int .u8 x.a.p, .int .u32 x.a.c]) (t := 55) (fr := (0, 0)) hba)
                · simp [Value.oneCell']
                · decide
                · unfold maxLen; omega
                · omega
                · omega
                intro g7 cap7 w7 own7 hgrow7 hat7 hlt7
                have k7 : Keeps (fun g => w.heap.size ≤ g) W6 w7 := (((Keeps.refl _ W6).alloc (.cells #[.int .i64 x.z.b, .int .u8 x.z.p, .int .u32 x.z.c] 55 (0, 0))).alloc (.cells #[.int .i64 x.a.b, .int .u8 x.a.p, .int .u32 x.a.c] 55 (0, 0))).grown hgrow7 (fun g e _ => by have := own_ge HOWN6.out e; exact this)
                have hbz7 := (hgrow7.block _ (lt_of_block hbz) (fun e => by have h1 := HOWN6.out.lt _ e.symm; omega)).trans hbz
                refine hK.out _ _ (HS17.out _ k7) (fun hHeld => ?_)
                clear hK K
                try simp only [Act.put, List.setIfInBounds_toArray, List.set_cons_zero, List.set_cons_succ, List.getElem_toArray, List.getElem_cons_zero, List.getElem_cons_succ]
                refine wpAnyH_ready (rs := [14]) (by kernel_rfl) (by simp) ?_
                refine AllReadyH.cons rfl (fun K hK => ?_) AllReadyH.nil
                try simp only [Act.put, List.setIfInBounds_toArray, List.set_cons_zero, List.set_cons_succ, List.getElem_toArray, List.getElem_cons_zero, List.getElem_cons_succ]
                have hs8 : w.heap.size ≤ w7.heap.size := by have := k7.size; omega
                rw [if_pos (by rfl)]
                refine wp_append_lies _ (.tmp 72) (.tmp 78) 62 ?_ w.heap.size 55 i0 (.agg #[.int .i64 0, .int .u8 0, .int .u32 0]) 3 16 Try.underlying62 hi0 hz0 hz1 hz2 ?_ ?_ (.slice (some ⟨g7, 0, Option.none⟩) (2 * k + 1) cap7) (2 * k + 1) ((flatE ((ends L).take (2 * k))) ++ [.int .i64 x.a.b, .int .u8 x.a.p, .int .u32 x.a.c]) ?_ ?_ ⟨W6.heap.size, 0, Option.none⟩ 1 1 [.int .i64 x.z.b, .int .u8 x.z.p, .int .u32 x.z.c] ?_ ?_ ?_ ?_ ?_ ?_ ?_ ?_ _ rfl ?_
                · rfl
                · rfl
                · decide
                · rfl
                · exact own7
                · rfl
                · rfl
                · exact (World.news_of_block (cs := #[.int .i64 x.z.b, .int .u8 x.z.p, .int .u32 x.z.c]) (t := 55) (fr := (0, 0)) hbz7)
                · simp [Value.oneCell']
                · decide
                · unfold maxLen; omega
                · omega
                · omega
                intro g8 cap8 w8 own8 hgrow8 hat8 hlt8
                have k8 : Keeps (fun g => w.heap.size ≤ g) W6 w8 := (k7).grown hgrow8 (fun g e _ => by have := own_ge own7 e; exact this)
                refine hK.out _ _ (HS17.out _ k8) (fun hHeld => ?_)
                clear hK K
                try simp only [Act.put, List.setIfInBounds_toArray, List.set_cons_zero, List.set_cons_succ, List.getElem_toArray, List.getElem_cons_zero, List.getElem_cons_succ]
                refine wpAnyH_take (i := 15) (v := ?_) rfl (by kernel_rfl) (by kernel_rfl) (by kernel_rfl) (fun _ _ _ h => h) (Or.inl ⟨by rfl, ?_⟩) (by assumption) ?_
                rotate_left
                · (intro W hSw; (try dsimp only at hSw); go_simp <;> with_reducible rfl)
                try simp only [Act.put, List.setIfInBounds_toArray, List.set_cons_zero, List.set_cons_succ, List.getElem_toArray, List.getElem_cons_zero, List.getElem_cons_succ]
                refine wpAnyH_done (by kernel_rfl) ?_ _
                go_wp2
                have hown9 := hid own8
                have k9 := hid k8
                go_roundw
                case rel => exact ⟨k + 1, _, _, by omega, by go_num, rfl, hid (fun e he => by
                    rw [show 2 * (k + 1) = 2 * k + 1 + 1 from rfl, dist_take_succ HEA.out.2, dist_take_succ HEA.out.1] at he
                    rcases List.mem_append.1 he with h | h
                    · rcases List.mem_append.1 h with h | h
                      · exact HOK.out e h
                      · simp at h; subst h; exact HOA.out
                    · simp at h; subst h; exact HOZ.out), hid (by
                    rw [show 2 * (k + 1) = 2 * k + 1 + 1 from rfl, dist_take_succ HEA.out.2, dist_take_succ HEA.out.1, flatE_append, flatE_append]
                    simpa [flatE] using hown9.out), hid ((HKQ.out.trans kk6).trans' k9.out (fun y hy e => by have e : w.heap.size ≤ y := e; omega))⟩
                case measure => simp [intOf]; omega
            · have dz : decide (okE n ⟨x.z.b, x.z.p, x.z.c⟩) = false := decide_eq_false hokz
              have HF := hid (show ¬ MayG ids L from fun h => hokz (by have := h.ok _ hmz.out; rwa [hlen] at this))
              clear hoka hokz
              go_wp2_with (go_at_call 16; refine (end_any _ _ _ _ _).mono ?_; rintro e w1 ⟨rfl, k1⟩; replace kk := kk.trans k1; obtain ⟨hlx, c0, c1, c2, c3, c4, c5⟩ := HCX.out _ kk)
              go_ret
              exact ⟨by rw [mayB_false HF.out]; rfl, HKQ.out.trans kk⟩
          · have da : decide (okE n ⟨x.a.b, x.a.p, x.a.c⟩) = false := decide_eq_false hoka
            have HF := hid (show ¬ MayG ids L from fun h => hoka (by have := h.ok _ hma.out; rwa [hlen] at this))
            clear hoka
            go_wp2_with (go_at_call 16; refine (end_any _ _ _ _ _).mono ?_; rintro e w1 ⟨rfl, k1⟩; replace kk := kk.trans k1)
            go_ret
            exact ⟨by rw [mayB_false HF.out]; rfl, HKQ.out.trans kk⟩
        · have hkn : 2 * k = (ends L).length := by rw [HLE.out]; omega
          have HALL := hid (show ∀ e ∈ ends L, okE n e by have := HOK.out; rwa [hkn, List.take_length] at this)
          have HROW := hid (show wr.ownsRow w.heap.size 55 3 (.slice p7 (2 * k) c7) (2 * k) (flatE (ends L)) by have := HOWN.out; rw [hkn, List.take_length] at this; rw [hkn]; exact this)
          clear HOK HOWN
          obtain ⟨V3, hV3⟩ : ∃ V3, V3 = wr := ⟨wr, rfl⟩
          subst hV3
          go_wp2
          have hcap7 : 2 * k ≤ c7 := by
            have h := HROW.out.2
            rcases h with ⟨h, h2⟩ | ⟨g, cap, cur, h, _, _, h2, _⟩
            · omega
            · cases h; exact h2
          have HE2 := hid hkn
          clear hkl hkn
          go_loopw [9] (fun s wr2 => ∃ i : Nat, i ≤ 2 * k ∧ s = .int .i64 i ∧ Hid (∀ (a b : Nat) (x y : En), b < a → a < i → (ends L)[a]? = some x → (ends L)[b]? = some y → ¬ (x.b = y.b ∧ x.p = y.p)) ∧ Hid (Keeps Nil V3 wr2)) (fun s _ => 2 * k - (intOf s).toNat)
          case atStart => exact ⟨0, Nat.zero_le _, rfl, hid (fun a b x y _ h => by omega), hid (Keeps.refl _ _)⟩
          case round =>
            obtain ⟨i4, hi4, rfl, HD, HK4⟩ := hrel
            by_cases hin4 : i4 < 2 * k
            · obtain ⟨x, hx⟩ : ∃ x, (ends L)[i4]? = some x := ⟨_, List.getElem?_eq_getElem (by have := HE2.out; omega)⟩
              rcases HROW.out.2 with ⟨_, hz⟩ | ⟨g, cap, cur, hve, hg0, hgg, _⟩
              · omega
              injection hve with hve _ hcc
              subst hcc
              subst hve
              have hgl := lt_of_block hgg
              have hcell : ∀ (m : Nat) (e : En), (ends L)[m]? = some e → V3.cell? ⟨g, m * 3, Option.none⟩ = some (.int .i64 e.b) ∧ V3.cell? ⟨g, m * 3 + 1, Option.none⟩ = some (.int .u8 e.p) := fun m e he => by
                have hc := HROW.out.cells (g := g) rfl
                have ha : ∀ j : Nat, (⟨g, 0, Option.none⟩ : Addr).add j = ⟨g, j, Option.none⟩ := fun j => by unfold Addr.add; split <;> simp_all
                have r0 := hc (m * 3 + 0) _ ((flatE_get he 0 (by omega)).trans rfl)
                have r1 := hc (m * 3 + 1) _ ((flatE_get he 1 (by omega)).trans rfl)
                rw [ha] at r0 r1
                exact ⟨r0, r1⟩
              have HX := hid hx
              have HCE := hid hcell
              clear hx hcell hgg
              go_wp2
              go_loopw [10] (fun s wz => ∃ q : Nat, q ≤ i4 ∧ s = .int .i64 q ∧ Hid (∀ (b : Nat) (y : En), b < q → (ends L)[b]? = some y → ¬ (x.b = y.b ∧ x.p = y.p)) ∧ Hid (Keeps Nil V3 wz)) (fun s _ => i4 - (intOf s).toNat)
              case atStart => exact ⟨0, Nat.zero_le _, rfl, hid (fun b y h => by omega), HK4⟩
              case round =>
                obtain ⟨q, hq, rfl, HD2, HK5⟩ := hrel
                have hgw : g < wr.heap.size := Nat.lt_of_lt_of_le hgl HK5.out.size
                by_cases hqi : q < i4
                · obtain ⟨y, hy⟩ : ∃ y, (ends L)[q]? = some y := ⟨_, List.getElem?_eq_getElem (by have := HE2.out; omega)⟩
                  obtain ⟨a0, a1⟩ := HCE.out i4 x HX.out
                  obtain ⟨b0, b1⟩ := HCE.out q y hy
                  have v0 := (HK5.out.cell (p := ⟨g, i4 * 3, Option.none⟩) hgl (fun e => e)).trans a0
                  have v1 := (HK5.out.cell (p := ⟨g, i4 * 3 + 1, Option.none⟩) hgl (fun e => e)).trans a1
                  have v2 := (HK5.out.cell (p := ⟨g, q * 3, Option.none⟩) hgl (fun e => e)).trans b0
                  have v3 := (HK5.out.cell (p := ⟨g, q * 3 + 1, Option.none⟩) hgl (fun e => e)).trans b1
                  have hqk : q < 2 * k := by omega
                  have HY := hid hy
                  clear hy a0 a1 b0 b1
                  have hc3 : (x.b = y.b ∧ x.p = y.p) ∨ (x.b = y.b ∧ x.p ≠ y.p) ∨ x.b ≠ y.b := by
                    by_cases e : x.b = y.b
                    · by_cases e2 : x.p = y.p
                      · exact .inl ⟨e, e2⟩
                      · exact .inr (.inl ⟨e, e2⟩)
                    · exact .inr (.inr e)
                  rcases hc3 with ⟨e1, e2⟩ | ⟨e1, e2⟩ | e1
                  · have HF := hid (show ¬ MayG ids L from fun h => h.dist q i4 y x hqi HY.out HX.out ⟨e1.symm, e2.symm⟩)
                    have t1 : (x.b == y.b) = true := by simp [e1]
                    have t2 : (x.p == y.p) = true := by simp [e2]
                    clear e1 e2
                    go_wp2
                    go_quiet (fail)
                    go_wp2
                    go_ret
                    exact ⟨by rw [mayB_false HF.out]; rfl, (HKQ.out.trans HK5.out).thenNil (Keeps.drewN _ _)⟩
                  · have HNE := hid (show ¬ (x.b = y.b ∧ x.p = y.p) from fun h => e2 h.2)
                    have t1 : (x.b == y.b) = true := by simp [e1]
                    have t2 : (x.p == y.p) = false := by simp [e2]
                    clear e1 e2
                    go_wp2
                    go_quiet (fail)
                    go_wp2
                    go_roundw
                    case rel => exact ⟨q + 1, by omega, by go_num, hid (fun b z hb hz => by
                        by_cases e : b = q
                        · subst e; rw [HY.out] at hz; cases hz; exact HNE.out
                        · exact HD2.out b z (by omega) hz), hid (HK5.out.thenNil (Keeps.drewN _ _))⟩
                    case measure => simp [intOf]; omega
                  · have HNE := hid (show ¬ (x.b = y.b ∧ x.p = y.p) from fun h => e1 h.1)
                    have t1 : (x.b == y.b) = false := by simp [e1]
                    clear e1
                    go_wp2
                    go_quiet (fail)
                    go_wp2
                    go_roundw
                    case rel => exact ⟨q + 1, by omega, by go_num, hid (fun b z hb hz => by
                        by_cases e : b = q
                        · subst e; rw [HY.out] at hz; cases hz; exact HNE.out
                        · exact HD2.out b z (by omega) hz), hid (HK5.out.thenNil (Keeps.drewN _ _))⟩
                    case measure => simp [intOf]; omega
                · have hqe : q = i4 := by omega
                  subst hqe
                  go_wp2
                  go_roundw
                  case rel => exact ⟨q + 1, by omega, by go_num, hid (fun a b z y hab ha hz hy => by
                      by_cases e : a = q
                      · subst e; rw [HX.out] at hz; cases hz; exact HD2.out b y hab hy
                      · exact HD.out a b z y hab (by omega) hz hy), HK5⟩
                  case measure => simp [intOf]; omega
            · have hY := hid (show MayG ids L from ⟨by omega, by omega, HND.out, by rw [hlen]; exact HALL.out, fun a b x y hab hx hy h => HD.out b a y x hab (by have := (List.getElem?_eq_some_iff.1 hy).1; have := HE2.out; omega) hy hx ⟨h.1.symm, h.2.symm⟩⟩)
              go_wp2
              go_ret
              exact ⟨by rw [mayB_true hY.out]; rfl, HKQ.out.trans HK4.out⟩
end Go.Proofs.Ythnkeppkhdceoaa
