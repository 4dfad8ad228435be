/-
  Layer 16: the law of ConfigPlays. Condition: the acts lie so.
-/
import Derived.Test.YtbgijlfdgfhceaaRSays
import Derived.Test.YtbgijlfdgfhceaaRSame
import Derived.Test.YtbgijlfdgfhceaaLaw16b
import Derived.IntWalk
namespace Go.Proofs.Ytbgijlfdgfhceaa
open Go.RowKit
set_option linter.unusedVariables false
set_option linter.unusedSimpArgs false
set_option maxRecDepth 8000

theorem ninfo : (Try.prog.info? 23).map (fun i => (i.zero, i.size, i.bytes)) = some (some (.int .u16 0), 1, 2) := by kernel_rfl
theorem does_own (τ : CT) (x : Ac) (p : Option Addr) (c : Nat) : τ.does { x with a := { x.a with p := p, c := c } } = τ.does x := rfl
theorem small_of {L : List Ac} (h : greatB L = false) : L.length ≤ 60 ∧ ∀ x ∈ L, x.a.ms.length ≤ 20 ∧ x.a.dom.size ≤ 100 ∧ x.a.own.size ≤ 100 := by
  unfold greatB at h
  rw [Bool.or_eq_false_iff] at h
  refine ⟨by have := h.1; simp at this; exact this, fun x hx => ?_⟩
  have h2 := h.2
  rw [List.any_eq_false] at h2
  have h3 := h2 x hx
  unfold greatA at h3
  simp at h3
  omega
/-- What the program's table is made of. -/
def Kind (w : World) (g : Nat) : Prop := (∃ T c, (T = 69 ∨ T = 50 ∨ T = 59 ∨ T = 23) ∧ w.heap[g]? = some (.cells c T (0, 0))) ∨ ∃ es cl, w.heap[g]? = some (.map es cl)
theorem kind_not {w : World} {T : TypeId} {S : Nat → Prop} (hT : T ≠ 69 ∧ T ≠ 50 ∧ T ≠ 59 ∧ T ≠ 23) : NotT w T (fun g => S g ∧ Kind w g) := by
  intro g c fr hg e
  rcases hg.2 with ⟨T', c', hT', h⟩ | ⟨es, cl, h⟩
  · rw [h] at e
    injection e with e
    injection e with _ e
    subst e
    rcases hT' with e | e | e | e <;> exact absurd e (by first | exact hT.1 | exact hT.2.1 | exact hT.2.2.1 | exact hT.2.2.2)
  · rw [h] at e; cases e
theorem ORow.shrink {S : Nat → Prop} {w : World} {T sz n c : Nat} {p : Option Addr} {xs : List Value} (h : ORow w S T sz p n c xs) (hT : T = 69 ∨ T = 50 ∨ T = 59 ∨ T = 23) : ORow w (fun g => S g ∧ Kind w g) T sz p n c xs := by
  refine ⟨h.1, fun a e => ⟨h.2 a e, ?_⟩⟩
  rcases h.1.2 with ⟨hv, _⟩ | ⟨g, cap, cur, hv, hb, hg, r⟩
  · injection hv with hv; rw [hv] at e; cases e
  · injection hv with hv
    rw [hv] at e
    injection e with e
    subst e
    exact .inl ⟨T, cur, hT, hg⟩
theorem Tbl.shrink {w : World} {S : Nat → Prop} {t : Nat} {τ : CT} (h : Tbl w S t τ) : Tbl w (fun g => S g ∧ Kind w g) t τ := by
  obtain ⟨pa, ca, pe, ce, mb, L, h⟩ := h
  refine ⟨pa, ca, pe, ce, mb, L, ⟨fun g hg => h.bound g hg.1, ⟨h.inT, .inl ⟨69, _, .inl rfl, h.head⟩⟩, h.head, h.rowA.shrink (by simp), h.bare, fun x hx => (h.nums x hx).shrink (by simp), h.rowE.shrink (by simp), ⟨h.inM, ?_⟩, h.map⟩⟩
  obtain ⟨es, cl, hb⟩ := h.map.raw
  exact .inr ⟨es, cl, hb⟩
/-- Where both stand behind k acts. -/
def Both (w2 wr : World) (b13 t k : Nat) : Prop := ∃ (τ : CT) (S : Nat → Prop) (pA : Option Addr) (cA : Nat) (pE : Option Addr) (cE : Nat) (pM : Option Addr) (cM : Nat) (L : List As) (R : List Mi),
  Tbl wr S t τ ∧ (∀ g, S g → w2.heap.size ≤ g) ∧ τ.Ok k ∧ wr.heap[b13]? = some (.cells #[.int .i64 τ.n, .slice pA L.length cA, .slice pE τ.E.length cE, .slice pM R.length cM] 34 (0, 0)) ∧ RTAt w2 wr k τ pA cA pE cE pM cM L R
theorem row_there {w : World} {B n c : Nat} {p : Option Addr} {xs : List Value} (h : w.ownsRow B 23 1 (.slice p n c) n xs) : n ≤ c ∧ (0 < n → ∃ g, p = some ⟨g, 0, Option.none⟩) ∧ ∀ g, p = some ⟨g, 0, Option.none⟩ → B ≤ g ∧ ∃ cur : Array Value, w.heap[g]? = some (.cells cur 23 (0, 0)) ∧ n ≤ cur.size := by
  have hl := h.1
  rcases h.2 with ⟨hv, hn⟩ | ⟨g, cap, cur, hv, hb, hg, hle, r⟩
  · injection hv with h1 h2 h3
    subst h1 h2 h3
    exact ⟨Nat.le_refl _, fun h => absurd h (Nat.lt_irrefl _), fun g e => by cases e⟩
  · injection hv with h1 h2 h3
    subst h1 h3
    have hcur : n ≤ cur.size := by
      rcases Nat.lt_or_ge cur.size n with hlt | hge
      · have hx : xs[cur.size]? = some (xs[cur.size]'(by omega)) := List.getElem?_eq_getElem _
        have hc := h.cells (g := g) rfl _ _ hx
        rw [show (⟨g, 0, Option.none⟩ : Addr).add cur.size = ⟨g, cur.size, Option.none⟩ from by unfold Addr.add; split <;> simp_all] at hc
        simp [World.cell?, hg] at hc
      · exact hge
    exact ⟨hle, fun _ => ⟨g, rfl⟩, fun g' e => by injection e with e; injection e with e; subst e; exact ⟨hb, cur, hg, hcur⟩⟩

set_option maxHeartbeats 32000000 in
theorem cplays_any (ports : Int) (p : Option Addr) (n c : Nat) (L0 : List Ac) (port vid place : Int) (hpv : ALv port vid) (w : World) (hl : WV w 0 14 p n c (flatX L0)) (hok : ∀ x ∈ L0, x.Ok ∧ MsV w 0 x.a) (hm : n ≤ 9223372036854775807) :
    Calls Try.prog 3 #[.int .i64 ports, .slice p n c, .int .u8 port, .int .u16 vid, .int .i64 place] w fun e w' => e = .returned (.bool true) ∧ Keeps Nil w w' := by
  have WA := fun W => wakes_any W
  have GR := great_any 0 p n c L0 w hl hm
  have hlen : L0.length = n := by have := hl.1; rw [flatX_len] at this; omega
  have HL := hid hl
  have HOK := hid hok
  have HLEN := hid hlen
  have hnc := hl.2.1
  clear hl hok
  cases hg : greatB L0 with
  | true =>
    rw [hg] at GR
    clear hlen
    go_enter Try.func3, Try.ntmps3
    go_wp2_with fail
    refine GR.mono ?_; rintro e w2 ⟨rfl, k2⟩
    go_wp2_with fail
    refine (WA _).mono ?_; rintro e w3 ⟨rfl, k3⟩
    go_wp2_with fail
    go_ret
    exact ⟨rfl, k2.trans k3⟩
  | false =>
    rw [hg] at GR
    have h60 := (small_of hg).1
    have HSM := hid (small_of hg).2
    rw [hlen] at h60
    clear hlen hg
    by_cases hp : ports < 1 ∨ 8 < ports
    · have NB := fun W => new_bad ports hp W
      rcases hp with hp | hp
      · go_enter Try.func3, Try.ntmps3
        go_wp2_with fail
        refine GR.mono ?_; rintro e w2 ⟨rfl, k2⟩
        go_wp2_with fail
        refine (NB _).mono ?_; rintro e w3 ⟨rfl, rfl⟩
        go_wp2_with fail
        refine (WA _).mono ?_; rintro e w4 ⟨rfl, k4⟩
        go_wp2_with fail
        go_ret
        exact ⟨rfl, k2.trans k4⟩
      · have hp' : ¬ ports < 1 := by omega
        go_enter Try.func3, Try.ntmps3
        go_wp2_with fail
        refine GR.mono ?_; rintro e w2 ⟨rfl, k2⟩
        go_wp2_with fail
        refine (NB _).mono ?_; rintro e w3 ⟨rfl, rfl⟩
        go_wp2_with fail
        refine (WA _).mono ?_; rintro e w4 ⟨rfl, k4⟩
        go_wp2_with fail
        go_ret
        exact ⟨rfl, k2.trans k4⟩
    · have hp1 : ¬ ports < 1 := by omega
      have hp8 : ¬ 8 < ports := by omega
      have PN := hid (fun W => p_new ports (by omega) (by omega) W)
      have HP1 := hid (show 1 ≤ ports ∧ ports ≤ 8 by omega)
      clear hp
      go_enter Try.func3, Try.ntmps3
      go_wp2_with fail
      refine GR.mono ?_; rintro e w2 ⟨rfl, k2⟩
      go_wp2_with fail
      refine (PN.out _).mono ?_; rintro e w3 ⟨⟨t, rfl, T3⟩, k3⟩
      have K2 := hid k2
      have K3 := hid k3
      have T3 := hid T3
      clear k2 k3
      have k4 : Keeps Nil w3 (w3.alloc (.cells #[.int .i64 ports, .slice Option.none 0 0, .slice Option.none 0 0, .slice Option.none 0 0] 34 (0, 0))) := (Keeps.refl _ _).alloc _
      have h13 := alloc_block w3 (.cells #[.int .i64 ports, .slice Option.none 0 0, .slice Option.none 0 0, .slice Option.none 0 0] 34 (0, 0))
      go_upto_region 9 with (fail)
      generalize (w3.alloc (.cells #[.int .i64 ports, .slice Option.none 0 0, .slice Option.none 0 0, .slice Option.none 0 0] 34 (0, 0))) = w4 at *
      have hb13 := K3.out.size
      generalize w3.heap.size = b13 at *
      have HBOTH := hid (show Both w2 w4 b13 t 0 from ⟨⟨ports, [], [], []⟩, _, Option.none, 0, Option.none, 0, Option.none, 0, [], [], T3.out.keepN k4, fun g hg => hg.1, CT.Ok.start HP1.out.1 HP1.out.2, h13, (RTAt.nil ports w2).keepN (K3.out.trans k4)⟩)
      clear k4 h13 T3
      go_wp2_with fail
      go_loopw [14] (fun s14 wr => ∃ k : Nat, k ≤ n ∧ s14 = .int .i64 k ∧ Hid (Both w2 wr b13 t k)) (fun s14 _ => n - (intOf s14).toNat)
      case atStart => exact ⟨0, Nat.zero_le _, rfl, HBOTH⟩
      case round =>
        obtain ⟨k, hk, rfl, HR⟩ := hrel
        obtain ⟨τ, S, pA, cA, pE, cE, pM, cM, L, R, hT, hS, hO, h13, hRT⟩ := HR.out
        have HT := hid hT
        have HS := hid hS
        have HO := hid hO
        have H13 := hid h13
        have HRT := hid hRT
        have HG := hid (hO.good (by omega))
        clear hT hS hO h13 hRT HR
        by_cases hlt : k < n
        · obtain ⟨x, hx⟩ : ∃ x, L0[k]? = some x := ⟨_, List.getElem?_eq_getElem (by have := HLEN.out; omega)⟩
          have hmem := List.mem_of_getElem? hx
          have HX := hid hx
          have HXO := hid (HOK.out x hmem).1
          have HMS := hid (HOK.out x hmem).2
          have HSX := hid (HSM.out x hmem)
          have hms20 : x.a.ms.length ≤ 20 := (HSM.out x hmem).1
          have hncm := (HOK.out x hmem).2.2.1
          obtain ⟨g, off, hpp, _, hgl, _, c0, c1, c2, c3, c4, c5, c6, c7, c8, c9, c10, c11, c12, c13⟩ := WV.atX (HL.out.keepN (K2.out.trans HRT.out.base)) hx
          subst hpp
          clear hx hmem
          have k4 : Keeps Nil wr (wr.alloc (.cells #[.int .u8 x.d, .int .u8 x.a.lv, .string x.a.dom, .string x.a.own, .int .u16 x.a.vid, .int .u8 x.a.iv, .slice x.a.p x.a.ms.length x.a.c, .int .i64 x.e.ai, .int .u16 x.e.id, .int .u8 x.e.port, .bool x.e.up, .int .u8 x.m.port, .int .u16 x.m.vid, .int .u8 x.m.lv] 43 (0, 0))) := (Keeps.refl _ _).alloc _
          have h15 := alloc_block wr (.cells #[.int .u8 x.d, .int .u8 x.a.lv, .string x.a.dom, .string x.a.own, .int .u16 x.a.vid, .int .u8 x.a.iv, .slice x.a.p x.a.ms.length x.a.c, .int .i64 x.e.ai, .int .u16 x.e.id, .int .u8 x.e.port, .bool x.e.up, .int .u8 x.m.port, .int .u16 x.m.vid, .int .u8 x.m.lv] 43 (0, 0))
          go_upto_region 13 with (fail)
          have hwr := HRT.out.base.size
          have hl13 := lt_of_block H13.out
          have hz4 : (wr.alloc (.cells #[.int .u8 x.d, .int .u8 x.a.lv, .string x.a.dom, .string x.a.own, .int .u16 x.a.vid, .int .u8 x.a.iv, .slice x.a.p x.a.ms.length x.a.c, .int .i64 x.e.ai, .int .u16 x.e.id, .int .u8 x.e.port, .bool x.e.up, .int .u8 x.m.port, .int .u16 x.m.vid, .int .u8 x.m.lv] 43 (0, 0))).heap.size = wr.heap.size + 1 := by simp
          generalize (wr.alloc (.cells #[.int .u8 x.d, .int .u8 x.a.lv, .string x.a.dom, .string x.a.own, .int .u16 x.a.vid, .int .u8 x.a.iv, .slice x.a.p x.a.ms.length x.a.c, .int .i64 x.e.ai, .int .u16 x.e.id, .int .u8 x.e.port, .bool x.e.up, .int .u8 x.m.port, .int .u16 x.m.vid, .int .u8 x.m.lv] 43 (0, 0))) = w4 at *
          have hb15 : wr.heap.size < w4.heap.size := by omega
          have HZ4 := hid hz4
          have HT4 := hid (HT.out.keepN k4)
          have H134 := hid (k4.lies H13.out)
          have HRT4 := hid (HRT.out.keepN k4)
          have hSb := hid HT.out.bound
          have H15 := hid h15
          generalize wr.heap.size = b15 at *
          obtain ⟨i0, hi0, hz0, hz1, hz2⟩ := info_parts ninfo
          have HIN := hid (And.intro hi0 (And.intro hz0 (And.intro hz1 hz2)))
          have HM4 := hid (HMS.out.keepN (K2.out.trans HRT4.out.base))
          obtain ⟨z0, z1, z2, z3, z4, z5, z6, z7, z8, z9, z10, z11, z12, z13⟩ := fourteen_block h15
          have l15 := lt_of_block h15
          clear k4 h15 hi0 hz0 hz1 hz2 hz4 c0 c1 c2 c3 c4 c5 c6 c7 c8 c9 c10 c11 c12 c13
          go_wp2_with (at_builtin; refine wpList_append_wv (o := ⟨some 66, _, _, _, _, _⟩) _ (by rfl) _ _ 35 (by rfl) w4.heap.size 23 i0 (.int .u16 0) 1 2 Try.underlying35 HIN.out.1 HIN.out.2.1 HIN.out.2.2.1 HIN.out.2.2.2 rfl (by decide) (.slice Option.none 0 0) 0 [] (by rfl) (World.ownsRow_nil _ _ _ _) 0 x.a.p x.a.ms.length x.a.c (flatU x.a.ms) (by rfl) HM4.out (flatU_one _) (by unfold maxLen; omega) (by omega) (Nat.le_refl _) ?_; intro v5 w5 own5 hg5 hat5; have k5 := grown_nil hg5; have h155 := k5.lies H15.out; obtain ⟨z0, z1, z2, z3, z4, z5, z6, z7, z8, z9, z10, z11, z12, z13⟩ := fourteen_block h155; have l155 := lt_of_block h155; have hf155 := free_block h155 6; obtain ⟨p', c', hv5⟩ := own_shape own5; subst hv5; have H155 := hid h155; have K5 := hid k5; have OWN5 := hid own5; clear h155 k5 own5)
          have ks : Keeps (At b15) w5 (w5.setCell ⟨b15, 6, Option.none⟩ (.slice p' x.a.ms.length c')) := (Keeps.refl _ _).set _ _ (at_self _) _
          have hbs := setCell_block H155.out 6 (.slice p' x.a.ms.length c')
          generalize w5.setCell ⟨b15, 6, Option.none⟩ (.slice p' x.a.ms.length c') = w6 at *
          have hbs : w6.heap[b15]? = some (.cells #[.int .u8 x.d, .int .u8 x.a.lv, .string x.a.dom, .string x.a.own, .int .u16 x.a.vid, .int .u8 x.a.iv, .slice p' x.a.ms.length c', .int .i64 x.e.ai, .int .u16 x.e.id, .int .u8 x.e.port, .bool x.e.up, .int .u8 x.m.port, .int .u16 x.m.vid, .int .u8 x.m.lv] 43 (0, 0)) := hbs
          have own5 : w5.ownsRow w4.heap.size 23 1 (.slice p' x.a.ms.length c') x.a.ms.length (flatU x.a.ms) := by have := OWN5.out; simpa using this
          have OWN6 := hid (ownsRow_keep own5 ks (fun q hq e => by rw [At] at e; omega))
          have hS6 : ∀ q, S q → q < b15 := hSb.out
          have hT6 := ((HT4.out.keepN K5.out).keep ks (fun q hq e => by have := hS6 q hq; rw [At] at e; omega)).shrink
          have H136 := hid (ks.lies (K5.out.lies H134.out) (fun e => by rw [At] at e; omega))
          have nt : ∀ T, T ≠ 43 → NotT w5 T (At b15) := fun T hne => notT_at H155.out (fun e => hne e.symm)
          have HRT6 := hid ((HRT4.out.keepN K5.out).keepT ks (nt 37 (by decide)) (nt 39 (by decide)) (nt 41 (by decide)) (fun q e => by rw [At] at e; omega))
          have hz6 : w4.heap.size ≤ w6.heap.size := Nat.le_trans K5.out.size ks.size
          have PD := p_does { x with a := { x.a with p := p', c := c' } } HXO.out 0 hT6 HG.out (WV.mono (WV.of_own OWN6.out) (Nat.zero_le _))
          rw [does_own] at PD
          have HPD := hid PD
          have HT6 := hid hT6
          have H156 := hid hbs
          have hl136 := lt_of_block H136.out
          have hl156 := lt_of_block H156.out
          clear PD hT6 hbs own5 ks nt hg5 hat5 hf155 l155 l15 z0 z1 z2 z3 z4 z5 z6 z7 z8 z9 z10 z11 z12 z13
          refine HPD.out.mono ?_; rintro e w7 ⟨rfl, h7, k7⟩
          have HOK7 := hid (HO.out.does HXO.out)
          obtain ⟨τ2, i2, er, hdo⟩ : ∃ τ2 i2 er, τ.does x = (τ2, i2, er) := ⟨_, _, _, rfl⟩
          rw [hdo] at h7 HOK7 ⊢
          simp only at h7 HOK7 ⊢
          have n13 : ¬ (S b13 ∧ Kind w6 b13) := fun e => kind_not (S := S) (w := w6) (T := 34) (by decide) b13 _ _ e H136.out
          have n15 : ¬ (S b15 ∧ Kind w6 b15) := fun e => by have := hS6 b15 e.1; omega
          have H137 := hid (k7.lies H136.out n13)
          have OWN7 := hid (ownsRow_keep OWN6.out k7 (fun q hq e => by have := hS6 q e.1; omega))
          have H157 := hid (k7.lies H156.out n15)
          have HRT7 := hid (HRT6.out.keepT k7 (kind_not (by decide)) (kind_not (by decide)) (kind_not (by decide)) (fun q e => HS.out q e.1))
          have HT7 := hid h7
          have hz7 : w6.heap.size ≤ w7.heap.size := k7.size
          have HDO := hid hdo
          clear h7 k7 hdo n13 n15
          go_wp2_with fail
          obtain ⟨g2, off2, hpp2, _, hgl7, _, c0, c1, c2, c3, c4, c5, c6, c7, c8, c9, c10, c11, c12, c13⟩ := WV.atX (HL.out.keepN (K2.out.trans HRT7.out.base)) HX.out
          injection hpp2 with hpp2; injection hpp2 with e1 e2; subst e1 e2
          have HS7 := hid (show ∀ X, Keeps Nil w7 X → (X.cell? ⟨b13, 0, Option.none⟩ = some (.int .i64 τ.n) ∧ X.cell? ⟨b13, 1, Option.none⟩ = some (.slice pA L.length cA) ∧ X.cell? ⟨b13, 2, Option.none⟩ = some (.slice pE τ.E.length cE) ∧ X.cell? ⟨b13, 3, Option.none⟩ = some (.slice pM R.length cM)) ∧ (X.cell? ⟨g, off + k * 14, Option.none⟩ = some (.int .u8 x.d) ∧ X.cell? ⟨g, off + k * 14 + 1, Option.none⟩ = some (.int .u8 x.a.lv) ∧ X.cell? ⟨g, off + k * 14 + 2, Option.none⟩ = some (.string x.a.dom) ∧ X.cell? ⟨g, off + k * 14 + 3, Option.none⟩ = some (.string x.a.own) ∧ X.cell? ⟨g, off + k * 14 + 4, Option.none⟩ = some (.int .u16 x.a.vid) ∧ X.cell? ⟨g, off + k * 14 + 5, Option.none⟩ = some (.int .u8 x.a.iv) ∧ X.cell? ⟨g, off + k * 14 + 6, Option.none⟩ = some (.slice x.a.p x.a.ms.length x.a.c) ∧ X.cell? ⟨g, off + k * 14 + 7, Option.none⟩ = some (.int .i64 x.e.ai) ∧ X.cell? ⟨g, off + k * 14 + 8, Option.none⟩ = some (.int .u16 x.e.id) ∧ X.cell? ⟨g, off + k * 14 + 9, Option.none⟩ = some (.int .u8 x.e.port) ∧ X.cell? ⟨g, off + k * 14 + 10, Option.none⟩ = some (.bool x.e.up) ∧ X.cell? ⟨g, off + k * 14 + 11, Option.none⟩ = some (.int .u8 x.m.port) ∧ X.cell? ⟨g, off + k * 14 + 12, Option.none⟩ = some (.int .u16 x.m.vid) ∧ X.cell? ⟨g, off + k * 14 + 13, Option.none⟩ = some (.int .u8 x.m.lv)) from fun X kx =>
            ⟨four_block (kx.lies H137.out), (kx.cell hgl7 (fun e => e)).trans c0, (kx.cell hgl7 (fun e => e)).trans c1, (kx.cell hgl7 (fun e => e)).trans c2, (kx.cell hgl7 (fun e => e)).trans c3, (kx.cell hgl7 (fun e => e)).trans c4, (kx.cell hgl7 (fun e => e)).trans c5, (kx.cell hgl7 (fun e => e)).trans c6, (kx.cell hgl7 (fun e => e)).trans c7, (kx.cell hgl7 (fun e => e)).trans c8, (kx.cell hgl7 (fun e => e)).trans c9, (kx.cell hgl7 (fun e => e)).trans c10, (kx.cell hgl7 (fun e => e)).trans c11, (kx.cell hgl7 (fun e => e)).trans c12, (kx.cell hgl7 (fun e => e)).trans c13⟩)
          have SAYS := fun W (kW : Keeps Nil w7 W) => r_says x HXO.out k (HRT7.out.keepN kW).rv HG.out (by omega) (HMS.out.keepN K2.out) (by have := HSX.out; omega) (by have := HSX.out; omega) (by omega)
          rw [HDO.out] at SAYS
          simp only at SAYS
          have SAYS := hid SAYS
          clear c0 c1 c2 c3 c4 c5 c6 c7 c8 c9 c10 c11 c12 c13
          go_cut [18, 19, 20] (fun s18 s19 s20 wx => ∃ b18 pA2 cA2 pE2 cE2 pM2 cM2 L2 R2, s18 = .pointer (some ⟨b18, 0, Option.none⟩) ∧ s19 = .int .i64 i2 ∧ s20 = .int .i64 er ∧ Hid (wx.heap[b18]? = some (.cells #[.int .i64 τ2.n, .slice pA2 L2.length cA2, .slice pE2 τ2.E.length cE2, .slice pM2 R2.length cM2] 34 (0, 0)) ∧ RTAt w2 wx (k + 1) τ2 pA2 cA2 pE2 cE2 pM2 cM2 L2 R2 ∧ Keeps Nil w7 wx))
          case first =>
            refine wp_region_held_drew (S := (fun X => (X.cell? ⟨b13, 0, Option.none⟩ = some (.int .i64 τ.n) ∧ X.cell? ⟨b13, 1, Option.none⟩ = some (.slice pA L.length cA) ∧ X.cell? ⟨b13, 2, Option.none⟩ = some (.slice pE τ.E.length cE) ∧ X.cell? ⟨b13, 3, Option.none⟩ = some (.slice pM R.length cM)) ∧ (X.cell? ⟨g, off + k * 14, Option.none⟩ = some (.int .u8 x.d) ∧ X.cell? ⟨g, off + k * 14 + 1, Option.none⟩ = some (.int .u8 x.a.lv) ∧ X.cell? ⟨g, off + k * 14 + 2, Option.none⟩ = some (.string x.a.dom) ∧ X.cell? ⟨g, off + k * 14 + 3, Option.none⟩ = some (.string x.a.own) ∧ X.cell? ⟨g, off + k * 14 + 4, Option.none⟩ = some (.int .u16 x.a.vid) ∧ X.cell? ⟨g, off + k * 14 + 5, Option.none⟩ = some (.int .u8 x.a.iv) ∧ X.cell? ⟨g, off + k * 14 + 6, Option.none⟩ = some (.slice x.a.p x.a.ms.length x.a.c) ∧ X.cell? ⟨g, off + k * 14 + 7, Option.none⟩ = some (.int .i64 x.e.ai) ∧ X.cell? ⟨g, off + k * 14 + 8, Option.none⟩ = some (.int .u16 x.e.id) ∧ X.cell? ⟨g, off + k * 14 + 9, Option.none⟩ = some (.int .u8 x.e.port) ∧ X.cell? ⟨g, off + k * 14 + 10, Option.none⟩ = some (.bool x.e.up) ∧ X.cell? ⟨g, off + k * 14 + 11, Option.none⟩ = some (.int .u8 x.m.port) ∧ X.cell? ⟨g, off + k * 14 + 12, Option.none⟩ = some (.int .u16 x.m.vid) ∧ X.cell? ⟨g, off + k * 14 + 13, Option.none⟩ = some (.int .u8 x.m.lv)))) (by kernel_rfl) ?_ (fun hHeld => ?_)
            · (try dsimp only); exact HS7.out _ ((Keeps.refl Nil w7).drew)
            refine wpAnyH_take (i := 0) (v := ?_) rfl (by kernel_rfl) (by kernel_rfl) (by kernel_rfl) (fun _ _ _ h => h) (Or.inl ⟨by rfl, ?_⟩) (by assumption) ?_
            rotate_left
            · (intro W hSw; (try dsimp only at hSw); go_simp <;> with_reducible rfl)
            try simp only [Act.put, List.setIfInBounds_toArray, List.set_cons_zero, List.set_cons_succ, List.getElem_toArray, List.getElem_cons_zero, List.getElem_cons_succ]
            refine wpAnyH_take (i := 1) (v := ?_) rfl (by kernel_rfl) (by kernel_rfl) (by kernel_rfl) (fun _ _ _ h => h) (Or.inl ⟨by rfl, ?_⟩) (by assumption) ?_
            rotate_left
            · (intro W hSw; (try dsimp only at hSw); go_simp <;> with_reducible rfl)
            try simp only [Act.put, List.setIfInBounds_toArray, List.set_cons_zero, List.set_cons_succ, List.getElem_toArray, List.getElem_cons_zero, List.getElem_cons_succ]
            refine wpAnyH_take (i := 2) (v := ?_) rfl (by kernel_rfl) (by kernel_rfl) (by kernel_rfl) (fun _ _ _ h => h) (Or.inl ⟨by rfl, ?_⟩) (by assumption) ?_
            rotate_left
            · (intro W hSw; (try dsimp only at hSw); go_simp <;> with_reducible rfl)
            try simp only [Act.put, List.setIfInBounds_toArray, List.set_cons_zero, List.set_cons_succ, List.getElem_toArray, List.getElem_cons_zero, List.getElem_cons_succ]
            refine wpAnyH_take (i := 3) (v := ?_) rfl (by kernel_rfl) (by kernel_rfl) (by kernel_rfl) (fun _ _ _ h => h) (Or.inl ⟨by rfl, ?_⟩) (by assumption) ?_
            rotate_left
            · (intro W hSw; (try dsimp only at hSw); go_simp <;> with_reducible rfl)
            try simp only [Act.put, List.setIfInBounds_toArray, List.set_cons_zero, List.set_cons_succ, List.getElem_toArray, List.getElem_cons_zero, List.getElem_cons_succ]
            refine wpAnyH_take (i := 4) (v := ?_) rfl (by kernel_rfl) (by kernel_rfl) (by kernel_rfl) (fun _ _ _ h => h) (Or.inl ⟨by rfl, ?_⟩) (by assumption) ?_
            rotate_left
            · (intro W hSw; (try dsimp only at hSw); go_simp <;> with_reducible rfl)
            try simp only [Act.put, List.setIfInBounds_toArray, List.set_cons_zero, List.set_cons_succ, List.getElem_toArray, List.getElem_cons_zero, List.getElem_cons_succ]
            refine wpAnyH_ready (rs := [5, 10]) (by kernel_rfl) (by simp) ?_
            refine AllReadyH.cons rfl (fun K hK => ?_) (AllReadyH.cons rfl (fun K hK => ?_) AllReadyH.nil)
            · try simp only [Act.put, List.setIfInBounds_toArray, List.set_cons_zero, List.set_cons_succ, List.getElem_toArray, List.getElem_cons_zero, List.getElem_cons_succ]
              go_simp
              refine (SAYS.out _ ((Keeps.refl Nil w7).drew)).mono ?_
              rintro ee wv ⟨⟨v', rfl, ⟨pA2, cA2, pE2, cE2, pM2, cM2, L2, R2, rfl, h2⟩⟩, kv⟩
              go_wp2_with fail
              refine hK.out _ _ ?_ (fun hHeld => ?_)
              · (try dsimp only); exact HS7.out _ (((Keeps.refl Nil w7).drew).trans kv)
              clear hK K
              try simp only [Act.put, List.setIfInBounds_toArray, List.set_cons_zero, List.set_cons_succ, List.getElem_toArray, List.getElem_cons_zero, List.getElem_cons_succ]
              refine wpAnyH_take (i := 6) (v := ?_) rfl (by kernel_rfl) (by kernel_rfl) (by kernel_rfl) (fun _ _ _ h => h) (Or.inl ⟨by rfl, ?_⟩) (by assumption) ?_
              rotate_left
              · (intro W hSw; (try dsimp only at hSw); go_simp <;> with_reducible rfl)
              try simp only [Act.put, List.setIfInBounds_toArray, List.set_cons_zero, List.set_cons_succ, List.getElem_toArray, List.getElem_cons_zero, List.getElem_cons_succ]
              refine wpAnyH_take (i := 7) (v := ?_) rfl (by kernel_rfl) (by kernel_rfl) (by kernel_rfl) (fun _ _ _ h => h) (Or.inl ⟨by rfl, ?_⟩) (by assumption) ?_
              rotate_left
              · (intro W hSw; (try dsimp only at hSw); go_simp <;> with_reducible rfl)
              try simp only [Act.put, List.setIfInBounds_toArray, List.set_cons_zero, List.set_cons_succ, List.getElem_toArray, List.getElem_cons_zero, List.getElem_cons_succ]
              refine wpAnyH_take (i := 8) (v := ?_) rfl (by kernel_rfl) (by kernel_rfl) (by kernel_rfl) (fun _ _ _ h => h) (Or.inl ⟨by rfl, ?_⟩) (by assumption) ?_
              rotate_left
              · (intro W hSw; (try dsimp only at hSw); go_simp <;> with_reducible rfl)
              try simp only [Act.put, List.setIfInBounds_toArray, List.set_cons_zero, List.set_cons_succ, List.getElem_toArray, List.getElem_cons_zero, List.getElem_cons_succ]
              refine wpAnyH_take (i := 9) (v := ?_) rfl (by kernel_rfl) (by kernel_rfl) (by kernel_rfl) (fun _ _ _ h => h) (Or.inl ⟨by rfl, ?_⟩) (by assumption) ?_
              rotate_left
              · (intro W hSw; (try dsimp only at hSw); go_simp <;> with_reducible rfl)
              try simp only [Act.put, List.setIfInBounds_toArray, List.set_cons_zero, List.set_cons_succ, List.getElem_toArray, List.getElem_cons_zero, List.getElem_cons_succ]
              refine wpAnyH_ready (rs := [10]) (by kernel_rfl) (by simp) ?_
              refine AllReadyH.cons rfl (fun K hK => ?_) AllReadyH.nil
              try simp only [Act.put, List.setIfInBounds_toArray, List.set_cons_zero, List.set_cons_succ, List.getElem_toArray, List.getElem_cons_zero, List.getElem_cons_succ]
              go_simp
              refine hK.out _ _ ?_ (fun hHeld => ?_)
              · (try dsimp only); exact HS7.out _ ((((Keeps.refl Nil w7).drew).trans kv).alloc _)
              clear hK K
              try simp only [Act.put, List.setIfInBounds_toArray, List.set_cons_zero, List.set_cons_succ, List.getElem_toArray, List.getElem_cons_zero, List.getElem_cons_succ]
              have h18 := alloc_block wv (.cells #[.int .i64 0, .slice Option.none 0 0, .slice Option.none 0 0, .slice Option.none 0 0] 34 (0, 0))
              obtain ⟨q0, q1, q2, q3⟩ := four_block h18
              obtain ⟨q4, q5, q6, q7⟩ := four_free h18
              have l18 := lt_of_block h18
              refine wpAnyH_ready (rs := [11]) (by kernel_rfl) (by simp) ?_
              refine AllReadyH.cons rfl (fun K hK => ?_) AllReadyH.nil
              try simp only [Act.put, List.setIfInBounds_toArray, List.set_cons_zero, List.set_cons_succ, List.getElem_toArray, List.getElem_cons_zero, List.getElem_cons_succ]
              go_simp
              refine hK.out _ _ ?_ (fun hHeld => ?_)
              · (try dsimp only); exact HS7.out _ ((((Keeps.refl Nil w7).drew).trans kv).alloc _)
              clear hK K
              try simp only [Act.put, List.setIfInBounds_toArray, List.set_cons_zero, List.set_cons_succ, List.getElem_toArray, List.getElem_cons_zero, List.getElem_cons_succ]
              refine wpAnyH_ready (rs := [12]) (by kernel_rfl) (by simp) ?_
              refine AllReadyH.cons rfl (fun K hK => ?_) AllReadyH.nil
              try simp only [Act.put, List.setIfInBounds_toArray, List.set_cons_zero, List.set_cons_succ, List.getElem_toArray, List.getElem_cons_zero, List.getElem_cons_succ]
              go_simp
              refine hK.out _ _ ?_ (fun hHeld => ?_)
              · (try dsimp only); exact hHeld
              clear hK K
              try simp only [Act.put, List.setIfInBounds_toArray, List.set_cons_zero, List.set_cons_succ, List.getElem_toArray, List.getElem_cons_zero, List.getElem_cons_succ]
              refine wpAnyH_ready (rs := [13]) (by kernel_rfl) (by simp) ?_
              refine AllReadyH.cons rfl (fun K hK => ?_) AllReadyH.nil
              try simp only [Act.put, List.setIfInBounds_toArray, List.set_cons_zero, List.set_cons_succ, List.getElem_toArray, List.getElem_cons_zero, List.getElem_cons_succ]
              go_simp
              refine hK.out _ _ ?_ (fun hHeld => ?_)
              · (try dsimp only); exact hHeld
              clear hK K
              try simp only [Act.put, List.setIfInBounds_toArray, List.set_cons_zero, List.set_cons_succ, List.getElem_toArray, List.getElem_cons_zero, List.getElem_cons_succ]
              refine wpAnyH_done (by kernel_rfl) ?_ _
              clear q0 q1 q2 q3 q4 q5 q6 q7 l18 h18
              go_wp2_with fail
              go_meet
              exact ⟨_, _, _, _, _, _, _, _, _, rfl, rfl, rfl, hid ⟨alloc_block _ _, h2.keepN ((Keeps.refl _ _).alloc _), (((Keeps.refl Nil w7).drew).trans kv).alloc _⟩⟩
            · try simp only [Act.put, List.setIfInBounds_toArray, List.set_cons_zero, List.set_cons_succ, List.getElem_toArray, List.getElem_cons_zero, List.getElem_cons_succ]
              go_simp
              refine hK.out _ _ ?_ (fun hHeld => ?_)
              · (try dsimp only); first | exact HS7.out _ (((Keeps.refl Nil w7).drew).alloc _) | exact HS7.out _ (((Keeps.refl Nil w7).alloc (.cells #[.int .i64 0, .slice Option.none 0 0, .slice Option.none 0 0, .slice Option.none 0 0] 34 (0, 0))).drew)
              clear hK K
              try simp only [Act.put, List.setIfInBounds_toArray, List.set_cons_zero, List.set_cons_succ, List.getElem_toArray, List.getElem_cons_zero, List.getElem_cons_succ]
              have h180 := alloc_block w7 (.cells #[.int .i64 0, .slice Option.none 0 0, .slice Option.none 0 0, .slice Option.none 0 0] 34 (0, 0))
              refine wpAnyH_ready (rs := [5]) (by kernel_rfl) (by simp) ?_
              refine AllReadyH.cons rfl (fun K hK => ?_) AllReadyH.nil
              try simp only [Act.put, List.setIfInBounds_toArray, List.set_cons_zero, List.set_cons_succ, List.getElem_toArray, List.getElem_cons_zero, List.getElem_cons_succ]
              go_simp
              refine (SAYS.out _ (((Keeps.refl Nil w7).alloc (.cells #[.int .i64 0, .slice Option.none 0 0, .slice Option.none 0 0, .slice Option.none 0 0] 34 (0, 0))).drew)).mono ?_
              rintro ee wv ⟨⟨v', rfl, ⟨pA2, cA2, pE2, cE2, pM2, cM2, L2, R2, rfl, h2⟩⟩, kv⟩
              go_wp2_with fail
              refine hK.out _ _ ?_ (fun hHeld => ?_)
              · (try dsimp only); exact HS7.out _ ((((Keeps.refl Nil w7).alloc (.cells #[.int .i64 0, .slice Option.none 0 0, .slice Option.none 0 0, .slice Option.none 0 0] 34 (0, 0))).drew).trans kv)
              clear hK K
              try simp only [Act.put, List.setIfInBounds_toArray, List.set_cons_zero, List.set_cons_succ, List.getElem_toArray, List.getElem_cons_zero, List.getElem_cons_succ]
              refine wpAnyH_take (i := 6) (v := ?_) rfl (by kernel_rfl) (by kernel_rfl) (by kernel_rfl) (fun _ _ _ h => h) (Or.inl ⟨by rfl, ?_⟩) (by assumption) ?_
              rotate_left
              · (intro W hSw; (try dsimp only at hSw); go_simp <;> with_reducible rfl)
              try simp only [Act.put, List.setIfInBounds_toArray, List.set_cons_zero, List.set_cons_succ, List.getElem_toArray, List.getElem_cons_zero, List.getElem_cons_succ]
              refine wpAnyH_take (i := 7) (v := ?_) rfl (by kernel_rfl) (by kernel_rfl) (by kernel_rfl) (fun _ _ _ h => h) (Or.inl ⟨by rfl, ?_⟩) (by assumption) ?_
              rotate_left
              · (intro W hSw; (try dsimp only at hSw); go_simp <;> with_reducible rfl)
              try simp only [Act.put, List.setIfInBounds_toArray, List.set_cons_zero, List.set_cons_succ, List.getElem_toArray, List.getElem_cons_zero, List.getElem_cons_succ]
              refine wpAnyH_take (i := 8) (v := ?_) rfl (by kernel_rfl) (by kernel_rfl) (by kernel_rfl) (fun _ _ _ h => h) (Or.inl ⟨by rfl, ?_⟩) (by assumption) ?_
              rotate_left
              · (intro W hSw; (try dsimp only at hSw); go_simp <;> with_reducible rfl)
              try simp only [Act.put, List.setIfInBounds_toArray, List.set_cons_zero, List.set_cons_succ, List.getElem_toArray, List.getElem_cons_zero, List.getElem_cons_succ]
              refine wpAnyH_take (i := 9) (v := ?_) rfl (by kernel_rfl) (by kernel_rfl) (by kernel_rfl) (fun _ _ _ h => h) (Or.inl ⟨by rfl, ?_⟩) (by assumption) ?_
              rotate_left
              · (intro W hSw; (try dsimp only at hSw); go_simp <;> with_reducible rfl)
              try simp only [Act.put, List.setIfInBounds_toArray, List.set_cons_zero, List.set_cons_succ, List.getElem_toArray, List.getElem_cons_zero, List.getElem_cons_succ]
              have h18 := kv.lies (show _ = some _ from h180)
              obtain ⟨q0, q1, q2, q3⟩ := four_block h18
              obtain ⟨q4, q5, q6, q7⟩ := four_free h18
              have l18 := lt_of_block h18
              have kq := (((Keeps.refl Nil w7).alloc (.cells #[.int .i64 0, .slice Option.none 0 0, .slice Option.none 0 0, .slice Option.none 0 0] 34 (0, 0))).drew).trans kv
              refine wpAnyH_ready (rs := [11]) (by kernel_rfl) (by simp) ?_
              refine AllReadyH.cons rfl (fun K hK => ?_) AllReadyH.nil
              try simp only [Act.put, List.setIfInBounds_toArray, List.set_cons_zero, List.set_cons_succ, List.getElem_toArray, List.getElem_cons_zero, List.getElem_cons_succ]
              go_simp
              refine hK.out _ _ ?_ (fun hHeld => ?_)
              · (try dsimp only); exact HS7.out _ ((((kq.setCell (p := ⟨w7.heap.size, 0, Option.none⟩) (fun h => absurd h (Nat.lt_irrefl _)) _).setCell (p := ⟨w7.heap.size, 1, Option.none⟩) (fun h => absurd h (Nat.lt_irrefl _)) _).setCell (p := ⟨w7.heap.size, 2, Option.none⟩) (fun h => absurd h (Nat.lt_irrefl _)) _).setCell (p := ⟨w7.heap.size, 3, Option.none⟩) (fun h => absurd h (Nat.lt_irrefl _)) _)
              clear hK K
              try simp only [Act.put, List.setIfInBounds_toArray, List.set_cons_zero, List.set_cons_succ, List.getElem_toArray, List.getElem_cons_zero, List.getElem_cons_succ]
              refine wpAnyH_ready (rs := [12]) (by kernel_rfl) (by simp) ?_
              refine AllReadyH.cons rfl (fun K hK => ?_) AllReadyH.nil
              try simp only [Act.put, List.setIfInBounds_toArray, List.set_cons_zero, List.set_cons_succ, List.getElem_toArray, List.getElem_cons_zero, List.getElem_cons_succ]
              go_simp
              refine hK.out _ _ ?_ (fun hHeld => ?_)
              · (try dsimp only); exact hHeld
              clear hK K
              try simp only [Act.put, List.setIfInBounds_toArray, List.set_cons_zero, List.set_cons_succ, List.getElem_toArray, List.getElem_cons_zero, List.getElem_cons_succ]
              refine wpAnyH_ready (rs := [13]) (by kernel_rfl) (by simp) ?_
              refine AllReadyH.cons rfl (fun K hK => ?_) AllReadyH.nil
              try simp only [Act.put, List.setIfInBounds_toArray, List.set_cons_zero, List.set_cons_succ, List.getElem_toArray, List.getElem_cons_zero, List.getElem_cons_succ]
              go_simp
              refine hK.out _ _ ?_ (fun hHeld => ?_)
              · (try dsimp only); exact hHeld
              clear hK K
              try simp only [Act.put, List.setIfInBounds_toArray, List.set_cons_zero, List.set_cons_succ, List.getElem_toArray, List.getElem_cons_zero, List.getElem_cons_succ]
              refine wpAnyH_done (by kernel_rfl) ?_ _
              go_wp2_with fail
              go_meet
              obtain ⟨w9, hw9, hF, k9⟩ := set4 h18 (.int .i64 τ2.n) (.slice pA2 L2.length cA2) (.slice pE2 τ2.E.length cE2) (.slice pM2 R2.length cM2)
              rw [hw9]
              have nt : ∀ T, T ≠ 34 → NotT wv T (At w7.heap.size) := fun T hne => notT_at h18 (fun e => hne e.symm)
              exact ⟨_, _, _, _, _, _, _, _, _, rfl, rfl, rfl, hid ⟨hF, h2.keepT k9 (nt 37 (by decide)) (nt 39 (by decide)) (nt 41 (by decide)) (fun q e => by rw [At] at e; have := HRT7.out.base.size; omega), kq.thenAt k9 (Nat.le_refl _)⟩⟩
          case rest =>
            obtain ⟨b18, pA2, cA2, pE2, cE2, pM2, cM2, L2, R2, rfl, rfl, rfl, HC⟩ := hcut
            obtain ⟨q0, q1, q2, q3⟩ := four_block HC.out.1
            have l18 := lt_of_block HC.out.1
            have h13c := HC.out.2.2.lies H137.out
            obtain ⟨z0, z1, z2, z3⟩ := four_block h13c
            obtain ⟨f0, f1, f2, f3⟩ := four_free h13c
            have l13 := lt_of_block h13c
            have H13C := hid h13c
            clear h13c
            go_upto_region 17 with (fail)
            obtain ⟨w8, hw8, hF, k8⟩ := set4 H13C.out (.int .i64 τ2.n) (.slice pA2 L2.length cA2) (.slice pE2 τ2.E.length cE2) (.slice pM2 R2.length cM2)
            rw [hw8]
            have nt : ∀ T, T ≠ 34 → NotT wc T (At b13) := fun T hne => notT_at H13C.out (fun e => hne e.symm)
            have n13 : ¬ (S b13 ∧ Kind w6 b13) := fun e => kind_not (S := S) (w := w6) (T := 34) (by decide) b13 _ _ e H136.out
            have HT8 := hid ((Tbl.keepN HT7.out HC.out.2.2).keep k8 (fun q hq e => by rw [At] at e; subst e; rcases hq with hq | hq; exact n13 hq; omega))
            have HRT8 := hid (HC.out.2.1.keepT k8 (nt 37 (by decide)) (nt 39 (by decide)) (nt 41 (by decide)) (fun q e => by rw [At] at e; omega))
            have OWN8 := hid (ownsRow_keep (own_keepN OWN7.out HC.out.2.2) k8 (fun q hq e => by rw [At] at e; omega))
            have H158 := hid (k8.lies (HC.out.2.2.lies H157.out) (fun e => by rw [At] at e; omega))
            have H138 := hid hF
            have HP8 := hid (row_there OWN8.out)
            have HP6 := hid (show ∀ q, p' = some ⟨q, 0, Option.none⟩ → w4.heap.size ≤ q ∧ q < w6.heap.size from fun q e => by
              obtain ⟨h1, cur, h2, _⟩ := (row_there OWN6.out).2.2 q e
              exact ⟨h1, lt_of_block h2⟩)
            have hnc8 := (row_there OWN8.out).1
            have HS6 := hid hS6
            clear q0 q1 q2 q3 l18 z0 z1 z2 z3 f0 f1 f2 f3 l13 hw8 hF k8 nt n13 hS6
            go_wp2_with fail
            go_loopw [21] (fun s21 wx => ∃ j : Nat, j ≤ x.a.ms.length ∧ s21 = .int .i64 j ∧ Hid (Keeps (InP p') w8 wx ∧ ∀ q, p' = some ⟨q, 0, Option.none⟩ → ∃ cur : Array Value, wx.heap[q]? = some (.cells cur 23 (0, 0)) ∧ x.a.ms.length ≤ cur.size)) (fun s21 _ => x.a.ms.length - (intOf s21).toNat)
            case atStart => exact ⟨0, Nat.zero_le _, rfl, hid ⟨Keeps.refl _ _, fun q e => (HP8.out.2.2 q e).2⟩⟩
            case round =>
              obtain ⟨j, hj, rfl, HR⟩ := hrel
              have hI : ∀ q, InP p' q → w4.heap.size ≤ q ∧ q < w6.heap.size := fun q e => HP6.out q e
              have h159 := HR.out.1.lies H158.out (fun e => by have := (hI _ e).1; omega)
              have HI := hid hI
              obtain ⟨z0, z1, z2, z3, z4, z5, z6, z7, z8, z9, z10, z11, z12, z13⟩ := fourteen_block h159
              have l159 := lt_of_block h159
              have H159 := hid h159
              clear z0 z1 z2 z3 z4 z5 z7 z8 z9 z10 z11 z12 z13 hI h159
              by_cases hjt : j < x.a.ms.length
              · obtain ⟨q, hq⟩ := HP8.out.2.1 (by omega)
                obtain ⟨cur, hcur, hcl⟩ := HR.out.2 q hq
                obtain ⟨cv, hcell⟩ : ∃ cv, wr.cell? ⟨q, j, Option.none⟩ = some cv := ⟨cur[j]'(by omega), by simp [World.cell?, hcur]⟩
                have hfr := free_block hcur j
                have lq := lt_of_block hcur
                rw [hq] at z6
                have HQ := hid hq
                have HCUR := hid hcur
                have hcl' := hid hcl
                clear hcur hcl
                clear hq
                go_wp2_with fail
                go_roundw
                case rel =>
                  refine ⟨j + 1, by omega, by go_num, hid ⟨HR.out.1.set q j HQ.out _, fun q' e => ?_⟩⟩
                  have e2 := HQ.out
                  rw [e2] at e
                  injection e with e
                  injection e with e
                  subst e
                  exact ⟨_, setCell_block HCUR.out j _, by have := hcl'.out; simpa using this⟩
                case measure => simp only [intOf]; omega
              · obtain rfl : j = x.a.ms.length := by omega
                have H139 := hid (HR.out.1.lies H138.out (fun e => by have := (HI.out _ e).1; omega))
                have HT9 := hid (HT8.out.keep HR.out.1 (fun q hNw e => by
                  have h1 := HI.out q e
                  rcases hNw with h | h
                  · have := HS6.out q h.1; omega
                  · omega))
                have ntI : ∀ T, T ≠ 23 → NotT w8 T (InP p') := fun T hne q c fr hq e => by
                  obtain ⟨_, cur, hc, _⟩ := HP8.out.2.2 q hq
                  rw [hc] at e
                  injection e with e
                  injection e with _ e
                  exact hne e.symm
                have HRT9 := hid (HRT8.out.keepT HR.out.1 (ntI 37 (by decide)) (ntI 39 (by decide)) (ntI 41 (by decide)) (fun q e => by have := (HI.out q e).1; omega))
                have HG9 := hid (HOK7.out.good (by omega))
                obtain ⟨g2, off2, hpp2, _, hgl9, _, c0, c1, c2, c3, c4, c5, c6, c7, c8, c9, c10, c11, c12, c13⟩ := WV.atX (HL.out.keepN (K2.out.trans HRT9.out.base)) HX.out
                injection hpp2 with hpp2; injection hpp2 with e1 e2; subst e1 e2
                have HS9 := hid (show ∀ X, Keeps Nil wr X → (X.cell? ⟨b13, 0, Option.none⟩ = some (.int .i64 τ2.n) ∧ X.cell? ⟨b13, 1, Option.none⟩ = some (.slice pA2 L2.length cA2) ∧ X.cell? ⟨b13, 2, Option.none⟩ = some (.slice pE2 τ2.E.length cE2) ∧ X.cell? ⟨b13, 3, Option.none⟩ = some (.slice pM2 R2.length cM2)) ∧ X.cell? ⟨g, off + k * 14 + 7, Option.none⟩ = some (.int .i64 x.e.ai) ∧ X.cell? ⟨g, off + k * 14 + 9, Option.none⟩ = some (.int .u8 x.e.port) ∧ X.cell? ⟨g, off + k * 14 + 11, Option.none⟩ = some (.int .u8 x.m.port) ∧ X.cell? ⟨g, off + k * 14 + 12, Option.none⟩ = some (.int .u16 x.m.vid) from fun X kx =>
                  ⟨four_block (kx.lies H139.out), (kx.cell hgl9 (fun e => e)).trans c7, (kx.cell hgl9 (fun e => e)).trans c9, (kx.cell hgl9 (fun e => e)).trans c11, (kx.cell hgl9 (fun e => e)).trans c12⟩)
                have CS1 := hid (fun (W : World) (kW : Keeps Nil wr W) => r_same x.e.port x.m.vid x.e.ai ⟨HXO.out.2.1.1, HXO.out.2.2.1.2.1⟩ (k + 1) (HT9.out.keepN kW) (HRT9.out.keepN kW).rv HG9.out (by omega))
                have CS2 := hid (fun (W : World) (kW : Keeps Nil wr W) => r_same x.m.port x.m.vid 0 ⟨HXO.out.2.2.1.1, HXO.out.2.2.1.2.1⟩ (k + 1) (HT9.out.keepN kW) (HRT9.out.keepN kW).rv HG9.out (by omega))
                clear c0 c1 c2 c3 c4 c5 c6 c7 c8 c9 c10 c11 c12 c13 hjt hj
                go_wp2_with fail
                go_cut [148] (fun s148 wx => s148 = .bool false ∧ Hid (Keeps Nil wr wx))
                case first =>
                  clear z6 l159
                  refine wp_region_R (fun w => Keeps.refl Nil w) 49 (by kernel_rfl) ?_
                  refine wpAnyR_take (i := 0) (v := ?_) (fun w => Keeps.refl Nil w) (fun a b c h k => h.trans k) rfl (by kernel_rfl) (by kernel_rfl) (by kernel_rfl) (by kernel_rfl) (fun _ _ _ h => h) (Or.inl ⟨by rfl, fun W hW => Or.inl ?_⟩) ?_
                  rotate_left
                  · (obtain ⟨⟨u0, u1, u2, u3⟩, u4, u5, u6, u7⟩ := HS9.out W (((Keeps.refl Nil wr).drew).trans hW); go_simp <;> with_reducible rfl)
                  try simp only [Act.put, List.setIfInBounds_toArray, List.set_cons_zero, List.set_cons_succ, List.getElem_toArray, List.getElem_cons_zero, List.getElem_cons_succ]
                  refine wpAnyR_take (i := 1) (v := ?_) (fun w => Keeps.refl Nil w) (fun a b c h k => h.trans k) rfl (by kernel_rfl) (by kernel_rfl) (by kernel_rfl) (by kernel_rfl) (fun _ _ _ h => h) (Or.inl ⟨by rfl, fun W hW => Or.inl ?_⟩) ?_
                  rotate_left
                  · (obtain ⟨⟨u0, u1, u2, u3⟩, u4, u5, u6, u7⟩ := HS9.out W (((Keeps.refl Nil wr).drew).trans hW); go_simp <;> with_reducible rfl)
                  try simp only [Act.put, List.setIfInBounds_toArray, List.set_cons_zero, List.set_cons_succ, List.getElem_toArray, List.getElem_cons_zero, List.getElem_cons_succ]
                  refine wpAnyR_take (i := 2) (v := ?_) (fun w => Keeps.refl Nil w) (fun a b c h k => h.trans k) rfl (by kernel_rfl) (by kernel_rfl) (by kernel_rfl) (by kernel_rfl) (fun _ _ _ h => h) (Or.inl ⟨by rfl, fun W hW => Or.inl ?_⟩) ?_
                  rotate_left
                  · (obtain ⟨⟨u0, u1, u2, u3⟩, u4, u5, u6, u7⟩ := HS9.out W (((Keeps.refl Nil wr).drew).trans hW); go_simp <;> with_reducible rfl)
                  try simp only [Act.put, List.setIfInBounds_toArray, List.set_cons_zero, List.set_cons_succ, List.getElem_toArray, List.getElem_cons_zero, List.getElem_cons_succ]
                  refine wpAnyR_take (i := 3) (v := ?_) (fun w => Keeps.refl Nil w) (fun a b c h k => h.trans k) rfl (by kernel_rfl) (by kernel_rfl) (by kernel_rfl) (by kernel_rfl) (fun _ _ _ h => h) (Or.inl ⟨by rfl, fun W hW => Or.inl ?_⟩) ?_
                  rotate_left
                  · (obtain ⟨⟨u0, u1, u2, u3⟩, u4, u5, u6, u7⟩ := HS9.out W (((Keeps.refl Nil wr).drew).trans hW); go_simp <;> with_reducible rfl)
                  try simp only [Act.put, List.setIfInBounds_toArray, List.set_cons_zero, List.set_cons_succ, List.getElem_toArray, List.getElem_cons_zero, List.getElem_cons_succ]
                  refine wpAnyR_take (i := 4) (v := ?_) (fun w => Keeps.refl Nil w) (fun a b c h k => h.trans k) rfl (by kernel_rfl) (by kernel_rfl) (by kernel_rfl) (by kernel_rfl) (fun _ _ _ h => h) (Or.inl ⟨by rfl, fun W hW => Or.inl ?_⟩) ?_
                  rotate_left
                  · (obtain ⟨⟨u0, u1, u2, u3⟩, u4, u5, u6, u7⟩ := HS9.out W (((Keeps.refl Nil wr).drew).trans hW); go_simp <;> with_reducible rfl)
                  try simp only [Act.put, List.setIfInBounds_toArray, List.set_cons_zero, List.set_cons_succ, List.getElem_toArray, List.getElem_cons_zero, List.getElem_cons_succ]
                  refine wpAnyR_take (i := 5) (v := ?_) (fun w => Keeps.refl Nil w) (fun a b c h k => h.trans k) rfl (by kernel_rfl) (by kernel_rfl) (by kernel_rfl) (by kernel_rfl) (fun _ _ _ h => h) (Or.inl ⟨by rfl, fun W hW => Or.inl ?_⟩) ?_
                  rotate_left
                  · (obtain ⟨⟨u0, u1, u2, u3⟩, u4, u5, u6, u7⟩ := HS9.out W (((Keeps.refl Nil wr).drew).trans hW); go_simp <;> with_reducible rfl)
                  try simp only [Act.put, List.setIfInBounds_toArray, List.set_cons_zero, List.set_cons_succ, List.getElem_toArray, List.getElem_cons_zero, List.getElem_cons_succ]
                  refine wpAnyR_take (i := 6) (v := ?_) (fun w => Keeps.refl Nil w) (fun a b c h k => h.trans k) rfl (by kernel_rfl) (by kernel_rfl) (by kernel_rfl) (by kernel_rfl) (fun _ _ _ h => h) (Or.inl ⟨by rfl, fun W hW => Or.inl ?_⟩) ?_
                  rotate_left
                  · (obtain ⟨⟨u0, u1, u2, u3⟩, u4, u5, u6, u7⟩ := HS9.out W (((Keeps.refl Nil wr).drew).trans hW); go_simp <;> with_reducible rfl)
                  try simp only [Act.put, List.setIfInBounds_toArray, List.set_cons_zero, List.set_cons_succ, List.getElem_toArray, List.getElem_cons_zero, List.getElem_cons_succ]
                  refine wpAnyR_take (i := 7) (v := ?_) (fun w => Keeps.refl Nil w) (fun a b c h k => h.trans k) rfl (by kernel_rfl) (by kernel_rfl) (by kernel_rfl) (by kernel_rfl) (fun _ _ _ h => h) (Or.inl ⟨by rfl, fun W hW => Or.inl ?_⟩) ?_
                  rotate_left
                  · (obtain ⟨⟨u0, u1, u2, u3⟩, u4, u5, u6, u7⟩ := HS9.out W (((Keeps.refl Nil wr).drew).trans hW); go_simp <;> with_reducible rfl)
                  try simp only [Act.put, List.setIfInBounds_toArray, List.set_cons_zero, List.set_cons_succ, List.getElem_toArray, List.getElem_cons_zero, List.getElem_cons_succ]
                  refine wpAnyR_take (i := 8) (v := ?_) (fun w => Keeps.refl Nil w) (fun a b c h k => h.trans k) rfl (by kernel_rfl) (by kernel_rfl) (by kernel_rfl) (by kernel_rfl) (fun _ _ _ h => h) (Or.inl ⟨by rfl, fun W hW => Or.inl ?_⟩) ?_
                  rotate_left
                  · (obtain ⟨⟨u0, u1, u2, u3⟩, u4, u5, u6, u7⟩ := HS9.out W (((Keeps.refl Nil wr).drew).trans hW); go_simp <;> with_reducible rfl)
                  try simp only [Act.put, List.setIfInBounds_toArray, List.set_cons_zero, List.set_cons_succ, List.getElem_toArray, List.getElem_cons_zero, List.getElem_cons_succ]
                  refine wpAnyR_take (i := 9) (v := ?_) (fun w => Keeps.refl Nil w) (fun a b c h k => h.trans k) rfl (by kernel_rfl) (by kernel_rfl) (by kernel_rfl) (by kernel_rfl) (fun _ _ _ h => h) (Or.inl ⟨by rfl, fun W hW => Or.inl ?_⟩) ?_
                  rotate_left
                  · (obtain ⟨⟨u0, u1, u2, u3⟩, u4, u5, u6, u7⟩ := HS9.out W (((Keeps.refl Nil wr).drew).trans hW); go_simp <;> with_reducible rfl)
                  try simp only [Act.put, List.setIfInBounds_toArray, List.set_cons_zero, List.set_cons_succ, List.getElem_toArray, List.getElem_cons_zero, List.getElem_cons_succ]
                  refine wpAnyR_take (i := 10) (v := ?_) (fun w => Keeps.refl Nil w) (fun a b c h k => h.trans k) rfl (by kernel_rfl) (by kernel_rfl) (by kernel_rfl) (by kernel_rfl) (fun _ _ _ h => h) (Or.inl ⟨by rfl, fun W hW => Or.inl ?_⟩) ?_
                  rotate_left
                  · (obtain ⟨⟨u0, u1, u2, u3⟩, u4, u5, u6, u7⟩ := HS9.out W (((Keeps.refl Nil wr).drew).trans hW); go_simp <;> with_reducible rfl)
                  try simp only [Act.put, List.setIfInBounds_toArray, List.set_cons_zero, List.set_cons_succ, List.getElem_toArray, List.getElem_cons_zero, List.getElem_cons_succ]
                  refine wpAnyR_take (i := 11) (v := ?_) (fun w => Keeps.refl Nil w) (fun a b c h k => h.trans k) rfl (by kernel_rfl) (by kernel_rfl) (by kernel_rfl) (by kernel_rfl) (fun _ _ _ h => h) (Or.inl ⟨by rfl, fun W hW => Or.inl ?_⟩) ?_
                  rotate_left
                  · (obtain ⟨⟨u0, u1, u2, u3⟩, u4, u5, u6, u7⟩ := HS9.out W (((Keeps.refl Nil wr).drew).trans hW); go_simp <;> with_reducible rfl)
                  try simp only [Act.put, List.setIfInBounds_toArray, List.set_cons_zero, List.set_cons_succ, List.getElem_toArray, List.getElem_cons_zero, List.getElem_cons_succ]
                  refine wpAnyR_take (i := 12) (v := ?_) (fun w => Keeps.refl Nil w) (fun a b c h k => h.trans k) rfl (by kernel_rfl) (by kernel_rfl) (by kernel_rfl) (by kernel_rfl) (fun _ _ _ h => h) (Or.inl ⟨by rfl, fun W hW => Or.inl ?_⟩) ?_
                  rotate_left
                  · (obtain ⟨⟨u0, u1, u2, u3⟩, u4, u5, u6, u7⟩ := HS9.out W (((Keeps.refl Nil wr).drew).trans hW); go_simp <;> with_reducible rfl)
                  try simp only [Act.put, List.setIfInBounds_toArray, List.set_cons_zero, List.set_cons_succ, List.getElem_toArray, List.getElem_cons_zero, List.getElem_cons_succ]
                  refine wpAnyR_take (i := 13) (v := ?_) (fun w => Keeps.refl Nil w) (fun a b c h k => h.trans k) rfl (by kernel_rfl) (by kernel_rfl) (by kernel_rfl) (by kernel_rfl) (fun _ _ _ h => h) (Or.inl ⟨by rfl, fun W hW => Or.inl ?_⟩) ?_
                  rotate_left
                  · (obtain ⟨⟨u0, u1, u2, u3⟩, u4, u5, u6, u7⟩ := HS9.out W (((Keeps.refl Nil wr).drew).trans hW); go_simp <;> with_reducible rfl)
                  try simp only [Act.put, List.setIfInBounds_toArray, List.set_cons_zero, List.set_cons_succ, List.getElem_toArray, List.getElem_cons_zero, List.getElem_cons_succ]
                  refine wpAnyR_take (i := 14) (v := ?_) (fun w => Keeps.refl Nil w) (fun a b c h k => h.trans k) rfl (by kernel_rfl) (by kernel_rfl) (by kernel_rfl) (by kernel_rfl) (fun _ _ _ h => h) (Or.inl ⟨by rfl, fun W hW => Or.inl ?_⟩) ?_
                  rotate_left
                  · (obtain ⟨⟨u0, u1, u2, u3⟩, u4, u5, u6, u7⟩ := HS9.out W (((Keeps.refl Nil wr).drew).trans hW); go_simp <;> with_reducible rfl)
                  try simp only [Act.put, List.setIfInBounds_toArray, List.set_cons_zero, List.set_cons_succ, List.getElem_toArray, List.getElem_cons_zero, List.getElem_cons_succ]
                  refine wpAnyR_take (i := 15) (v := ?_) (fun w => Keeps.refl Nil w) (fun a b c h k => h.trans k) rfl (by kernel_rfl) (by kernel_rfl) (by kernel_rfl) (by kernel_rfl) (fun _ _ _ h => h) (Or.inl ⟨by rfl, fun W hW => Or.inl ?_⟩) ?_
                  rotate_left
                  · (obtain ⟨⟨u0, u1, u2, u3⟩, u4, u5, u6, u7⟩ := HS9.out W (((Keeps.refl Nil wr).drew).trans hW); go_simp <;> with_reducible rfl)
                  try simp only [Act.put, List.setIfInBounds_toArray, List.set_cons_zero, List.set_cons_succ, List.getElem_toArray, List.getElem_cons_zero, List.getElem_cons_succ]
                  refine wpAnyR_take (i := 16) (v := ?_) (fun w => Keeps.refl Nil w) (fun a b c h k => h.trans k) rfl (by kernel_rfl) (by kernel_rfl) (by kernel_rfl) (by kernel_rfl) (fun _ _ _ h => h) (Or.inl ⟨by rfl, fun W hW => Or.inl ?_⟩) ?_
                  rotate_left
                  · (obtain ⟨⟨u0, u1, u2, u3⟩, u4, u5, u6, u7⟩ := HS9.out W (((Keeps.refl Nil wr).drew).trans hW); go_simp <;> with_reducible rfl)
                  try simp only [Act.put, List.setIfInBounds_toArray, List.set_cons_zero, List.set_cons_succ, List.getElem_toArray, List.getElem_cons_zero, List.getElem_cons_succ]
                  refine wpAnyR_take (i := 17) (v := ?_) (fun w => Keeps.refl Nil w) (fun a b c h k => h.trans k) rfl (by kernel_rfl) (by kernel_rfl) (by kernel_rfl) (by kernel_rfl) (fun _ _ _ h => h) (Or.inl ⟨by rfl, fun W hW => Or.inl ?_⟩) ?_
                  rotate_left
                  · (obtain ⟨⟨u0, u1, u2, u3⟩, u4, u5, u6, u7⟩ := HS9.out W (((Keeps.refl Nil wr).drew).trans hW); go_simp <;> with_reducible rfl)
                  try simp only [Act.put, List.setIfInBounds_toArray, List.set_cons_zero, List.set_cons_succ, List.getElem_toArray, List.getElem_cons_zero, List.getElem_cons_succ]
                  refine wpAnyR_take (i := 18) (v := ?_) (fun w => Keeps.refl Nil w) (fun a b c h k => h.trans k) rfl (by kernel_rfl) (by kernel_rfl) (by kernel_rfl) (by kernel_rfl) (fun _ _ _ h => h) (Or.inl ⟨by rfl, fun W hW => Or.inl ?_⟩) ?_
                  rotate_left
                  · (obtain ⟨⟨u0, u1, u2, u3⟩, u4, u5, u6, u7⟩ := HS9.out W (((Keeps.refl Nil wr).drew).trans hW); go_simp <;> with_reducible rfl)
                  try simp only [Act.put, List.setIfInBounds_toArray, List.set_cons_zero, List.set_cons_succ, List.getElem_toArray, List.getElem_cons_zero, List.getElem_cons_succ]
                  refine wpAnyR_take (i := 19) (v := ?_) (fun w => Keeps.refl Nil w) (fun a b c h k => h.trans k) rfl (by kernel_rfl) (by kernel_rfl) (by kernel_rfl) (by kernel_rfl) (fun _ _ _ h => h) (Or.inl ⟨by rfl, fun W hW => Or.inl ?_⟩) ?_
                  rotate_left
                  · (obtain ⟨⟨u0, u1, u2, u3⟩, u4, u5, u6, u7⟩ := HS9.out W (((Keeps.refl Nil wr).drew).trans hW); go_simp <;> with_reducible rfl)
                  try simp only [Act.put, List.setIfInBounds_toArray, List.set_cons_zero, List.set_cons_succ, List.getElem_toArray, List.getElem_cons_zero, List.getElem_cons_succ]
                  refine wpAnyR_take (i := 20) (v := ?_) (fun w => Keeps.refl Nil w) (fun a b c h k => h.trans k) rfl (by kernel_rfl) (by kernel_rfl) (by kernel_rfl) (by kernel_rfl) (fun _ _ _ h => h) (Or.inl ⟨by rfl, fun W hW => Or.inl ?_⟩) ?_
                  rotate_left
                  · (obtain ⟨⟨u0, u1, u2, u3⟩, u4, u5, u6, u7⟩ := HS9.out W (((Keeps.refl Nil wr).drew).trans hW); go_simp <;> with_reducible rfl)
                  try simp only [Act.put, List.setIfInBounds_toArray, List.set_cons_zero, List.set_cons_succ, List.getElem_toArray, List.getElem_cons_zero, List.getElem_cons_succ]
                  refine wpAnyR_take (i := 21) (v := ?_) (fun w => Keeps.refl Nil w) (fun a b c h k => h.trans k) rfl (by kernel_rfl) (by kernel_rfl) (by kernel_rfl) (by kernel_rfl) (fun _ _ _ h => h) (Or.inl ⟨by rfl, fun W hW => Or.inl ?_⟩) ?_
                  rotate_left
                  · (obtain ⟨⟨u0, u1, u2, u3⟩, u4, u5, u6, u7⟩ := HS9.out W (((Keeps.refl Nil wr).drew).trans hW); go_simp <;> with_reducible rfl)
                  try simp only [Act.put, List.setIfInBounds_toArray, List.set_cons_zero, List.set_cons_succ, List.getElem_toArray, List.getElem_cons_zero, List.getElem_cons_succ]
                  refine wpAnyR_take (i := 22) (v := ?_) (fun w => Keeps.refl Nil w) (fun a b c h k => h.trans k) rfl (by kernel_rfl) (by kernel_rfl) (by kernel_rfl) (by kernel_rfl) (fun _ _ _ h => h) (Or.inl ⟨by rfl, fun W hW => Or.inl ?_⟩) ?_
                  rotate_left
                  · (obtain ⟨⟨u0, u1, u2, u3⟩, u4, u5, u6, u7⟩ := HS9.out W (((Keeps.refl Nil wr).drew).trans hW); go_simp <;> with_reducible rfl)
                  try simp only [Act.put, List.setIfInBounds_toArray, List.set_cons_zero, List.set_cons_succ, List.getElem_toArray, List.getElem_cons_zero, List.getElem_cons_succ]
                  refine wpAnyR_take (i := 23) (v := ?_) (fun w => Keeps.refl Nil w) (fun a b c h k => h.trans k) rfl (by kernel_rfl) (by kernel_rfl) (by kernel_rfl) (by kernel_rfl) (fun _ _ _ h => h) (Or.inl ⟨by rfl, fun W hW => Or.inl ?_⟩) ?_
                  rotate_left
                  · (obtain ⟨⟨u0, u1, u2, u3⟩, u4, u5, u6, u7⟩ := HS9.out W (((Keeps.refl Nil wr).drew).trans hW); go_simp <;> with_reducible rfl)
                  try simp only [Act.put, List.setIfInBounds_toArray, List.set_cons_zero, List.set_cons_succ, List.getElem_toArray, List.getElem_cons_zero, List.getElem_cons_succ]
                  refine wpAnyR_take (i := 24) (v := ?_) (fun w => Keeps.refl Nil w) (fun a b c h k => h.trans k) rfl (by kernel_rfl) (by kernel_rfl) (by kernel_rfl) (by kernel_rfl) (fun _ _ _ h => h) (Or.inl ⟨by rfl, fun W hW => Or.inl ?_⟩) ?_
                  rotate_left
                  · (obtain ⟨⟨u0, u1, u2, u3⟩, u4, u5, u6, u7⟩ := HS9.out W (((Keeps.refl Nil wr).drew).trans hW); go_simp <;> with_reducible rfl)
                  try simp only [Act.put, List.setIfInBounds_toArray, List.set_cons_zero, List.set_cons_succ, List.getElem_toArray, List.getElem_cons_zero, List.getElem_cons_succ]
                  refine wpAnyR_take (i := 25) (v := ?_) (fun w => Keeps.refl Nil w) (fun a b c h k => h.trans k) rfl (by kernel_rfl) (by kernel_rfl) (by kernel_rfl) (by kernel_rfl) (fun _ _ _ h => h) (Or.inl ⟨by rfl, fun W hW => Or.inl ?_⟩) ?_
                  rotate_left
                  · (obtain ⟨⟨u0, u1, u2, u3⟩, u4, u5, u6, u7⟩ := HS9.out W (((Keeps.refl Nil wr).drew).trans hW); go_simp <;> with_reducible rfl)
                  try simp only [Act.put, List.setIfInBounds_toArray, List.set_cons_zero, List.set_cons_succ, List.getElem_toArray, List.getElem_cons_zero, List.getElem_cons_succ]
                  refine wpAnyR_take (i := 26) (v := ?_) (fun w => Keeps.refl Nil w) (fun a b c h k => h.trans k) rfl (by kernel_rfl) (by kernel_rfl) (by kernel_rfl) (by kernel_rfl) (fun _ _ _ h => h) (Or.inl ⟨by rfl, fun W hW => Or.inl ?_⟩) ?_
                  rotate_left
                  · (obtain ⟨⟨u0, u1, u2, u3⟩, u4, u5, u6, u7⟩ := HS9.out W (((Keeps.refl Nil wr).drew).trans hW); go_simp <;> with_reducible rfl)
                  try simp only [Act.put, List.setIfInBounds_toArray, List.set_cons_zero, List.set_cons_succ, List.getElem_toArray, List.getElem_cons_zero, List.getElem_cons_succ]
                  refine wpAnyR_take (i := 27) (v := ?_) (fun w => Keeps.refl Nil w) (fun a b c h k => h.trans k) rfl (by kernel_rfl) (by kernel_rfl) (by kernel_rfl) (by kernel_rfl) (fun _ _ _ h => h) (Or.inl ⟨by rfl, fun W hW => Or.inl ?_⟩) ?_
                  rotate_left
                  · (obtain ⟨⟨u0, u1, u2, u3⟩, u4, u5, u6, u7⟩ := HS9.out W (((Keeps.refl Nil wr).drew).trans hW); go_simp <;> with_reducible rfl)
                  try simp only [Act.put, List.setIfInBounds_toArray, List.set_cons_zero, List.set_cons_succ, List.getElem_toArray, List.getElem_cons_zero, List.getElem_cons_succ]
                  refine wpAnyR_take (i := 28) (v := ?_) (fun w => Keeps.refl Nil w) (fun a b c h k => h.trans k) rfl (by kernel_rfl) (by kernel_rfl) (by kernel_rfl) (by kernel_rfl) (fun _ _ _ h => h) (Or.inl ⟨by rfl, fun W hW => Or.inl ?_⟩) ?_
                  rotate_left
                  · (obtain ⟨⟨u0, u1, u2, u3⟩, u4, u5, u6, u7⟩ := HS9.out W (((Keeps.refl Nil wr).drew).trans hW); go_simp <;> with_reducible rfl)
                  try simp only [Act.put, List.setIfInBounds_toArray, List.set_cons_zero, List.set_cons_succ, List.getElem_toArray, List.getElem_cons_zero, List.getElem_cons_succ]
                  refine wpAnyR_take (i := 29) (v := .bool true) (fun w => Keeps.refl Nil w) (fun a b c h k => h.trans k) rfl (by kernel_rfl) (by kernel_rfl) (by kernel_rfl) (by kernel_rfl) (fun _ _ _ h => h) (Or.inl ⟨by rfl, fun W hW => Or.inr ⟨11, #[.pointer (some ⟨t, 0, Option.none⟩), .agg #[.int .i64 τ2.n, .slice pA2 L2.length cA2, .slice pE2 τ2.E.length cE2, .slice pM2 R2.length cM2], .int .u8 x.e.port, .int .u16 x.m.vid, .int .i64 x.e.ai], ?_, CS1.out W (((Keeps.refl Nil wr).drew).trans hW)⟩⟩) ?_
                  · (go_simp <;> with_reducible rfl)
                  try simp only [Act.put, List.setIfInBounds_toArray, List.set_cons_zero, List.set_cons_succ, List.getElem_toArray, List.getElem_cons_zero, List.getElem_cons_succ]
                  refine wpAnyR_take (i := 30) (v := ?_) (fun w => Keeps.refl Nil w) (fun a b c h k => h.trans k) rfl (by kernel_rfl) (by kernel_rfl) (by kernel_rfl) (by kernel_rfl) (fun _ _ _ h => h) (Or.inl ⟨by rfl, fun W hW => Or.inl ?_⟩) ?_
                  rotate_left
                  · (obtain ⟨⟨u0, u1, u2, u3⟩, u4, u5, u6, u7⟩ := HS9.out W (((Keeps.refl Nil wr).drew).trans hW); go_simp <;> with_reducible rfl)
                  try simp only [Act.put, List.setIfInBounds_toArray, List.set_cons_zero, List.set_cons_succ, List.getElem_toArray, List.getElem_cons_zero, List.getElem_cons_succ]
                  refine wpAnyR_take (i := 31) (v := ?_) (fun w => Keeps.refl Nil w) (fun a b c h k => h.trans k) rfl (by kernel_rfl) (by kernel_rfl) (by kernel_rfl) (by kernel_rfl) (fun _ _ _ h => h) (Or.inl ⟨by rfl, fun W hW => Or.inl ?_⟩) ?_
                  rotate_left
                  · (obtain ⟨⟨u0, u1, u2, u3⟩, u4, u5, u6, u7⟩ := HS9.out W (((Keeps.refl Nil wr).drew).trans hW); go_simp <;> with_reducible rfl)
                  try simp only [Act.put, List.setIfInBounds_toArray, List.set_cons_zero, List.set_cons_succ, List.getElem_toArray, List.getElem_cons_zero, List.getElem_cons_succ]
                  refine wpAnyR_take (i := 32) (v := ?_) (fun w => Keeps.refl Nil w) (fun a b c h k => h.trans k) rfl (by kernel_rfl) (by kernel_rfl) (by kernel_rfl) (by kernel_rfl) (fun _ _ _ h => h) (Or.inl ⟨by rfl, fun W hW => Or.inl ?_⟩) ?_
                  rotate_left
                  · (obtain ⟨⟨u0, u1, u2, u3⟩, u4, u5, u6, u7⟩ := HS9.out W (((Keeps.refl Nil wr).drew).trans hW); go_simp <;> with_reducible rfl)
                  try simp only [Act.put, List.setIfInBounds_toArray, List.set_cons_zero, List.set_cons_succ, List.getElem_toArray, List.getElem_cons_zero, List.getElem_cons_succ]
                  refine wpAnyR_take (i := 33) (v := ?_) (fun w => Keeps.refl Nil w) (fun a b c h k => h.trans k) rfl (by kernel_rfl) (by kernel_rfl) (by kernel_rfl) (by kernel_rfl) (fun _ _ _ h => h) (Or.inl ⟨by rfl, fun W hW => Or.inl ?_⟩) ?_
                  rotate_left
                  · (obtain ⟨⟨u0, u1, u2, u3⟩, u4, u5, u6, u7⟩ := HS9.out W (((Keeps.refl Nil wr).drew).trans hW); go_simp <;> with_reducible rfl)
                  try simp only [Act.put, List.setIfInBounds_toArray, List.set_cons_zero, List.set_cons_succ, List.getElem_toArray, List.getElem_cons_zero, List.getElem_cons_succ]
                  refine wpAnyR_take (i := 34) (v := ?_) (fun w => Keeps.refl Nil w) (fun a b c h k => h.trans k) rfl (by kernel_rfl) (by kernel_rfl) (by kernel_rfl) (by kernel_rfl) (fun _ _ _ h => h) (Or.inl ⟨by rfl, fun W hW => Or.inl ?_⟩) ?_
                  rotate_left
                  · (obtain ⟨⟨u0, u1, u2, u3⟩, u4, u5, u6, u7⟩ := HS9.out W (((Keeps.refl Nil wr).drew).trans hW); go_simp <;> with_reducible rfl)
                  try simp only [Act.put, List.setIfInBounds_toArray, List.set_cons_zero, List.set_cons_succ, List.getElem_toArray, List.getElem_cons_zero, List.getElem_cons_succ]
                  refine wpAnyR_take (i := 35) (v := ?_) (fun w => Keeps.refl Nil w) (fun a b c h k => h.trans k) rfl (by kernel_rfl) (by kernel_rfl) (by kernel_rfl) (by kernel_rfl) (fun _ _ _ h => h) (Or.inl ⟨by rfl, fun W hW => Or.inl ?_⟩) ?_
                  rotate_left
                  · (obtain ⟨⟨u0, u1, u2, u3⟩, u4, u5, u6, u7⟩ := HS9.out W (((Keeps.refl Nil wr).drew).trans hW); go_simp <;> with_reducible rfl)
                  try simp only [Act.put, List.setIfInBounds_toArray, List.set_cons_zero, List.set_cons_succ, List.getElem_toArray, List.getElem_cons_zero, List.getElem_cons_succ]
                  refine wpAnyR_take (i := 36) (v := ?_) (fun w => Keeps.refl Nil w) (fun a b c h k => h.trans k) rfl (by kernel_rfl) (by kernel_rfl) (by kernel_rfl) (by kernel_rfl) (fun _ _ _ h => h) (Or.inl ⟨by rfl, fun W hW => Or.inl ?_⟩) ?_
                  rotate_left
                  · (obtain ⟨⟨u0, u1, u2, u3⟩, u4, u5, u6, u7⟩ := HS9.out W (((Keeps.refl Nil wr).drew).trans hW); go_simp <;> with_reducible rfl)
                  try simp only [Act.put, List.setIfInBounds_toArray, List.set_cons_zero, List.set_cons_succ, List.getElem_toArray, List.getElem_cons_zero, List.getElem_cons_succ]
                  refine wpAnyR_take (i := 37) (v := ?_) (fun w => Keeps.refl Nil w) (fun a b c h k => h.trans k) rfl (by kernel_rfl) (by kernel_rfl) (by kernel_rfl) (by kernel_rfl) (fun _ _ _ h => h) (Or.inl ⟨by rfl, fun W hW => Or.inl ?_⟩) ?_
                  rotate_left
                  · (obtain ⟨⟨u0, u1, u2, u3⟩, u4, u5, u6, u7⟩ := HS9.out W (((Keeps.refl Nil wr).drew).trans hW); go_simp <;> with_reducible rfl)
                  try simp only [Act.put, List.setIfInBounds_toArray, List.set_cons_zero, List.set_cons_succ, List.getElem_toArray, List.getElem_cons_zero, List.getElem_cons_succ]
                  refine wpAnyR_take (i := 38) (v := ?_) (fun w => Keeps.refl Nil w) (fun a b c h k => h.trans k) rfl (by kernel_rfl) (by kernel_rfl) (by kernel_rfl) (by kernel_rfl) (fun _ _ _ h => h) (Or.inl ⟨by rfl, fun W hW => Or.inl ?_⟩) ?_
                  rotate_left
                  · (obtain ⟨⟨u0, u1, u2, u3⟩, u4, u5, u6, u7⟩ := HS9.out W (((Keeps.refl Nil wr).drew).trans hW); go_simp <;> with_reducible rfl)
                  try simp only [Act.put, List.setIfInBounds_toArray, List.set_cons_zero, List.set_cons_succ, List.getElem_toArray, List.getElem_cons_zero, List.getElem_cons_succ]
                  refine wpAnyR_take (i := 39) (v := ?_) (fun w => Keeps.refl Nil w) (fun a b c h k => h.trans k) rfl (by kernel_rfl) (by kernel_rfl) (by kernel_rfl) (by kernel_rfl) (fun _ _ _ h => h) (Or.inl ⟨by rfl, fun W hW => Or.inl ?_⟩) ?_
                  rotate_left
                  · (obtain ⟨⟨u0, u1, u2, u3⟩, u4, u5, u6, u7⟩ := HS9.out W (((Keeps.refl Nil wr).drew).trans hW); go_simp <;> with_reducible rfl)
                  try simp only [Act.put, List.setIfInBounds_toArray, List.set_cons_zero, List.set_cons_succ, List.getElem_toArray, List.getElem_cons_zero, List.getElem_cons_succ]
                  refine wpAnyR_take (i := 40) (v := ?_) (fun w => Keeps.refl Nil w) (fun a b c h k => h.trans k) rfl (by kernel_rfl) (by kernel_rfl) (by kernel_rfl) (by kernel_rfl) (fun _ _ _ h => h) (Or.inl ⟨by rfl, fun W hW => Or.inl ?_⟩) ?_
                  rotate_left
                  · (obtain ⟨⟨u0, u1, u2, u3⟩, u4, u5, u6, u7⟩ := HS9.out W (((Keeps.refl Nil wr).drew).trans hW); go_simp <;> with_reducible rfl)
                  try simp only [Act.put, List.setIfInBounds_toArray, List.set_cons_zero, List.set_cons_succ, List.getElem_toArray, List.getElem_cons_zero, List.getElem_cons_succ]
                  refine wpAnyR_take (i := 41) (v := ?_) (fun w => Keeps.refl Nil w) (fun a b c h k => h.trans k) rfl (by kernel_rfl) (by kernel_rfl) (by kernel_rfl) (by kernel_rfl) (fun _ _ _ h => h) (Or.inl ⟨by rfl, fun W hW => Or.inl ?_⟩) ?_
                  rotate_left
                  · (obtain ⟨⟨u0, u1, u2, u3⟩, u4, u5, u6, u7⟩ := HS9.out W (((Keeps.refl Nil wr).drew).trans hW); go_simp <;> with_reducible rfl)
                  try simp only [Act.put, List.setIfInBounds_toArray, List.set_cons_zero, List.set_cons_succ, List.getElem_toArray, List.getElem_cons_zero, List.getElem_cons_succ]
                  refine wpAnyR_take (i := 42) (v := ?_) (fun w => Keeps.refl Nil w) (fun a b c h k => h.trans k) rfl (by kernel_rfl) (by kernel_rfl) (by kernel_rfl) (by kernel_rfl) (fun _ _ _ h => h) (Or.inl ⟨by rfl, fun W hW => Or.inl ?_⟩) ?_
                  rotate_left
                  · (obtain ⟨⟨u0, u1, u2, u3⟩, u4, u5, u6, u7⟩ := HS9.out W (((Keeps.refl Nil wr).drew).trans hW); go_simp <;> with_reducible rfl)
                  try simp only [Act.put, List.setIfInBounds_toArray, List.set_cons_zero, List.set_cons_succ, List.getElem_toArray, List.getElem_cons_zero, List.getElem_cons_succ]
                  refine wpAnyR_take (i := 43) (v := ?_) (fun w => Keeps.refl Nil w) (fun a b c h k => h.trans k) rfl (by kernel_rfl) (by kernel_rfl) (by kernel_rfl) (by kernel_rfl) (fun _ _ _ h => h) (Or.inl ⟨by rfl, fun W hW => Or.inl ?_⟩) ?_
                  rotate_left
                  · (obtain ⟨⟨u0, u1, u2, u3⟩, u4, u5, u6, u7⟩ := HS9.out W (((Keeps.refl Nil wr).drew).trans hW); go_simp <;> with_reducible rfl)
                  try simp only [Act.put, List.setIfInBounds_toArray, List.set_cons_zero, List.set_cons_succ, List.getElem_toArray, List.getElem_cons_zero, List.getElem_cons_succ]
                  refine wpAnyR_take (i := 44) (v := ?_) (fun w => Keeps.refl Nil w) (fun a b c h k => h.trans k) rfl (by kernel_rfl) (by kernel_rfl) (by kernel_rfl) (by kernel_rfl) (fun _ _ _ h => h) (Or.inl ⟨by rfl, fun W hW => Or.inl ?_⟩) ?_
                  rotate_left
                  · (obtain ⟨⟨u0, u1, u2, u3⟩, u4, u5, u6, u7⟩ := HS9.out W (((Keeps.refl Nil wr).drew).trans hW); go_simp <;> with_reducible rfl)
                  try simp only [Act.put, List.setIfInBounds_toArray, List.set_cons_zero, List.set_cons_succ, List.getElem_toArray, List.getElem_cons_zero, List.getElem_cons_succ]
                  refine wpAnyR_take (i := 45) (v := ?_) (fun w => Keeps.refl Nil w) (fun a b c h k => h.trans k) rfl (by kernel_rfl) (by kernel_rfl) (by kernel_rfl) (by kernel_rfl) (fun _ _ _ h => h) (Or.inl ⟨by rfl, fun W hW => Or.inl ?_⟩) ?_
                  rotate_left
                  · (obtain ⟨⟨u0, u1, u2, u3⟩, u4, u5, u6, u7⟩ := HS9.out W (((Keeps.refl Nil wr).drew).trans hW); go_simp <;> with_reducible rfl)
                  try simp only [Act.put, List.setIfInBounds_toArray, List.set_cons_zero, List.set_cons_succ, List.getElem_toArray, List.getElem_cons_zero, List.getElem_cons_succ]
                  refine wpAnyR_take (i := 46) (v := ?_) (fun w => Keeps.refl Nil w) (fun a b c h k => h.trans k) rfl (by kernel_rfl) (by kernel_rfl) (by kernel_rfl) (by kernel_rfl) (fun _ _ _ h => h) (Or.inl ⟨by rfl, fun W hW => Or.inl ?_⟩) ?_
                  rotate_left
                  · (obtain ⟨⟨u0, u1, u2, u3⟩, u4, u5, u6, u7⟩ := HS9.out W (((Keeps.refl Nil wr).drew).trans hW); go_simp <;> with_reducible rfl)
                  try simp only [Act.put, List.setIfInBounds_toArray, List.set_cons_zero, List.set_cons_succ, List.getElem_toArray, List.getElem_cons_zero, List.getElem_cons_succ]
                  refine wpAnyR_take (i := 47) (v := .bool true) (fun w => Keeps.refl Nil w) (fun a b c h k => h.trans k) rfl (by kernel_rfl) (by kernel_rfl) (by kernel_rfl) (by kernel_rfl) (fun _ _ _ h => h) (Or.inl ⟨by rfl, fun W hW => Or.inr ⟨11, #[.pointer (some ⟨t, 0, Option.none⟩), .agg #[.int .i64 τ2.n, .slice pA2 L2.length cA2, .slice pE2 τ2.E.length cE2, .slice pM2 R2.length cM2], .int .u8 x.m.port, .int .u16 x.m.vid, .int .i64 0], ?_, CS2.out W (((Keeps.refl Nil wr).drew).trans hW)⟩⟩) ?_
                  · (go_simp <;> with_reducible rfl)
                  try simp only [Act.put, List.setIfInBounds_toArray, List.set_cons_zero, List.set_cons_succ, List.getElem_toArray, List.getElem_cons_zero, List.getElem_cons_succ]
                  refine wpAnyR_take (i := 48) (v := ?_) (fun w => Keeps.refl Nil w) (fun a b c h k => h.trans k) rfl (by kernel_rfl) (by kernel_rfl) (by kernel_rfl) (by kernel_rfl) (fun _ _ _ h => h) (Or.inl ⟨by rfl, fun W hW => Or.inl ?_⟩) ?_
                  rotate_left
                  · (obtain ⟨⟨u0, u1, u2, u3⟩, u4, u5, u6, u7⟩ := HS9.out W (((Keeps.refl Nil wr).drew).trans hW); go_simp <;> with_reducible rfl)
                  try simp only [Act.put, List.setIfInBounds_toArray, List.set_cons_zero, List.set_cons_succ, List.getElem_toArray, List.getElem_cons_zero, List.getElem_cons_succ]
                  refine wpAnyR_one (i := 49) (by kernel_rfl) rfl (fun X49 hX49 K hK => ?_)
                  try simp only [Act.put, List.setIfInBounds_toArray, List.set_cons_zero, List.set_cons_succ, List.getElem_toArray, List.getElem_cons_zero, List.getElem_cons_succ]
                  go_simp
                  refine hK.out _ _ (fun e => absurd rfl e) ?_
                  clear hK K
                  try simp only [Act.put, List.setIfInBounds_toArray, List.set_cons_zero, List.set_cons_succ, List.getElem_toArray, List.getElem_cons_zero, List.getElem_cons_succ]
                  refine wpAnyR_done (by kernel_rfl) (by kernel_rfl) ?_ _
                  go_wp2_with fail
                  go_meet
                  exact ⟨rfl, hid (((Keeps.refl Nil wr).drew).trans hX49)⟩
                case rest =>
                  obtain ⟨rfl, HC2⟩ := hcut
                  go_wp2_with fail
                  go_roundw
                  case rel => exact ⟨k + 1, by omega, by go_num, hid ⟨τ2, _, _, _, _, _, _, _, _, _, HT9.out.keepN HC2.out, fun q hq => by rcases hq with hq | hq; exact HS.out q hq.1; omega, HOK7.out, HC2.out.lies H139.out, HRT9.out.keepN HC2.out⟩⟩
                  case measure => simp only [intOf]; omega
        · obtain rfl : k = n := by omega
          have CS := hid (fun (W : World) (kW : Keeps Nil wr W) => r_same port vid place hpv k (HT.out.keepN kW) (HRT.out.keepN kW).rv HG.out (by omega))
          obtain ⟨a0, a1, a2, a3⟩ := four_block H13.out
          have lA := lt_of_block H13.out
          go_wp2_with fail
          refine (CS.out _ (Keeps.refl _ _)).mono ?_; rintro e w5 ⟨rfl, k5⟩
          go_wp2_with fail
          refine (WA _).mono ?_; rintro e w6 ⟨rfl, k6⟩
          go_wp2_with fail
          go_ret
          exact ⟨rfl, ((K2.out.trans HRT.out.base).trans k5).trans k6⟩
end Go.Proofs.Ytbgijlfdgfhceaa
