/-
  The statement LinkPlays, walked. Condition: the acts lie in their cells.
-/
import Derived.Test.YtljfpihfffhpjaaPActs
import Derived.Test.YtljfpihfffhpjaaLWakes
import Derived.Deep.DeepCutAuto
import Derived.Deep.CutBlock
namespace Go.Proofs.Ytljfpihfffhpjaa
open Go.RowKit Go.Conc
set_option linter.unusedVariables false

theorem three_of {w : World} {b : Nat} {T : TypeId} {x0 x1 x2 : Value} (h : w.heap[b]? = some (.cells #[x0, x1, x2] T (0, 0))) :
    w.cell? ⟨b, 0, Option.none⟩ = some x0 ∧ w.cell? ⟨b, 1, Option.none⟩ = some x1 ∧ w.cell? ⟨b, 2, Option.none⟩ = some x2 := by
  simp [World.cell?, h]
/-- The document's block of a state. -/
abbrev dcells (σ : LS) (p0 : Option Addr) (k0 : Nat) (p1 : Option Addr) (k1 : Nat) : Obj :=
  .cells #[.bool σ.u, .slice p0 (strsV σ.xs0).length k0, .slice p1 (strsV σ.xs1).length k1, .int .i64 σ.d0, .int .i64 σ.d1, .int .i64 σ.l0, .int .i64 σ.l1] 43 (0, 0)
/-- What holds at a round's head. -/
def PHead (w : World) (x q0 c0 q1 c1 B : Nat) (σ : LS) (k : Nat) (wr : World) : Prop :=
  ∃ p0 k0 p1 k1, LkS wr x q0 c0 q1 c1 σ ∧ wr.heap[B]? = some (dcells σ p0 k0 p1 k1) ∧ RepS wr (B + 1) p0 k0 p1 k1 σ ∧ σ.Ok k ∧ Keeps Nil w wr
theorem PHead.keepN {w : World} {x q0 c0 q1 c1 B : Nat} {σ : LS} {k : Nat} {wr w' : World} (h : PHead w x q0 c0 q1 c1 B σ k wr) (K : Keeps Nil wr w') : PHead w x q0 c0 q1 c1 B σ k w' := by
  obtain ⟨p0, k0, p1, k1, h1, h2, h3, h4, h5⟩ := h
  exact ⟨p0, k0, p1, k1, h1.keepN K, K.lies h2, h3.keepN K, h4, h5.trans K⟩
theorem own_not {x c0 c1 q0 q1 N g : Nat} (h : x < N ∧ q0 < N ∧ c0 < N ∧ q1 < N ∧ c1 < N) (hg : N ≤ g) : ¬ Own x c0 c1 g := by
  rintro (rfl | rfl | rfl) <;> omega

theorem p_come' {w : World} {x q0 c0 q1 c1 : Nat} {σ σ' : LS} {e : Int} {s' : ByteArray} {v' : Int} (h : LkS w x q0 c0 q1 c1 σ) (hc : σ.come e = (σ', s', v')) :
    Calls Try.prog 9 #[.pointer (some ⟨x, 0, Option.none⟩), .int .i64 e] w fun ee w' => ee = .returned (.tuple #[.string s', .int .i64 v']) ∧ LkS w' x q0 c0 q1 c1 σ' ∧ Keeps (Own x c0 c1) w w' := by
  have := p_come h e; rw [hc] at this; exact this
theorem r_come' {w : World} {B : Nat} {p0 : Option Addr} {k0 : Nat} {p1 : Option Addr} {k1 : Nat} {σ σ' : LS} {k : Nat} {e : Int} {s' : ByteArray} {v' : Int} (h : RepS w B p0 k0 p1 k1 σ) (ok : σ.Ok k) (hc : σ.come e = (σ', s', v')) :
    Calls Try.prog 18 #[σ.val p0 k0 p1 k1, .int .i64 e] w fun ee w' => (∃ p0' k0' p1' k1', ee = .returned (.tuple #[σ'.val p0' k0' p1' k1', .string s', .int .i64 v']) ∧ RepS w' B p0' k0' p1' k1' σ') ∧ Keeps Nil w w' := by
  have := r_come h ok e; rw [hc] at this; exact this
theorem ok_come {σ σ' : LS} {k : Nat} {e : Int} {s' : ByteArray} {v' : Int} (ok : σ.Ok k) (hc : σ.come e = (σ', s', v')) : σ'.Ok (k + 1) := by
  have := ok.come e; rw [hc] at this; exact this
theorem p_lose' {w : World} {x q0 c0 q1 c1 : Nat} {σ σ' : LS} {k : Nat} {e v' : Int} (h : LkS w x q0 c0 q1 c1 σ) (ok : σ.Ok k) (hk : k ≤ 300) (hc : σ.lose e = (σ', v')) :
    Calls Try.prog 10 #[.pointer (some ⟨x, 0, Option.none⟩), .int .i64 e] w fun ee w' => ee = .returned (.int .i64 v') ∧ LkS w' x q0 c0 q1 c1 σ' ∧ Keeps (Own x c0 c1) w w' := by
  have := p_lose h ok hk e; rw [hc] at this; exact this
theorem r_lose' {w : World} {B : Nat} {p0 : Option Addr} {k0 : Nat} {p1 : Option Addr} {k1 : Nat} {σ σ' : LS} {k : Nat} {e v' : Int} (h : RepS w B p0 k0 p1 k1 σ) (ok : σ.Ok k) (hk : k ≤ 300) (hc : σ.lose e = (σ', v')) :
    Calls Try.prog 19 #[σ.val p0 k0 p1 k1, .int .i64 e] w fun ee w' => (∃ p0' k0' p1' k1', ee = .returned (.tuple #[σ'.val p0' k0' p1' k1', .int .i64 v']) ∧ RepS w' B p0' k0' p1' k1' σ') ∧ Keeps Nil w w' := by
  have := r_lose h ok hk e; rw [hc] at this; exact this
theorem ok_lose {σ σ' : LS} {k : Nat} {e v' : Int} (ok : σ.Ok k) (hc : σ.lose e = (σ', v')) : σ'.Ok (k + 1) := by
  have := ok.lose e; rw [hc] at this; exact this
theorem p_send' {w : World} {x q0 c0 q1 c1 : Nat} {σ σ' : LS} {k : Nat} {e v' : Int} {s : ByteArray} (h : LkS w x q0 c0 q1 c1 σ) (ok : σ.Ok k) (hk : k ≤ 300) (hc : σ.send e s = (σ', v')) :
    Calls Try.prog 13 #[.pointer (some ⟨x, 0, Option.none⟩), .int .i64 e, .string s] w fun ee w' => ee = .returned (.int .i64 v') ∧ LkS w' x q0 c0 q1 c1 σ' ∧ Keeps (Own x c0 c1) w w' := by
  have := p_send h ok hk e s; rw [hc] at this; exact this
theorem r_send' {w : World} {B : Nat} {p0 : Option Addr} {k0 : Nat} {p1 : Option Addr} {k1 : Nat} {σ σ' : LS} {k : Nat} {e v' : Int} {s : ByteArray} (h : RepS w B p0 k0 p1 k1 σ) (hB : B ≤ w.heap.size) (ok : σ.Ok k) (hk : k ≤ 300) (hc : σ.send e s = (σ', v')) :
    Calls Try.prog 21 #[σ.val p0 k0 p1 k1, .int .i64 e, .string s] w fun ee w' => (∃ p0' k0' p1' k1', ee = .returned (.tuple #[σ'.val p0' k0' p1' k1', .int .i64 v']) ∧ RepS w' B p0' k0' p1' k1' σ') ∧ Keeps Nil w w' := by
  have := r_send h hB ok hk e s; rw [hc] at this; exact this
theorem ok_send {σ σ' : LS} {k : Nat} {e v' : Int} {s : ByteArray} (ok : σ.Ok k) (hc : σ.send e s = (σ', v')) : σ'.Ok (k + 1) := by
  have := ok.send e s; rw [hc] at this; exact this
theorem p_down' {w : World} {x q0 c0 q1 c1 : Nat} {σ σ' : LS} {k : Nat} {v' : Int} (h : LkS w x q0 c0 q1 c1 σ) (ok : σ.Ok k) (hk : k ≤ 300) (hc : σ.down = (σ', v')) :
    Calls Try.prog 12 #[.pointer (some ⟨x, 0, Option.none⟩)] w fun ee w' => ee = .returned (.int .i64 v') ∧ LkS w' x q0 c0 q1 c1 σ' ∧ Keeps (Own x c0 c1) w w' := by
  have := p_down h ok hk; rw [hc] at this; exact this
theorem r_down' {w : World} {B : Nat} {p0 : Option Addr} {k0 : Nat} {p1 : Option Addr} {k1 : Nat} {σ σ' : LS} {k : Nat} {v' : Int} (ok : σ.Ok k) (hk : k ≤ 300) (hc : σ.down = (σ', v')) :
    Calls Try.prog 20 #[σ.val p0 k0 p1 k1] w fun ee w' => (∃ p0' k0' p1' k1', ee = .returned (.tuple #[σ'.val p0' k0' p1' k1', .int .i64 v']) ∧ RepS w' B p0' k0' p1' k1' σ') ∧ Keeps Nil w w' := by
  have := r_down (w := w) (B := B) (p0 := p0) (k0 := k0) (p1 := p1) (k1 := k1) ok hk; rw [hc] at this
  refine this.mono ?_
  rintro ee w' ⟨rfl, s, k⟩
  exact ⟨⟨_, _, _, _, rfl, s⟩, k⟩
theorem ok_down {σ σ' : LS} {k : Nat} {v' : Int} (ok : σ.Ok k) (hc : σ.down = (σ', v')) : σ'.Ok (k + 1) := by
  have := ok.down; rw [hc] at this; exact this
set_option maxRecDepth 6000 in
set_option maxHeartbeats 60000000 in
theorem plays_any (a : Option Addr) (n cap : Nat) (acts : List LAct) (w : World) (hm : n ≤ maxLen) (hll : acts.length = n) (h : 0 < n → ∃ b o, a = some ⟨b, o, Option.none⟩ ∧ b < w.heap.size ∧ PActs w b o n acts) :
    Calls Try.prog 4 #[.slice a n cap] w fun e w' => e = .returned (.bool true) ∧ Keeps Nil w w' := by
  have HW : ∀ W, Hid (Calls Try.prog 6 #[] W fun e w' => e = .returned (.bool true) ∧ Keeps Nil W w') := fun W => hid (wakes_any W)
  by_cases hn : 300 < n
  · go_enter Try.func4, Try.ntmps4
    go_wp2_with (first | (go_at_call 17; refine (pgreat_long _ _ _ _ hn hm).mono ?_; rintro e w1 ⟨rfl, rfl⟩) | (go_at_call 6; refine (HW _).out.mono ?_; rintro e w1 ⟨rfl, k1⟩))
    go_ret
    exact ⟨rfl, k1⟩
  have HH := hid h
  have HM := hid hm
  have HN := hid hll
  clear h hm hll
  go_enter Try.func4, Try.ntmps4
  go_wp2_with fail
  refine (pgreat_any a n cap acts w (by omega) HN.out HH.out).mono ?_
  rintro e w0 ⟨hg, rfl⟩
  rcases hg with rfl | rfl
  · go_wp2_with (go_at_call 6; refine (HW _).out.mono ?_; rintro e w1 ⟨rfl, k1⟩)
    go_ret
    exact ⟨rfl, k1⟩
  go_wp2_with fail
  refine (new_any _).mono ?_; rintro e w1 ⟨x, q0, c0, q1, c1, rfl, i1, hx, hc0, hc1, k1⟩
  have HX := hid (And.intro hx (And.intro hc0 hc1))
  have HI := hid i1
  clear i1 hx hc0 hc1
  go_wp2_with fail
  go_loopw [5] (fun v wr => ∃ k : Nat, k ≤ n ∧ v = .int .i64 k ∧ Hid (∃ σ, PHead w x q0 c0 q1 c1 w1.heap.size σ k wr)) (fun v _ => n - (intOf v).toNat)
  case atStart =>
    have kx : Keeps Nil w1 (w1.alloc nocells) := (Keeps.refl _ _).alloc _
    exact ⟨0, Nat.zero_le _, rfl, hid ⟨⟨false, 0, 0, [], 0, 0, []⟩, Option.none, 0, Option.none, 0, HI.out.keepN kx, alloc_block w1 _, ⟨View.nil _ _ _ _, View.nil _ _ _ _⟩, ⟨by simp [strsV], by simp [strsV], by simp, by simp, by simp, by simp⟩, k1.trans kx⟩⟩
  case round =>
    obtain ⟨k, hk, rfl, hh⟩ := hrel
    by_cases hlt : k < n
    · obtain ⟨b, o, rfl, hb, hr⟩ := HH.out (by omega)
      obtain ⟨⟨dv, en, s⟩, ha⟩ : ∃ x, acts[k]? = some x := ⟨_, List.getElem?_eq_getElem (by have := hr.1; omega)⟩
      obtain ⟨σ, p0, k0, p1, k1', iL, bD, rS, ok, hkeep⟩ := hh.out
      obtain ⟨g0, g1, g2, hdv⟩ := (hr.keepN hkeep hb).2 k _ ha
      simp only at g0 g1 g2 hdv
      have HL := hid iL
      have HD := hid bD
      have HS := hid rS
      have HO := hid ok
      have HK := hid hkeep
      clear hr ha iL bD rS ok hkeep hh
      go_upto_block 2 with (fail)
      have kz : Keeps Nil wr (wr.alloc (.cells #[Value.int IntKind.u8 dv, Value.int IntKind.i64 en, Value.string s] 28 (0, 0))) := (Keeps.refl _ _).alloc _
      have AZ := alloc_block wr (.cells #[Value.int IntKind.u8 dv, Value.int IntKind.i64 en, Value.string s] 28 (0, 0))
      have DZ := hid (kz.lies HD.out)
      have LZ := hid (HL.out.keepN kz)
      have SZ := hid (HS.out.keepN kz)
      have KZ := hid (HK.out.trans kz)
      have hb6 : w1.heap.size ≤ wr.heap.size := Nat.le_of_lt (lt_of_block HD.out)
      generalize (wr.alloc (.cells #[Value.int IntKind.u8 dv, Value.int IntKind.i64 en, Value.string s] 28 (0, 0))) = wz at *
      generalize wr.heap.size = b6 at *
      obtain ⟨⟨y0, y1, y2, y3, y4, y5, y6⟩, _⟩ := seven DZ.out
      obtain ⟨z0, z1, z2, z3, z4, z5, z6⟩ := sevenf DZ.out
      obtain ⟨t0, t1, t2⟩ := three_of AZ
      have AZ := hid AZ
      clear HL HD HS HK kz g0 g1 g2
      go_cut [7, 8] (fun s7 s8 wx => ∃ v : Int, s7 = .int .i64 v ∧ s8 = .int .i64 v ∧ Hid (∃ σ, PHead w x q0 c0 q1 c1 w1.heap.size σ (k + 1) wx))
      case first =>
        by_cases h0 : dv = 0
        · subst h0
          rcases hc : σ.come en with ⟨σ', s', v'⟩
          have HC := hid hc
          have OK := ok_come HO.out hc
          clear hc
          have HOK := hid OK
          clear OK
          go_wp2_with fail
          refine (p_come' LZ.out HC.out).mono ?_; rintro ee w2 ⟨rfl, i2, k2⟩
          have D2 := k2.lies DZ.out (fun e => own_not HI.out.lt (Nat.le_refl _) e)
          have A2 := k2.lies AZ.out (fun e => own_not HI.out.lt hb6 e)
          have S2 := hid (SZ.out.keep k2 (fun g hg _ e => own_not HI.out.lt (by omega) e))
          have L2 := hid i2
          obtain ⟨⟨y0, y1, y2, y3, y4, y5, y6⟩, _⟩ := seven D2
          obtain ⟨z0, z1, z2, z3, z4, z5, z6⟩ := sevenf D2
          obtain ⟨t0, t1, t2⟩ := three_of A2
          have D2 := hid D2
          have A2 := hid A2
          clear i2
          go_wp2_with fail
          refine (r_come' S2.out HO.out HC.out).mono ?_; rintro ee w3 ⟨⟨p0', k0', p1', k1'', rfl, s3⟩, k3⟩
          have D3 := k3.lies D2.out
          have L3 := hid (L2.out.keepN k3)
          have S3 := hid s3
          clear s3 y0 y1 y2 y3 y4 y5 y6 z0 z1 z2 z3 z4 z5 z6 t0 t1 t2
          go_upto_region 16 with (fail)
          have kx : Keeps Nil w3 (w3.alloc (dcells σ' p0' k0' p1' k1'')) := (Keeps.refl _ _).alloc _
          have h11 := alloc_block w3 (dcells σ' p0' k0' p1' k1'')
          have D4 := kx.lies D3
          have L4 := hid (L3.out.keepN kx)
          have S4 := hid (S3.out.keepN kx)
          have hbB : w1.heap.size ≠ w3.heap.size := by have := lt_of_block D3; omega
          have KK := hid (((KZ.out.thenOwn k2 (own_le HX.out.1 HX.out.2.1 HX.out.2.2)).trans k3.ofNil).trans kx)
          simp only [dcells] at kx h11 D4 L4 S4
          generalize (w3.alloc _) = W at *
          generalize w3.heap.size = b11 at *
          obtain ⟨⟨y0, y1, y2, y3, y4, y5, y6⟩, _⟩ := seven h11
          obtain ⟨⟨q0', q1', q2', q3', q4', q5', q6'⟩, _⟩ := seven D4
          obtain ⟨z0, z1, z2, z3, z4, z5, z6⟩ := sevenf D4
          have D4 := hid D4
          clear h11 D3 kx k3 k2
          go_wp2_with fail
          go_meet
          obtain ⟨W7, hW7, hF, hK⟩ := set7 D4.out (.bool σ'.u) (.slice p0' (strsV σ'.xs0).length k0') (.slice p1' (strsV σ'.xs1).length k1'') (.int .i64 σ'.d0) (.int .i64 σ'.d1) (.int .i64 σ'.l0) (.int .i64 σ'.l1)
          rw [hW7]
          exact ⟨_, rfl, rfl, hid ⟨σ', p0', k0', p1', k1'', HI.out.past L4.out hK (fun g hg e => by rw [At] at e; omega), hF, S4.out.keep hK (fun g hg _ e => by rw [At] at e; omega), HOK.out, (KK.out).thenAt hK k1.size⟩⟩
        · have hk3 : k ≤ 300 := by omega
          by_cases h1 : dv = 1
          · subst h1
            rcases hc : σ.lose en with ⟨σ', v'⟩
            have HC := hid hc
            have OK := ok_lose HO.out hc
            clear hc
            have HOK := hid OK
            clear OK
            go_wp2_with fail
            refine (p_lose' LZ.out HO.out hk3 HC.out).mono ?_; rintro ee w2 ⟨rfl, i2, k2⟩
            have D2 := k2.lies DZ.out (fun e => own_not HI.out.lt (Nat.le_refl _) e)
            have A2 := k2.lies AZ.out (fun e => own_not HI.out.lt hb6 e)
            have S2 := hid (SZ.out.keep k2 (fun g hg _ e => own_not HI.out.lt (by omega) e))
            have L2 := hid i2
            obtain ⟨⟨y0, y1, y2, y3, y4, y5, y6⟩, _⟩ := seven D2
            obtain ⟨z0, z1, z2, z3, z4, z5, z6⟩ := sevenf D2
            obtain ⟨t0, t1, t2⟩ := three_of A2
            have D2 := hid D2
            have A2 := hid A2
            clear i2
            go_wp2_with fail
            refine (r_lose' S2.out HO.out hk3 HC.out).mono ?_; rintro ee w3 ⟨⟨p0', k0', p1', k1'', rfl, s3⟩, k3⟩
            have D4 := k3.lies D2.out
            have L4 := hid (L2.out.keepN k3)
            have S4 := hid s3
            have KK := hid ((KZ.out.thenOwn k2 (own_le HX.out.1 HX.out.2.1 HX.out.2.2)).trans k3.ofNil)
            clear s3 y0 y1 y2 y3 y4 y5 y6 z0 z1 z2 z3 z4 z5 z6 t0 t1 t2 k2 k3
            obtain ⟨⟨q0', q1', q2', q3', q4', q5', q6'⟩, _⟩ := seven D4
            obtain ⟨z0, z1, z2, z3, z4, z5, z6⟩ := sevenf D4
            have D4 := hid D4
            go_wp2_with fail
            go_meet
            obtain ⟨W7, hW7, hF, hK⟩ := set7 D4.out (.bool σ'.u) (.slice p0' (strsV σ'.xs0).length k0') (.slice p1' (strsV σ'.xs1).length k1'') (.int .i64 σ'.d0) (.int .i64 σ'.d1) (.int .i64 σ'.l0) (.int .i64 σ'.l1)
            rw [hW7]
            exact ⟨_, rfl, rfl, hid ⟨σ', p0', k0', p1', k1'', HI.out.past L4.out hK (fun g hg e => by rw [At] at e; omega), hF, S4.out.keep hK (fun g hg _ e => by rw [At] at e; omega), HOK.out, (KK.out).thenAt hK k1.size⟩⟩
          · by_cases h2 : dv = 2
            · subst h2
              go_wp2_with fail
              refine (p_up LZ.out).mono ?_; rintro ee w2 ⟨rfl, i2, k2⟩
              have D2 := k2.lies DZ.out (fun e => own_not HI.out.lt (Nat.le_refl _) e)
              have A2 := k2.lies AZ.out (fun e => own_not HI.out.lt hb6 e)
              have S2 := hid (SZ.out.keep k2 (fun g hg _ e => own_not HI.out.lt (by omega) e))
              have L2 := hid i2
              obtain ⟨⟨y0, y1, y2, y3, y4, y5, y6⟩, _⟩ := seven D2
              obtain ⟨z0, z1, z2, z3, z4, z5, z6⟩ := sevenf D2
              obtain ⟨t0, t1, t2⟩ := three_of A2
              have D2 := hid D2
              have A2 := hid A2
              clear i2
              go_wp2_with fail
              go_meet
              have hF : (w2.setCell ⟨w1.heap.size, 0, Option.none⟩ (.bool true)).heap[w1.heap.size]? = some (dcells { σ with u := true } p0 k0 p1 k1') := setCell_block D2.out 0 (.bool true)
              have hK : Keeps (At w1.heap.size) w2 (w2.setCell ⟨w1.heap.size, 0, Option.none⟩ (.bool true)) := (Keeps.refl _ _).set _ _ (at_self _) _
              exact ⟨_, rfl, rfl, hid ⟨{ σ with u := true }, p0, k0, p1, k1', HI.out.past L2.out hK (fun g hg e => by rw [At] at e; omega), hF, S2.out.keep hK (fun g hg _ e => by rw [At] at e; omega), (HO.out.more.up true), (KZ.out.thenOwn k2 (own_le HX.out.1 HX.out.2.1 HX.out.2.2)).thenAt hK k1.size⟩⟩
            · by_cases h3 : dv = 3
              · subst h3
                rcases hc : σ.down with ⟨σ', v'⟩
                have HC := hid hc
                have OK := ok_down HO.out hc
                clear hc
                have HOK := hid OK
                clear OK
                go_wp2_with fail
                refine (p_down' LZ.out HO.out hk3 HC.out).mono ?_; rintro ee w2 ⟨rfl, i2, k2⟩
                have D2 := k2.lies DZ.out (fun e => own_not HI.out.lt (Nat.le_refl _) e)
                have A2 := k2.lies AZ.out (fun e => own_not HI.out.lt hb6 e)
                have S2 := hid (SZ.out.keep k2 (fun g hg _ e => own_not HI.out.lt (by omega) e))
                have L2 := hid i2
                obtain ⟨⟨y0, y1, y2, y3, y4, y5, y6⟩, _⟩ := seven D2
                obtain ⟨z0, z1, z2, z3, z4, z5, z6⟩ := sevenf D2
                obtain ⟨t0, t1, t2⟩ := three_of A2
                have D2 := hid D2
                have A2 := hid A2
                clear i2
                go_wp2_with fail
                refine (r_down' (B := w1.heap.size + 1) HO.out hk3 HC.out).mono ?_; rintro ee w3 ⟨⟨p0', k0', p1', k1'', rfl, s3⟩, k3⟩
                have D3 := k3.lies D2.out
                have L3 := hid (L2.out.keepN k3)
                have S3 := hid s3
                clear s3 y0 y1 y2 y3 y4 y5 y6 z0 z1 z2 z3 z4 z5 z6 t0 t1 t2
                go_upto_region 29 with (fail)
                have kx : Keeps Nil w3 (w3.alloc (dcells σ' p0' k0' p1' k1'')) := (Keeps.refl _ _).alloc _
                have h11 := alloc_block w3 (dcells σ' p0' k0' p1' k1'')
                have D4 := kx.lies D3
                have L4 := hid (L3.out.keepN kx)
                have S4 := hid (S3.out.keepN kx)
                have hbB : w1.heap.size ≠ w3.heap.size := by have := lt_of_block D3; omega
                have KK := hid (((KZ.out.thenOwn k2 (own_le HX.out.1 HX.out.2.1 HX.out.2.2)).trans k3.ofNil).trans kx)
                simp only [dcells] at kx h11 D4 L4 S4
                generalize (w3.alloc _) = W at *
                generalize w3.heap.size = b11 at *
                obtain ⟨⟨y0, y1, y2, y3, y4, y5, y6⟩, _⟩ := seven h11
                obtain ⟨⟨q0', q1', q2', q3', q4', q5', q6'⟩, _⟩ := seven D4
                obtain ⟨z0, z1, z2, z3, z4, z5, z6⟩ := sevenf D4
                have D4 := hid D4
                clear h11 D3 kx k3 k2
                go_wp2_with fail
                go_meet
                obtain ⟨W7, hW7, hF, hK⟩ := set7 D4.out (.bool σ'.u) (.slice p0' (strsV σ'.xs0).length k0') (.slice p1' (strsV σ'.xs1).length k1'') (.int .i64 σ'.d0) (.int .i64 σ'.d1) (.int .i64 σ'.l0) (.int .i64 σ'.l1)
                rw [hW7]
                exact ⟨_, rfl, rfl, hid ⟨σ', p0', k0', p1', k1'', HI.out.past L4.out hK (fun g hg e => by rw [At] at e; omega), hF, S4.out.keep hK (fun g hg _ e => by rw [At] at e; omega), HOK.out, (KK.out).thenAt hK k1.size⟩⟩
              · have h4 : 4 ≤ dv := by omega
                rcases hc : σ.send en s with ⟨σ', v'⟩
                have HC := hid hc
                have OK := ok_send HO.out hc
                clear hc
                have HOK := hid OK
                clear OK
                go_wp2_with fail
                refine (p_send' LZ.out HO.out hk3 HC.out).mono ?_; rintro ee w2 ⟨rfl, i2, k2⟩
                have D2 := k2.lies DZ.out (fun e => own_not HI.out.lt (Nat.le_refl _) e)
                have A2 := k2.lies AZ.out (fun e => own_not HI.out.lt hb6 e)
                have S2 := hid (SZ.out.keep k2 (fun g hg _ e => own_not HI.out.lt (by omega) e))
                have L2 := hid i2
                obtain ⟨⟨y0, y1, y2, y3, y4, y5, y6⟩, _⟩ := seven D2
                obtain ⟨z0, z1, z2, z3, z4, z5, z6⟩ := sevenf D2
                obtain ⟨t0, t1, t2⟩ := three_of A2
                have D2 := hid D2
                have A2 := hid A2
                clear i2
                go_wp2_with fail
                refine (r_send' S2.out (Nat.succ_le_of_lt (lt_of_block D2.out)) HO.out hk3 HC.out).mono ?_; rintro ee w3 ⟨⟨p0', k0', p1', k1'', rfl, s3⟩, k3⟩
                have D4 := k3.lies D2.out
                have L4 := hid (L2.out.keepN k3)
                have S4 := hid s3
                have KK := hid ((KZ.out.thenOwn k2 (own_le HX.out.1 HX.out.2.1 HX.out.2.2)).trans k3.ofNil)
                clear s3 y0 y1 y2 y3 y4 y5 y6 z0 z1 z2 z3 z4 z5 z6 t0 t1 t2 k2 k3
                obtain ⟨⟨q0', q1', q2', q3', q4', q5', q6'⟩, _⟩ := seven D4
                obtain ⟨z0, z1, z2, z3, z4, z5, z6⟩ := sevenf D4
                have D4 := hid D4
                go_wp2_with fail
                go_meet
                obtain ⟨W7, hW7, hF, hK⟩ := set7 D4.out (.bool σ'.u) (.slice p0' (strsV σ'.xs0).length k0') (.slice p1' (strsV σ'.xs1).length k1'') (.int .i64 σ'.d0) (.int .i64 σ'.d1) (.int .i64 σ'.l0) (.int .i64 σ'.l1)
                rw [hW7]
                exact ⟨_, rfl, rfl, hid ⟨σ', p0', k0', p1', k1'', HI.out.past L4.out hK (fun g hg e => by rw [At] at e; omega), hF, S4.out.keep hK (fun g hg _ e => by rw [At] at e; omega), HOK.out, (KK.out).thenAt hK k1.size⟩⟩
      case rest =>
        obtain ⟨v, rfl, rfl, hh2⟩ := hcut
        have HH2 := hid hh2
        obtain ⟨σ', p0', k0', p1', k1'', iL, bD, rS, ok, hkeep⟩ := hh2.out
        have HLT := hid iL
        have HOK := hid ok
        have hd0 : IntKind.u64.wrap σ'.d0 = σ'.d0 := by have := ok.d0; rw [IntKind.wrap_u64]; omega
        have hd1 : IntKind.u64.wrap σ'.d1 = σ'.d1 := by have := ok.d1; rw [IntKind.wrap_u64]; omega
        have hl0 : IntKind.u64.wrap σ'.l0 = σ'.l0 := by have := ok.l0; rw [IntKind.wrap_u64]; omega
        have hl1 : IntKind.u64.wrap σ'.l1 = σ'.l1 := by have := ok.l1; rw [IntKind.wrap_u64]; omega
        have hS : ∀ W, Keeps Nil wc W → (W.cell? ⟨w1.heap.size, 1, Option.none⟩ = some (.slice p0' (strsV σ'.xs0).length k0') ∧ W.cell? ⟨w1.heap.size, 3, Option.none⟩ = some (.int .i64 σ'.d0) ∧ W.cell? ⟨w1.heap.size, 5, Option.none⟩ = some (.int .i64 σ'.l0)) ∧
            (W.cell? ⟨w1.heap.size, 2, Option.none⟩ = some (.slice p1' (strsV σ'.xs1).length k1'') ∧ W.cell? ⟨w1.heap.size, 4, Option.none⟩ = some (.int .i64 σ'.d1) ∧ W.cell? ⟨w1.heap.size, 6, Option.none⟩ = some (.int .i64 σ'.l1)) ∧ W.cell? ⟨w1.heap.size, 0, Option.none⟩ = some (.bool σ'.u) := fun W K => by
          obtain ⟨⟨y0, y1, y2, y3, y4, y5, y6⟩, _⟩ := seven (K.lies bD)
          exact ⟨⟨y1, y3, y5⟩, ⟨y2, y4, y6⟩, y0⟩
        have HS0 := hid (fun W K => (hS W K).1)
        have HS1 := hid (fun W K => (hS W K).2.1)
        have HSU := hid (fun W K => (hS W K).2.2)
        have g0 : (v != v) = false := by simp
        clear hS iL bD rS ok hkeep hh2
        have kk : Keeps Nil wc wc := Keeps.refl _ _
        go_wp2_with fail
        go_region_held3 (fun w' => w'.cell? ⟨w1.heap.size, 0, Option.none⟩ = some (.bool σ'.u)) (first | exact HSU.out _ kk | exact HSU.out _ kk.drew | exact HSU.out _ kk.drew.drew) ((go_at_call 15; refine (isup_any _ _ _ _ _ _ _ _ _ _ _ _ _ (HLT.out.keepN (by first | exact kk | exact kk.drew | exact kk.drew.drew))).mono ?_; rintro ee wz ⟨rfl, rfl⟩))
        go_wp2_with fail
        refine wp_loop_rounds 3 ?_
        rw [rounds_succ]
        go_wp2_with fail
        go_region_held3 (fun w' => w'.cell? ⟨w1.heap.size, 1, Option.none⟩ = some (.slice p0' (strsV σ'.xs0).length k0') ∧ w'.cell? ⟨w1.heap.size, 3, Option.none⟩ = some (.int .i64 σ'.d0) ∧ w'.cell? ⟨w1.heap.size, 5, Option.none⟩ = some (.int .i64 σ'.l0)) (first | exact HS0.out _ kk | exact HS0.out _ kk.drew | exact HS0.out _ kk.drew.drew) ((first
          | (go_at_call 8; refine (len0 _ _ _ _ _ _ _ _ _ _ _ _ _ (HLT.out.keepN (by first | exact kk | exact kk.drew | exact kk.drew.drew))).mono ?_; rintro ee wz ⟨rfl, kz⟩; have kk : Keeps Nil wc wz := by first | exact kk.trans kz | exact kk.drew.trans kz | exact kk.drew.drew.trans kz)
          | (go_at_call 22; refine (dropped0 _ _ _ _ _ _ _ _ _ _ _ _ _ (HLT.out.keepN (by first | exact kk | exact kk.drew | exact kk.drew.drew))).mono ?_; rintro ee wz ⟨rfl, kz⟩; have kk : Keeps Nil wc wz := by first | exact kk.trans kz | exact kk.drew.trans kz | exact kk.drew.drew.trans kz)
          | (go_at_call 16; refine (lost0 _ _ _ _ _ _ _ _ _ _ _ _ _ (HLT.out.keepN (by first | exact kk | exact kk.drew | exact kk.drew.drew))).mono ?_; rintro ee wz ⟨rfl, kz⟩; have kk : Keeps Nil wc wz := by first | exact kk.trans kz | exact kk.drew.trans kz | exact kk.drew.drew.trans kz)))
        go_wp2_with fail
        rw [rounds_succ]
        go_wp2_with fail
        go_region_held3 (fun w' => w'.cell? ⟨w1.heap.size, 2, Option.none⟩ = some (.slice p1' (strsV σ'.xs1).length k1'') ∧ w'.cell? ⟨w1.heap.size, 4, Option.none⟩ = some (.int .i64 σ'.d1) ∧ w'.cell? ⟨w1.heap.size, 6, Option.none⟩ = some (.int .i64 σ'.l1)) (first | exact HS1.out _ kk | exact HS1.out _ kk.drew | exact HS1.out _ kk.drew.drew) ((first
          | (go_at_call 8; refine (len1 _ _ _ _ _ _ _ _ _ _ _ _ _ (HLT.out.keepN (by first | exact kk | exact kk.drew | exact kk.drew.drew))).mono ?_; rintro ee wz ⟨rfl, kz⟩; have kk : Keeps Nil wc wz := by first | exact kk.trans kz | exact kk.drew.trans kz | exact kk.drew.drew.trans kz)
          | (go_at_call 22; refine (dropped1 _ _ _ _ _ _ _ _ _ _ _ _ _ (HLT.out.keepN (by first | exact kk | exact kk.drew | exact kk.drew.drew))).mono ?_; rintro ee wz ⟨rfl, kz⟩; have kk : Keeps Nil wc wz := by first | exact kk.trans kz | exact kk.drew.trans kz | exact kk.drew.drew.trans kz)
          | (go_at_call 16; refine (lost1 _ _ _ _ _ _ _ _ _ _ _ _ _ (HLT.out.keepN (by first | exact kk | exact kk.drew | exact kk.drew.drew))).mono ?_; rintro ee wz ⟨rfl, kz⟩; have kk : Keeps Nil wc wz := by first | exact kk.trans kz | exact kk.drew.trans kz | exact kk.drew.drew.trans kz)))
        go_wp2_with fail
        rw [rounds_succ]
        go_wp2_with fail
        go_roundw
        case rel => exact ⟨k + 1, by omega, by go_num, hid (by obtain ⟨σ, h⟩ := HH2.out.out; first | exact ⟨σ, h.keepN kk⟩ | exact ⟨σ, h.keepN kk.drew⟩ | exact ⟨σ, h.keepN kk.drew.drew⟩)⟩
        case measure => simp only [intOf]; omega
    · obtain rfl : k = n := by omega
      obtain ⟨σ, p0, k0, p1, k1', iL, bD, rS, ok, hkeep⟩ := hh.out
      have HK := hid hkeep
      clear iL bD rS ok hkeep
      go_wp2_with (first
        | (go_at_call 8; refine (len_out x 2 (by omega) _).mono ?_; rintro ee wz ⟨rfl, kz8⟩)
        | (go_at_call 16; refine (lost_out x (-1) (by omega) _).mono ?_; rintro ee wz ⟨rfl, kz16⟩)
        | (go_at_call 22; refine (dropped_out x 2 (by omega) _).mono ?_; rintro ee wz ⟨rfl, kz22⟩)
        | (go_at_call 6; refine (HW _).out.mono ?_; rintro ee wz ⟨rfl, kz6⟩))
      go_ret
      exact ⟨rfl, (((HK.out.trans kz8).trans kz16).trans kz22).trans kz6⟩
end Go.Proofs.Ytljfpihfffhpjaa
