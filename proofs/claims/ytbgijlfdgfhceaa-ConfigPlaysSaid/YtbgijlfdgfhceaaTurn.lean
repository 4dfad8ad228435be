/-
  Layer 16: the table turned; DropMip, AddMip. Conditions: the table lies so; the numbers are in range.
-/
import Derived.Test.YtbgijlfdgfhceaaAt
import Derived.Deep.RegionHeld3
import Derived.Maps.AppendAt
import Derived.Deep.DeepCutAuto
namespace Go.Proofs.Ytbgijlfdgfhceaa
open Go.RowKit
set_option linter.unusedVariables false
set_option linter.unusedSimpArgs false
set_option maxRecDepth 8000

/-- None of X is a row of T. -/
def NotT (w : World) (T : TypeId) (X : Nat → Prop) : Prop := ∀ g c fr, X g → w.heap[g]? ≠ some (.cells c T fr)
theorem ORow.keepT {S X : Nat → Prop} {w w' : World} {T sz n c : Nat} {p : Option Addr} {xs : List Value} (h : ORow w S T sz p n c xs) (k : Keeps X w w') (hX : NotT w T X) : ORow w' S T sz p n c xs := by
  obtain ⟨⟨hl, h1⟩, h2⟩ := h
  refine ⟨⟨hl, ?_⟩, h2⟩
  rcases h1 with h1 | ⟨g, cap, cur, hv, hb, hg, r⟩
  · exact .inl h1
  · refine .inr ⟨g, cap, cur, hv, hb, ?_, r⟩
    exact (k.block g (lt_of_block hg) (fun e => hX g _ _ e hg)).trans hg
theorem notT_at {w : World} {T T' : TypeId} {b : Nat} {c : Array Value} {fr : Nat × Nat} (h : w.heap[b]? = some (.cells c T' fr)) (hT : T' ≠ T) : NotT w T (At b) := by
  intro g c' fr' hg e
  rw [show g = b from hg, h] at e
  injection e with e
  injection e with _ e
  exact hT e
theorem MapIs.raw {w : World} {mb : Nat} {S : List (Pl × Int)} (h : MapIs w mb S) : ∃ es cl, w.heap[mb]? = some (.map es cl) := by
  obtain ⟨_, D, ⟨es, cl, hb, _⟩, _⟩ := h
  exact ⟨es, cl, hb⟩
theorem notT_map {w : World} {T : TypeId} {mb : Nat} {M : List (Pl × Int)} (h : MapIs w mb M) : NotT w T (At mb) := by
  obtain ⟨es, cl, hb⟩ := h.raw
  intro g c' fr' hg e
  rw [show g = mb from hg, hb] at e
  cases e
theorem notT_new {w : World} {T : TypeId} {X : Nat → Prop} (h : ∀ g, X g → w.heap.size ≤ g) : NotT w T X := by
  intro g c fr hg e
  have := h g hg
  have := lt_of_block e
  omega
theorem notT_or {w : World} {T : TypeId} {X Y : Nat → Prop} (h : NotT w T X) (h' : NotT w T Y) : NotT w T (fun g => X g ∨ Y g) := fun g c fr hg => hg.elim (h g c fr) (h' g c fr)
/-- The row that a slice leads to is none of another type. -/
theorem notT_row {S : Nat → Prop} {w : World} {T T' sz n c : Nat} {p : Option Addr} {xs : List Value} (h : ORow w S T' sz p n c xs) (hT : T' ≠ T) : NotT w T (fun g => (Value.slice p n c).ownBlock = some g) := by
  intro g c' fr hg e
  obtain ⟨⟨hl, h1⟩, h2⟩ := h
  rcases h1 with ⟨hv, _⟩ | ⟨g', cap, cur, hv, hb, hg', r⟩
  · rw [hv] at hg; cases hg
  · rw [hv] at hg
    simp [Value.ownBlock] at hg
    subst hg
    rw [hg'] at e
    injection e with e
    injection e with _ e
    exact hT e
def After (w w' : World) (S : Nat → Prop) (t : Nat) (τ : CT) : Prop := Tbl w' (Nw S w w') t τ
section
variable {w w' : World} {S X : Nat → Prop} {t : Nat} {τ : CT} {pa pe : Option Addr} {ca ce mb : Nat} {L : List As}
theorem TblAt.bd (h : TblAt w S t τ pa ca pe ce mb L) : ∀ g, S g → g < w.heap.size := h.bound
theorem Tbl.bound (h : Tbl w S t τ) : ∀ g, S g → g < w.heap.size := by obtain ⟨pa, ca, pe, ce, mb, L, h⟩ := h; exact h.bound
theorem nw_bound {w w' : World} {S : Nat → Prop} (hS : ∀ g, S g → g < w.heap.size) (hz : w.heap.size ≤ w'.heap.size) : ∀ g, Nw S w w' g → g < w'.heap.size := fun g hg => hg.elim (fun h => Nat.lt_of_lt_of_le (hS g h) hz) (fun h => h.2)
theorem Tbl.after (h : Tbl w' S t τ) (hS : ∀ g, S g → g < w.heap.size) (hz : w.heap.size ≤ w'.heap.size) : After w w' S t τ := h.mono (fun g hg => .inl hg) (nw_bound hS hz)
theorem Tbl.stays (h : Tbl w S t τ) (k : Keeps Nil w w') : After w w' S t τ := (h.keepN k).after h.bound k.size
theorem TblAt.turnM (h : TblAt w S t τ pa ca pe ce mb L) (k : Keeps (At mb) w w') {M : List (Pl × Int)} (hM : MapIs w' mb M) : TblAt w' S t { τ with M := M } pa ca pe ce mb L :=
  ⟨fun g hg => Nat.lt_of_lt_of_le (h.bound g hg) k.size, h.inT,
   (k.block t (h.bound t h.inT) (fun e => notT_map h.map t _ _ e h.head)).trans h.head, h.rowA.keepT k (notT_map h.map), h.bare, fun x hx => (h.nums x hx).keepT k (notT_map h.map), h.rowE.keepT k (notT_map h.map), h.inM, hM⟩
end

def CT.dropMip (τ : CT) (p v : Int) : CT × Int := if (sget τ.M ⟨p, v⟩).isSome then ({ τ with M := sdel τ.M ⟨p, v⟩ }, 0) else (τ, 7)
set_option maxHeartbeats 2000000 in
theorem dropmip_nil (p v : Int) (w : World) : Calls Try.prog 22 #[.pointer Option.none, .int .u8 p, .int .u16 v] w fun e w' => e = .returned (.int .i64 1) ∧ w = w' := by
  go_enter Try.func22, Try.ntmps22
  go_wp2_with fail
  go_ret
  exact ⟨rfl, rfl⟩
set_option maxHeartbeats 4000000 in
theorem p_dropmip (p v : Int) (hpv : ALv p v) {w : World} {S : Nat → Prop} {t : Nat} {τ : CT} (h : Tbl w S t τ) :
    Calls Try.prog 22 #[.pointer (some ⟨t, 0, Option.none⟩), .int .u8 p, .int .u16 v] w fun e w' => e = .returned (.int .i64 (τ.dropMip p v).2) ∧ After w w' S t (τ.dropMip p v).1 ∧ Keeps S w w' := by
  have HT := hid h
  obtain ⟨pa, ca, pe, ce, mb, L, h⟩ := h
  have hlk := h.map.look ⟨p, v⟩ ⟨hpv.1, hpv.2⟩
  obtain ⟨a0, a1, a2, a3⟩ := four_block h.head
  have lt := lt_of_block h.head
  have H := hid h
  cases hs : sget τ.M ⟨p, v⟩ with
  | none =>
    have HD := hid (show τ.dropMip p v = (τ, 7) by unfold CT.dropMip; rw [hs]; rfl)
    rw [hs] at hlk
    clear hs h
    go_enter Try.func22, Try.ntmps22
    go_wp2_with fail
    go_ret
    rw [HD.out]
    exact ⟨rfl, HT.out.stays (Keeps.refl _ _), Keeps.refl _ _⟩
  | some l =>
    have HD := hid (show τ.dropMip p v = ({ τ with M := sdel τ.M ⟨p, v⟩ }, 0) by unfold CT.dropMip; rw [hs]; rfl)
    rw [hs] at hlk
    have hdr := fun ty => h.map.drop ⟨p, v⟩ ⟨hpv.1, hpv.2⟩ ty
    have HDR := hid hdr
    clear hs h hdr
    go_enter Try.func22, Try.ntmps22
    obtain ⟨w1, hrun, hm1, k1⟩ := HDR.out 0
    go_wp2_with fail
    go_ret
    rw [HD.out]
    have T1 : Tbl w1 S t { τ with M := sdel τ.M ⟨p, v⟩ } := ⟨_, _, _, _, _, _, H.out.turnM k1 hm1⟩
    exact ⟨rfl, T1.after H.out.bound k1.size, k1.mono (fun g e => by rw [show g = mb from e]; exact H.out.inM)⟩

theorem MapIs.look_draws {w : World} {mb : Nat} {S : List (Pl × Int)} (h : MapIs w mb S) (p : Pl) (hp : p.Ok) :
    ∀ n, (Instr.lookup 66 (.map (some mb)) p.val true).run Try.prog (w.drewN n) = .ok (.tuple #[.int .u8 ((sget S p).getD 0), .bool (sget S p).isSome]) (w.drewN n) :=
  fun n => (h.keep (Keeps.drewN w n) (fun e => e)).look p hp
def overB (a b l : Int) : Bool := bits BinOp.or .u8 a b / 2 ^ l.toNat != 0
def CT.addMip (τ : CT) (m : Mi) : CT × Int :=
  if decide (m.port < τ.n) && vlanB m.vid && decide (m.lv ≤ 7) then
    if (sget τ.M ⟨m.port, m.vid⟩).isSome then (τ, 8)
    else if overB (τ.lset m.port m.vid false τ.E) (τ.lset m.port m.vid true τ.E) m.lv then (τ, 9)
    else ({ τ with M := sput τ.M ⟨m.port, m.vid⟩ m.lv }, 0)
  else (τ, 2)
set_option maxHeartbeats 2000000 in
theorem addmip_nil (m : Mi) (w : World) : Calls Try.prog 19 #[.pointer Option.none, .agg #[.int .u8 m.port, .int .u16 m.vid, .int .u8 m.lv]] w fun e w' => e = .returned (.int .i64 1) ∧ Keeps Nil w w' := by
  go_enter Try.func19, Try.ntmps19
  go_wp2_with fail
  go_ret
  exact ⟨rfl, (Keeps.refl _ _).alloc _⟩

set_option maxHeartbeats 8000000 in
theorem p_addmip (m : Mi) (hm : (0 ≤ m.port ∧ m.port < 256) ∧ (0 ≤ m.vid ∧ m.vid < 65536) ∧ (0 ≤ m.lv ∧ m.lv < 256)) {w : World} {S : Nat → Prop} {t : Nat} {τ : CT} (h : Tbl w S t τ) (hg : τ.Good) :
    Calls Try.prog 19 #[.pointer (some ⟨t, 0, Option.none⟩), .agg #[.int .u8 m.port, .int .u16 m.vid, .int .u8 m.lv]] w fun e w' => e = .returned (.int .i64 (τ.addMip m).2) ∧ After w w' S t (τ.addMip m).1 ∧ Keeps S w w' := by
  have HG := hid hg
  by_cases c1 : m.port < τ.n
  · cases c2 : vlanB m.vid with
    | true =>
      by_cases c3 : m.lv ≤ 7
      · cases hs : (sget τ.M ⟨m.port, m.vid⟩) with
        | some l =>
          have HS := hid hs
          have HD := hid (show τ.addMip m = (τ, 8) by unfold CT.addMip; rw [hs]; simp [c1, c2, c3])
          have HT := hid h
          obtain ⟨pa, ca, pe, ce, mb, L, h⟩ := h
          have k0 : Keeps Nil w (w.alloc (.cells #[.int .u8 m.port, .int .u16 m.vid, .int .u8 m.lv] 65 (0, 0))) := (Keeps.refl _ _).alloc _
          have hb0 := alloc_block w (.cells #[.int .u8 m.port, .int .u16 m.vid, .int .u8 m.lv] 65 (0, 0))
          have VL := vlan_any m.vid
          have PO := port_any m.port hm.1 (h.keepN k0).head
          have H := hid h
          simp only [c1, decide_true] at PO
          have VL := fun W => (vlan_any m.vid W).mono (fun e w' h => And.intro h.1 h.2.symm)
          rw [c2] at VL
          clear h hg c1 c2 hs
          go_enter Try.func19, Try.ntmps19
          go_upto_region 3 with (fail)
          generalize (w.alloc (.cells #[.int .u8 m.port, .int .u16 m.vid, .int .u8 m.lv] 65 (0, 0))) = W at *
          obtain ⟨bx, e0⟩ : ∃ bx, bx = w.heap.size := ⟨_, rfl⟩
          rw [← e0] at hb0 ⊢
          have H2 := hid (H.out.keepN k0)
          obtain ⟨a0, a1, a2, a3⟩ := four_block H2.out.head
          have lt := lt_of_block H2.out.head
          obtain ⟨m0, m1, m2⟩ := three_block hb0
          have lb := lt_of_block hb0
          have K0 := hid k0
          have HB0 := hid hb0
          have E0 := hid e0
          clear k0 hb0 e0
          go_wp2_with fail
          refine PO.mono ?_; rintro e w' ⟨rfl, rfl⟩
          go_wp2_with fail
          refine (VL _).mono ?_; rintro e w' ⟨rfl, rfl⟩
          go_wp2_with fail
          have hlk := H2.out.map.look_draws ⟨m.port, m.vid⟩ ⟨hm.1, hm.2.1⟩
          rw [HS.out] at hlk
          go_quiet (fail)
          clear hlk
          go_wp2_with fail
          go_ret
          rw [HD.out]
          exact ⟨rfl, HT.out.stays (K0.out.trans (Keeps.drewN _ _)), (K0.out.trans (Keeps.drewN _ _)).ofNil⟩
        
        | none =>
          have HS := hid hs
          cases ho : overB (τ.lset m.port m.vid false τ.E) (τ.lset m.port m.vid true τ.E) m.lv with
          | true =>
            have HD := hid (show τ.addMip m = (τ, 9) by unfold CT.addMip; rw [hs]; simp [c1, c2, c3, ho])
            have HT := hid h
            obtain ⟨pa, ca, pe, ce, mb, L, h⟩ := h
            have k0 : Keeps Nil w (w.alloc (.cells #[.int .u8 m.port, .int .u16 m.vid, .int .u8 m.lv] 65 (0, 0))) := (Keeps.refl _ _).alloc _
            have hb0 := alloc_block w (.cells #[.int .u8 m.port, .int .u16 m.vid, .int .u8 m.lv] 65 (0, 0))
            have VL := vlan_any m.vid
            have PO := port_any m.port hm.1 (h.keepN k0).head
            have H := hid h
            simp only [c1, decide_true] at PO
            have VL := fun W => (vlan_any m.vid W).mono (fun e w' h => And.intro h.1 h.2.symm)
            rw [c2] at VL
            unfold overB at ho
            clear h hg c1 c2 hs
            go_enter Try.func19, Try.ntmps19
            go_upto_region 3 with (fail)
            generalize (w.alloc (.cells #[.int .u8 m.port, .int .u16 m.vid, .int .u8 m.lv] 65 (0, 0))) = W at *
            obtain ⟨bx, e0⟩ : ∃ bx, bx = w.heap.size := ⟨_, rfl⟩
            rw [← e0] at hb0 ⊢
            have H2 := hid (H.out.keepN k0)
            obtain ⟨a0, a1, a2, a3⟩ := four_block H2.out.head
            have lt := lt_of_block H2.out.head
            obtain ⟨m0, m1, m2⟩ := three_block hb0
            have lb := lt_of_block hb0
            have K0 := hid k0
            have HB0 := hid hb0
            have E0 := hid e0
            clear k0 hb0 e0
            go_wp2_with fail
            refine PO.mono ?_; rintro e w' ⟨rfl, rfl⟩
            go_wp2_with fail
            refine (VL _).mono ?_; rintro e w' ⟨rfl, rfl⟩
            go_wp2_with fail
            have hlk := H2.out.map.look_draws ⟨m.port, m.vid⟩ ⟨hm.1, hm.2.1⟩
            rw [HS.out] at hlk
            go_quiet (fail)
            clear hlk
            go_wp2_with fail
            have kd : Keeps Nil W (W.drewN nq) := Keeps.drewN _ _
            have H3 := hid (H2.out.keepN kd)
            have hb3 := (kd.block _ lb (fun e => e)).trans HB0.out
            have K3 := hid (K0.out.trans kd)
            clear kd
            generalize W.drewN nq = V at *
            have PA := p_at m.port m.vid ⟨hm.1, hm.2.1⟩ ⟨_, _, _, _, _, _, H3.out⟩ HG.out
            have HB3 := hid hb3
            have lb3 := lt_of_block hb3
            clear hb3
            obtain ⟨m0, m1, m2⟩ := three_block HB3.out
            have R0 := lset_range HG.out m.port m.vid false τ.E (fun x hx => hx) 0 (by decide)
            have R1 := lset_range HG.out m.port m.vid true τ.E (fun x hx => hx) 0 (by decide)
            have r0 : 0 ≤ τ.lset m.port m.vid false τ.E := R0.1
            have r1 : τ.lset m.port m.vid false τ.E < 256 := R0.2
            have r2 : 0 ≤ τ.lset m.port m.vid true τ.E := R1.1
            have r3 : τ.lset m.port m.vid true τ.E < 256 := R1.2
            have hl0 : 0 ≤ m.lv := hm.2.2.1
            clear R0 R1
            go_wp2_with fail
            refine PA.mono ?_; rintro e w4 ⟨rfl, k4⟩
            have H4 := hid (H3.out.keepN k4)
            have hb4 := (k4.block _ lb3 (fun e => e)).trans HB3.out
            have K4 := hid (K3.out.trans k4)
            have k5 : Keeps Nil w4 (w4.alloc (.cells #[.int .u8 (τ.lset m.port m.vid false τ.E), .int .u8 (τ.lset m.port m.vid true τ.E), .int .i64 (τ.mid m.port m.vid)] 56 (0, 0))) := (Keeps.refl _ _).alloc _
            have hb5 := alloc_block w4 (.cells #[.int .u8 (τ.lset m.port m.vid false τ.E), .int .u8 (τ.lset m.port m.vid true τ.E), .int .i64 (τ.mid m.port m.vid)] 56 (0, 0))
            go_upto_region 9 with (fail)
            generalize (w4.alloc (.cells #[.int .u8 (τ.lset m.port m.vid false τ.E), .int .u8 (τ.lset m.port m.vid true τ.E), .int .i64 (τ.mid m.port m.vid)] 56 (0, 0))) = w5 at *
            generalize w4.heap.size = b5 at *
            have H5 := hid (H4.out.keepN k5)
            have hb6 := (k5.block _ (lt_of_block hb4) (fun e => e)).trans hb4
            obtain ⟨m0, m1, m2⟩ := three_block hb6
            obtain ⟨n0, n1, n2⟩ := three_block hb5
            obtain ⟨a0, a1, a2, a3⟩ := four_block H5.out.head
            have lt5 := lt_of_block H5.out.head
            have lb5 := lt_of_block hb5
            have lb6 := lt_of_block hb6
            have K5 := hid (K4.out.trans k5)
            clear hb4 hb5 hb6 k4 k5
            go_wp2_with fail
            go_ret
            rw [HD.out]
            exact ⟨rfl, HT.out.stays K5.out, K5.out.ofNil⟩
          
          | false =>
            have HD := hid (show τ.addMip m = ({ τ with M := sput τ.M ⟨m.port, m.vid⟩ m.lv }, 0) by unfold CT.addMip; rw [hs]; simp [c1, c2, c3, ho])
            have HT := hid h
            obtain ⟨pa, ca, pe, ce, mb, L, h⟩ := h
            have k0 : Keeps Nil w (w.alloc (.cells #[.int .u8 m.port, .int .u16 m.vid, .int .u8 m.lv] 65 (0, 0))) := (Keeps.refl _ _).alloc _
            have hb0 := alloc_block w (.cells #[.int .u8 m.port, .int .u16 m.vid, .int .u8 m.lv] 65 (0, 0))
            have VL := vlan_any m.vid
            have PO := port_any m.port hm.1 (h.keepN k0).head
            have H := hid h
            simp only [c1, decide_true] at PO
            have VL := fun W => (vlan_any m.vid W).mono (fun e w' h => And.intro h.1 h.2.symm)
            rw [c2] at VL
            unfold overB at ho
            clear h hg c1 c2 hs
            go_enter Try.func19, Try.ntmps19
            go_upto_region 3 with (fail)
            generalize (w.alloc (.cells #[.int .u8 m.port, .int .u16 m.vid, .int .u8 m.lv] 65 (0, 0))) = W at *
            obtain ⟨bx, e0⟩ : ∃ bx, bx = w.heap.size := ⟨_, rfl⟩
            rw [← e0] at hb0 ⊢
            have H2 := hid (H.out.keepN k0)
            obtain ⟨a0, a1, a2, a3⟩ := four_block H2.out.head
            have lt := lt_of_block H2.out.head
            obtain ⟨m0, m1, m2⟩ := three_block hb0
            have lb := lt_of_block hb0
            have K0 := hid k0
            have HB0 := hid hb0
            have E0 := hid e0
            clear k0 hb0 e0
            go_wp2_with fail
            refine PO.mono ?_; rintro e w' ⟨rfl, rfl⟩
            go_wp2_with fail
            refine (VL _).mono ?_; rintro e w' ⟨rfl, rfl⟩
            go_wp2_with fail
            have hlk := H2.out.map.look_draws ⟨m.port, m.vid⟩ ⟨hm.1, hm.2.1⟩
            rw [HS.out] at hlk
            go_quiet (fail)
            clear hlk
            go_wp2_with fail
            have kd : Keeps Nil W (W.drewN nq) := Keeps.drewN _ _
            have H3 := hid (H2.out.keepN kd)
            have hb3 := (kd.block _ lb (fun e => e)).trans HB0.out
            have K3 := hid (K0.out.trans kd)
            clear kd
            generalize W.drewN nq = V at *
            have PA := p_at m.port m.vid ⟨hm.1, hm.2.1⟩ ⟨_, _, _, _, _, _, H3.out⟩ HG.out
            have HB3 := hid hb3
            have lb3 := lt_of_block hb3
            clear hb3
            obtain ⟨m0, m1, m2⟩ := three_block HB3.out
            have R0 := lset_range HG.out m.port m.vid false τ.E (fun x hx => hx) 0 (by decide)
            have R1 := lset_range HG.out m.port m.vid true τ.E (fun x hx => hx) 0 (by decide)
            have r0 : 0 ≤ τ.lset m.port m.vid false τ.E := R0.1
            have r1 : τ.lset m.port m.vid false τ.E < 256 := R0.2
            have r2 : 0 ≤ τ.lset m.port m.vid true τ.E := R1.1
            have r3 : τ.lset m.port m.vid true τ.E < 256 := R1.2
            have hl0 : 0 ≤ m.lv := hm.2.2.1
            clear R0 R1
            go_wp2_with fail
            refine PA.mono ?_; rintro e w4 ⟨rfl, k4⟩
            have H4 := hid (H3.out.keepN k4)
            have hb4 := (k4.block _ lb3 (fun e => e)).trans HB3.out
            have K4 := hid (K3.out.trans k4)
            have k5 : Keeps Nil w4 (w4.alloc (.cells #[.int .u8 (τ.lset m.port m.vid false τ.E), .int .u8 (τ.lset m.port m.vid true τ.E), .int .i64 (τ.mid m.port m.vid)] 56 (0, 0))) := (Keeps.refl _ _).alloc _
            have hb5 := alloc_block w4 (.cells #[.int .u8 (τ.lset m.port m.vid false τ.E), .int .u8 (τ.lset m.port m.vid true τ.E), .int .i64 (τ.mid m.port m.vid)] 56 (0, 0))
            go_upto_region 9 with (fail)
            generalize (w4.alloc (.cells #[.int .u8 (τ.lset m.port m.vid false τ.E), .int .u8 (τ.lset m.port m.vid true τ.E), .int .i64 (τ.mid m.port m.vid)] 56 (0, 0))) = w5 at *
            generalize w4.heap.size = b5 at *
            have H5 := hid (H4.out.keepN k5)
            have hb6 := (k5.block _ (lt_of_block hb4) (fun e => e)).trans hb4
            obtain ⟨m0, m1, m2⟩ := three_block hb6
            obtain ⟨n0, n1, n2⟩ := three_block hb5
            obtain ⟨a0, a1, a2, a3⟩ := four_block H5.out.head
            have lt5 := lt_of_block H5.out.head
            have lb5 := lt_of_block hb5
            have lb6 := lt_of_block hb6
            have K5 := hid (K4.out.trans k5)
            clear hb4 hb5 hb6 k4 k5
            obtain ⟨w6, hrun, m6, k6⟩ := (H5.out.map.keep ((Keeps.refl Nil w5).drew) (fun e => e)).put ⟨m.port, m.vid⟩ ⟨hm.1, hm.2.1⟩ m.lv (by omega) (by have := HG.out.M; omega)
            simp only [Pl.val] at hrun
            go_wp2_with fail
            go_region
            all_goals
              go_wp2_with fail
              go_ret
              rw [HD.out]
              have T6 := (H5.out.keepN ((Keeps.refl Nil w5).drew)).turnM k6 m6
              have kk : Keeps S w w6 := (K5.out.drew.ofNil).trans (k6.mono (fun g e => by rw [show g = mb from e]; exact H.out.inM))
              exact ⟨rfl, Tbl.after ⟨_, _, _, _, _, _, T6⟩ H.out.bound kk.size, kk⟩
          
      · have HD := hid (show τ.addMip m = (τ, 2) by unfold CT.addMip; simp [c1, c2, c3])
        have HT := hid h
        obtain ⟨pa, ca, pe, ce, mb, L, h⟩ := h
        have k0 : Keeps Nil w (w.alloc (.cells #[.int .u8 m.port, .int .u16 m.vid, .int .u8 m.lv] 65 (0, 0))) := (Keeps.refl _ _).alloc _
        have hb0 := alloc_block w (.cells #[.int .u8 m.port, .int .u16 m.vid, .int .u8 m.lv] 65 (0, 0))
        have VL := vlan_any m.vid
        have PO := port_any m.port hm.1 (h.keepN k0).head
        have H := hid h
        simp only [c1, decide_true] at PO
        have VL := fun W => (vlan_any m.vid W).mono (fun e w' h => And.intro h.1 h.2.symm)
        rw [c2] at VL
        clear h hg c1 c2
        go_enter Try.func19, Try.ntmps19
        go_upto_region 3 with (fail)
        generalize (w.alloc (.cells #[.int .u8 m.port, .int .u16 m.vid, .int .u8 m.lv] 65 (0, 0))) = W at *
        obtain ⟨bx, e0⟩ : ∃ bx, bx = w.heap.size := ⟨_, rfl⟩
        rw [← e0] at hb0 ⊢
        have H2 := hid (H.out.keepN k0)
        obtain ⟨a0, a1, a2, a3⟩ := four_block H2.out.head
        have lt := lt_of_block H2.out.head
        obtain ⟨m0, m1, m2⟩ := three_block hb0
        have lb := lt_of_block hb0
        have K0 := hid k0
        have HB0 := hid hb0
        have E0 := hid e0
        clear k0 hb0 e0
        go_wp2_with fail
        refine PO.mono ?_; rintro e w' ⟨rfl, rfl⟩
        go_wp2_with fail
        refine (VL _).mono ?_; rintro e w' ⟨rfl, rfl⟩
        go_wp2_with fail
        go_ret
        rw [HD.out]
        exact ⟨rfl, HT.out.stays K0.out, K0.out.ofNil⟩
      
    | false =>
      have HD := hid (show τ.addMip m = (τ, 2) by unfold CT.addMip; simp [c1, c2])
      have HT := hid h
      obtain ⟨pa, ca, pe, ce, mb, L, h⟩ := h
      have k0 : Keeps Nil w (w.alloc (.cells #[.int .u8 m.port, .int .u16 m.vid, .int .u8 m.lv] 65 (0, 0))) := (Keeps.refl _ _).alloc _
      have hb0 := alloc_block w (.cells #[.int .u8 m.port, .int .u16 m.vid, .int .u8 m.lv] 65 (0, 0))
      have VL := vlan_any m.vid
      have PO := port_any m.port hm.1 (h.keepN k0).head
      have H := hid h
      simp only [c1, decide_true] at PO
      have VL := fun W => (vlan_any m.vid W).mono (fun e w' h => And.intro h.1 h.2.symm)
      rw [c2] at VL
      clear h hg c1 c2
      go_enter Try.func19, Try.ntmps19
      go_upto_region 3 with (fail)
      generalize (w.alloc (.cells #[.int .u8 m.port, .int .u16 m.vid, .int .u8 m.lv] 65 (0, 0))) = W at *
      obtain ⟨bx, e0⟩ : ∃ bx, bx = w.heap.size := ⟨_, rfl⟩
      rw [← e0] at hb0 ⊢
      have H2 := hid (H.out.keepN k0)
      obtain ⟨a0, a1, a2, a3⟩ := four_block H2.out.head
      have lt := lt_of_block H2.out.head
      obtain ⟨m0, m1, m2⟩ := three_block hb0
      have lb := lt_of_block hb0
      have K0 := hid k0
      have HB0 := hid hb0
      have E0 := hid e0
      clear k0 hb0 e0
      go_wp2_with fail
      refine PO.mono ?_; rintro e w' ⟨rfl, rfl⟩
      go_wp2_with fail
      refine (VL _).mono ?_; rintro e w' ⟨rfl, rfl⟩
      go_wp2_with fail
      go_ret
      rw [HD.out]
      exact ⟨rfl, HT.out.stays K0.out, K0.out.ofNil⟩
    
  · have HD := hid (show τ.addMip m = (τ, 2) by unfold CT.addMip; simp [c1])
    have HT := hid h
    obtain ⟨pa, ca, pe, ce, mb, L, h⟩ := h
    have k0 : Keeps Nil w (w.alloc (.cells #[.int .u8 m.port, .int .u16 m.vid, .int .u8 m.lv] 65 (0, 0))) := (Keeps.refl _ _).alloc _
    have hb0 := alloc_block w (.cells #[.int .u8 m.port, .int .u16 m.vid, .int .u8 m.lv] 65 (0, 0))
    have VL := vlan_any m.vid
    have PO := port_any m.port hm.1 (h.keepN k0).head
    have H := hid h
    simp only [c1, decide_false] at PO
    clear h hg c1
    go_enter Try.func19, Try.ntmps19
    go_upto_region 3 with (fail)
    generalize (w.alloc (.cells #[.int .u8 m.port, .int .u16 m.vid, .int .u8 m.lv] 65 (0, 0))) = W at *
    obtain ⟨bx, e0⟩ : ∃ bx, bx = w.heap.size := ⟨_, rfl⟩
    rw [← e0] at hb0 ⊢
    have H2 := hid (H.out.keepN k0)
    obtain ⟨a0, a1, a2, a3⟩ := four_block H2.out.head
    have lt := lt_of_block H2.out.head
    obtain ⟨m0, m1, m2⟩ := three_block hb0
    have lb := lt_of_block hb0
    have K0 := hid k0
    have HB0 := hid hb0
    have E0 := hid e0
    clear k0 hb0 e0
    go_wp2_with fail
    refine PO.mono ?_; rintro e w' ⟨rfl, rfl⟩
    go_wp2_with fail
    go_ret
    rw [HD.out]
    exact ⟨rfl, HT.out.stays K0.out, K0.out.ofNil⟩
  
end Go.Proofs.Ytbgijlfdgfhceaa
