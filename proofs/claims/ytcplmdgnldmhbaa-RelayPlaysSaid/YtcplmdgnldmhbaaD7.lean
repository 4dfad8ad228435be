/-
  Layer 7: the document's table of VLANs: its rows as they read; Find, without, Members. Conditions: its rows lie so.
-/
import Derived.Test.YtcplmdgnldmhbaaV7
import Derived.Test.YtcplmdgnldmhbaaEq
namespace Go.Proofs.Ytcplmdgnldmhbaa
open Go.RowKit
set_option linter.unusedVariables false
set_option linter.unusedSimpArgs false

abbrev vcells (x : Pl × Int) : List Value := [.int .u16 x.1.v, .int .u8 (x.2 / 256), .int .u8 (x.2 % 256)]
def flatV (L : List (Pl × Int)) : List Value := L.flatMap vcells
theorem flatV_cons (x : Pl × Int) (L : List (Pl × Int)) : flatV (x :: L) = vcells x ++ flatV L := rfl
theorem flatV_append (L R : List (Pl × Int)) : flatV (L ++ R) = flatV L ++ flatV R := by simp [flatV]
theorem flatV_len (L : List (Pl × Int)) : (flatV L).length = L.length * 3 := by
  induction L with
  | nil => rfl
  | cons x L ih => rw [flatV_cons, List.length_append, ih, List.length_cons]; simp; omega
theorem flatV_get (L : List (Pl × Int)) : ∀ (i q : Nat), q < 3 → (flatV L)[i * 3 + q]? = (L[i]?).bind (fun x => (vcells x)[q]?) := by
  induction L with
  | nil => intro i q hq; simp [flatV]
  | cons x L ih =>
    intro i q hq
    rw [flatV_cons]
    cases i with
    | zero =>
      rw [Nat.zero_mul, Nat.zero_add, List.getElem?_append_left (by simpa using hq)]
      rfl
    | succ i =>
      rw [List.getElem?_append_right (by simp; omega)]
      have : (i + 1) * 3 + q - (vcells x).length = i * 3 + q := by simp; omega
      rw [this, ih i q hq]
      rfl
theorem flatV_one (L : List (Pl × Int)) : ∀ u ∈ flatV L, u.oneCell' = true := by
  intro u hu
  obtain ⟨x, _, hx⟩ := List.mem_flatMap.1 hu
  simp [vcells] at hx
  rcases hx with rfl | rfl | rfl <;> rfl
/-- The document's table by value. -/
abbrev vtab (n : Int) (p : Option Addr) (m c : Nat) : Value := .agg #[.int .i64 n, .slice p m c, .int .u16 0, .int .u16 0, .int .u16 0, .int .u16 0, .int .u16 0, .int .u16 0, .int .u16 0, .int .u16 0]
theorem WV.vlan {w : World} {B c n : Nat} {p : Option Addr} {L : List (Pl × Int)} (h : WV w B 3 p n c (flatV L)) {i : Nat} {x : Pl × Int} (hx : L[i]? = some x) : ∃ g off, p = some ⟨g, off, Option.none⟩ ∧ B ≤ g ∧ g < w.heap.size ∧
    (w.cell? ⟨g, off + i * 3, Option.none⟩ = some (.int .u16 x.1.v) ∧ w.cell? ⟨g, off + i * 3 + 1, Option.none⟩ = some (.int .u8 (x.2 / 256)) ∧ w.cell? ⟨g, off + i * 3 + 2, Option.none⟩ = some (.int .u8 (x.2 % 256))) := by
  have hi := (List.getElem?_eq_some_iff.1 hx).1
  have hl := h.1
  rw [flatV_len] at hl
  obtain ⟨g, off, e, hb, hg, hc⟩ := h.2.2 (by omega)
  have C : ∀ q v, (vcells x)[q]? = some v → w.cell? ⟨g, off + i * 3 + q, Option.none⟩ = some v := fun q v hv => by
    have hq : q < 3 := by have := (List.getElem?_eq_some_iff.1 hv).1; simpa using this
    have h2 := flatV_get L i q hq
    rw [hx] at h2
    simp only [Option.bind_some, hv] at h2
    rw [Nat.add_assoc]
    exact hc _ _ h2
  exact ⟨g, off, e, hb, hg, C 0 _ rfl, C 1 _ rfl, C 2 _ rfl⟩
/-- Its keys are VLANs' numbers. -/
def KeyV (L : List (Pl × Int)) : Prop := ∀ x ∈ L, x.1 = vp x.1.v
theorem KeyV.ne {L : List (Pl × Int)} (h : KeyV L) {i : Nat} {x : Pl × Int} (hx : L[i]? = some x) (v : Int) : x.1 = vp v ↔ x.1.v = v := by
  have := h x (List.mem_of_getElem? hx)
  constructor
  · intro e; rw [e]; rfl
  · intro e; rw [this, e]
abbrev Acc7 (w : World) (B : Nat) (p : Option Addr) (n c : Nat) (L : List (Pl × Int)) : Prop := w.ownsRow B 104 3 (.slice p n c) n (flatV L)
theorem Acc7.len {w : World} {B n c : Nat} {p : Option Addr} {L : List (Pl × Int)} (h : Acc7 w B p n c L) : L.length = n := by
  have := h.1
  rw [flatV_len] at this
  omega
theorem vinfo : (Try.prog.info? 104).map (fun i => (i.zero, i.size, i.bytes)) = some (some (.agg #[.int .u16 0, .int .u8 0, .int .u8 0]), 3, 4) := by kernel_rfl

set_option maxHeartbeats 4000000 in
theorem find_any (v : Int) (n : Int) (B : Nat) (p : Option Addr) (c : Nat) (L : List (Pl × Int)) (w : World) (h : WV w B 3 p L.length c (flatV L)) (hk : KeyV L) (hl : L.length ≤ 100) :
    Calls Try.prog 45 #[vtab n p L.length c, .int .u16 v] w fun e w' => e = .returned (.int .i64 (sidx (vp v) L)) ∧ Keeps Nil w w' := by
  have kz : Keeps Nil w (w.alloc (.cells #[Value.int IntKind.i64 n, Value.slice p L.length c, Value.int IntKind.u16 0, Value.int IntKind.u16 0, Value.int IntKind.u16 0, Value.int IntKind.u16 0, Value.int IntKind.u16 0, Value.int IntKind.u16 0, Value.int IntKind.u16 0, Value.int IntKind.u16 0] 57 (0, 0))) := (Keeps.refl _ _).alloc _
  have hA := alloc_block w (.cells #[Value.int IntKind.i64 n, Value.slice p L.length c, Value.int IntKind.u16 0, Value.int IntKind.u16 0, Value.int IntKind.u16 0, Value.int IntKind.u16 0, Value.int IntKind.u16 0, Value.int IntKind.u16 0, Value.int IntKind.u16 0, Value.int IntKind.u16 0] 57 (0, 0))
  have KZ := hid kz
  have H := hid (h.keepN kz)
  have HK := hid hk
  go_enter Try.func45, Try.ntmps45
  go_upto_region 1 with (fail)
  generalize (w.alloc (.cells #[Value.int IntKind.i64 n, Value.slice p L.length c, Value.int IntKind.u16 0, Value.int IntKind.u16 0, Value.int IntKind.u16 0, Value.int IntKind.u16 0, Value.int IntKind.u16 0, Value.int IntKind.u16 0, Value.int IntKind.u16 0, Value.int IntKind.u16 0] 57 (0, 0))) = W at *
  generalize w.heap.size = b at *
  obtain ⟨m, hn⟩ : ∃ m, L.length = m := ⟨_, rfl⟩
  rw [hn] at hA hl
  obtain ⟨a0, a1, a2, a3, a4, a5, a6, a7, a8, a9⟩ := ten_of hA
  have HN := hid hn
  clear hn hA kz h hk
  go_wp2_with fail
  go_loopw [5] (fun i wr => ∃ k : Nat, k ≤ m ∧ i = .int .i64 k ∧ wr = W ∧ Hid (∀ (j : Nat) (y : Pl × Int), j < k → L[j]? = some y → y.1 ≠ vp v)) (fun i _ => m - (intOf i).toNat)
  case atStart => exact ⟨0, Nat.zero_le _, rfl, rfl, hid (fun j y hj => by omega)⟩
  case round =>
    obtain ⟨k, hk, rfl, rfl, hall⟩ := hrel
    by_cases hlt : k < m
    · obtain ⟨x, hx⟩ : ∃ x, L[k]? = some x := ⟨_, List.getElem?_eq_getElem (by have := HN.out; omega)⟩
      obtain ⟨g, off, hp, _, hg, c0, c1, c2⟩ := H.out.vlan hx
      have HX := hid hx
      subst hp
      have hnc : m ≤ c := by have := H.out.2.1; have := HN.out; omega
      have HNE := hid (HK.out.ne hx v)
      clear hx c1 c2
      cases hq : (x.1.v == v) with
      | true =>
        have hq' : x.1.v = v := by simpa using hq
        have HQ := hid hq'
        clear hq'
        go_wp2_with fail
        go_ret
        rw [sidx_hit (vp v) L k x HX.out (HNE.out.2 HQ.out) hall.out]
        exact ⟨rfl, KZ.out⟩
      | false =>
        have hq' : x.1.v ≠ v := by simpa using hq
        have HQ := hid hq'
        clear hq'
        go_wp2_with fail
        go_roundw
        case rel =>
          refine ⟨k + 1, by omega, by go_num, by first | rfl | trivial, hid (fun j y hj hy => ?_)⟩
          by_cases e : j = k
          · subst e
            rw [HX.out] at hy
            cases hy
            exact fun e => HQ.out (HNE.out.1 e)
          · exact hall.out j y (by omega) hy
        case measure => simp only [intOf]; omega
    · obtain rfl : k = m := by omega
      have hmiss := sidx_miss (vp v) L (fun j y hy => hall.out j y (by have := (List.getElem?_eq_some_iff.1 hy).1; have := HN.out; omega) hy)
      have HMI := hid hmiss
      clear hmiss
      go_wp2_with fail
      go_ret
      rw [HMI.out]
      exact ⟨rfl, KZ.out⟩
set_option maxHeartbeats 4000000 in
theorem rmembers_any (v : Int) (n : Int) (B : Nat) (p : Option Addr) (c : Nat) (L : List (Pl × Int)) (w : World) (h : WV w B 3 p L.length c (flatV L)) (hk : KeyV L) (hl : L.length ≤ 100) :
    Calls Try.prog 50 #[vtab n p L.length c, .int .u16 v] w fun e w' => e = .returned (.int .u8 (vcode L v / 256)) ∧ Keeps Nil w w' := by
  have kz : Keeps Nil w (w.alloc (.cells #[Value.int IntKind.i64 n, Value.slice p L.length c, Value.int IntKind.u16 0, Value.int IntKind.u16 0, Value.int IntKind.u16 0, Value.int IntKind.u16 0, Value.int IntKind.u16 0, Value.int IntKind.u16 0, Value.int IntKind.u16 0, Value.int IntKind.u16 0] 57 (0, 0))) := (Keeps.refl _ _).alloc _
  have hA := alloc_block w (.cells #[Value.int IntKind.i64 n, Value.slice p L.length c, Value.int IntKind.u16 0, Value.int IntKind.u16 0, Value.int IntKind.u16 0, Value.int IntKind.u16 0, Value.int IntKind.u16 0, Value.int IntKind.u16 0, Value.int IntKind.u16 0, Value.int IntKind.u16 0] 57 (0, 0))
  have HF := hid (find_any v n B p c L _ (h.keepN kz) hk hl)
  go_enter Try.func50, Try.ntmps50
  go_upto_region 1 with (fail)
  generalize (w.alloc (.cells #[Value.int IntKind.i64 n, Value.slice p L.length c, Value.int IntKind.u16 0, Value.int IntKind.u16 0, Value.int IntKind.u16 0, Value.int IntKind.u16 0, Value.int IntKind.u16 0, Value.int IntKind.u16 0, Value.int IntKind.u16 0, Value.int IntKind.u16 0] 57 (0, 0))) = W at *
  generalize w.heap.size = b at *
  obtain ⟨a0, a1, a2, a3, a4, a5, a6, a7, a8, a9⟩ := ten_of hA
  have HA := hid hA
  have KZ := hid kz
  have H := hid (h.keepN kz)
  have HK := hid hk
  clear hA kz h hk
  go_wp2_with fail
  refine HF.out.mono ?_; rintro ee w2 ⟨rfl, k2⟩
  obtain ⟨a0, a1, a2, a3, a4, a5, a6, a7, a8, a9⟩ := ten_of (k2.lies HA.out)
  have K2 := hid (KZ.out.trans k2)
  have H2 := hid (H.out.keepN k2)
  clear k2
  rcases sidx_spec (vp v) L with ⟨h1, h2⟩ | ⟨k, u, h1, h2, h3⟩
  · have hz : vcode L v = 0 := by unfold vcode; rw [h1]; rfl
    rw [h2]
    have HZ := hid hz
    clear h1 h2 hz
    go_wp2_with fail
    go_ret
    exact ⟨by rw [HZ.out]; rfl, K2.out⟩
  · have hz : vcode L v = u := by unfold vcode; rw [h1]; rfl
    rw [h2]
    have HZ := hid hz
    obtain ⟨g, off, hp, _, hg, c0, c1, c2⟩ := H2.out.vlan h3
    simp only at c1
    subst hp
    have hkn : k < L.length := (List.getElem?_eq_some_iff.1 h3).1
    have hnc : L.length ≤ c := H2.out.2.1
    have hd : decide ((k : Int) < 0) = false := by simp
    clear h1 h2 hz h3 c0 c2
    go_wp2_with fail
    go_ret
    exact ⟨by rw [HZ.out]; rfl, K2.out⟩
end Go.Proofs.Ytcplmdgnldmhbaa
