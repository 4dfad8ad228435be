/-
  Vectors: vector.Sort: what it hands back is sorted, and the same vectors. Conditions: the slice lies so.
-/
import Derived.Test.YtndhccdknloinaaAppSeq
import Derived.Shelf.SlSortCmp.NoneTotal
import Derived.Shelf.SlSortFuncK.HeapSortK
namespace Go.Proofs.Ytndhccdknloinaa
open Go.RowKit Go.Shelf Go.Lib Go.Sort
set_option linter.unusedVariables false

def cfV (x y : V4) : Int := stand x.1 x.2.1 x.2.2.1 x.2.2.2 y.1 y.2.1 y.2.2.1 y.2.2.2
def LtV (x y : V4) : Prop := Lt x.1 x.2.1 x.2.2.1 x.2.2.2 y.1 y.2.1 y.2.2.1 y.2.2.2
theorem ltV (x y : V4) : ltOf cfV x y = true ↔ LtV x y := by
  unfold ltOf cfV LtV
  rw [decide_eq_true_iff]
  rcases stand_cases x.1 x.2.1 x.2.2.1 x.2.2.2 y.1 y.2.1 y.2.2.1 y.2.2.2 with ⟨h1, h2⟩ | ⟨h1, h2⟩ | ⟨h1, h2⟩
  · rw [h2]; exact ⟨fun _ => h1, fun _ => by decide⟩
  · rw [h2]
    refine ⟨fun h => absurd h (by decide), fun h => ?_⟩
    unfold Lt at h h1
    omega
  · rw [h2]
    refine ⟨fun h => absurd h (by decide), fun h => ?_⟩
    unfold Lt at h
    omega
theorem swoV : SWO (ltOf cfV) where
  irrefl x := by
    cases h : ltOf cfV x x with
    | false => rfl
    | true => have := (ltV _ _).1 h; unfold LtV Lt at this; omega
  trans x y z h1 h2 := by
    rw [ltV] at *
    unfold LtV Lt at *
    omega
  ntrans x y z h1 h2 := by
    cases h : ltOf cfV x z with
    | false => rfl
    | true =>
      have h3 := (ltV _ _).1 h
      have n1 : ¬ LtV x y := fun e => by rw [(ltV _ _).2 e] at h1; cases h1
      have n2 : ¬ LtV y z := fun e => by rw [(ltV _ _).2 e] at h2; cases h2
      unfold LtV Lt at *
      omega
theorem sort_keeps {α : Type} [Inhabited α] (enc : α → List Value) (k : Nat) (w : World) (blk off n : Nat) (d : Array α) (os : Array Obj) : Keeps (At blk) w (sortWorldK enc k w blk off n d os) := by
  unfold sortWorldK putRowK Sort.putRow Sort.mapBlock Sort.grow Sort.ahead
  refine ⟨rfl, rfl, rfl, by simp, fun j hj hs => ?_⟩
  have hne : ¬ blk = j := fun e => hs e.symm
  show (Array.modify _ _ _ ++ os)[j]? = _
  rw [Array.getElem?_append_left (by simpa using hj), Array.getElem?_modify, if_neg hne]
theorem cmpLaysV (blk off size : Nat) (w : World) : CmpLays Try.prog 11 #[] vcells 4 cfV blk off size w := fun m os dk hs x y =>
  compare_grows x.1 x.2.1 x.2.2.1 x.2.2.2 y.1 y.2.1 y.2.2.1 y.2.2.2 _
theorem flatV_get (L : List V4) : ∀ (i q : Nat), q < 4 → (flatV L)[i * 4 + q]? = (L[i]?).bind (fun x => (vcells x)[q]?) := by
  induction L with
  | nil => intro i q hq; simp [flatV]
  | cons x L ih =>
    intro i q hq
    rw [show flatV (x :: L) = vcells x ++ flatV L from rfl]
    cases i with
    | zero =>
      rw [Nat.zero_mul, Nat.zero_add, List.getElem?_append_left (by simpa using hq)]
      rfl
    | succ i =>
      rw [List.getElem?_append_right (by simp; omega)]
      have : (i + 1) * 4 + q - (vcells x).length = i * 4 + q := by simp; omega
      rw [this, ih i q hq]
      rfl
theorem flatK_at (d : Array V4) (t : Nat) (h : t < d.size * 4) : (flatK vcells 4 d)[t]! = (vcells d[t / 4]!)[t % 4]! := get_flatK vcells 4 d t h
theorem holdsV {w : World} {B g n c : Nat} {L : List V4} (h : w.ownsRow B 27 4 (.slice (some ⟨g, 0, Option.none⟩) n c) n (flatV L)) : HoldsK vcells 4 w g 0 L.toArray := by
  intro t ht
  have hlen : (flatK vcells 4 L.toArray).size = L.length * 4 := by simp
  rw [hlen] at ht
  have hlt : t / 4 < L.length := by omega
  have hx : L[t / 4]? = some (L[t / 4]'hlt) := List.getElem?_eq_getElem hlt
  have hf := flatV_get L (t / 4) (t % 4) (Nat.mod_lt _ (by decide))
  rw [show t / 4 * 4 + t % 4 = t from by omega, hx] at hf
  simp only [Option.bind_some] at hf
  have hq : t % 4 < (vcells (L[t / 4]'hlt)).length := by simp; omega
  rw [List.getElem?_eq_getElem hq] at hf
  have hc := h.cells (g := g) rfl t _ hf
  have e1 : (⟨g, 0, Option.none⟩ : Addr).add t = ⟨g, t, Option.none⟩ := by unfold Addr.add; split <;> simp_all
  rw [e1] at hc
  rw [Nat.zero_add]
  refine ⟨?_, ?_⟩
  · rw [hc, flatK_at _ _ (by simpa using ht)]
    have e2 : (L.toArray)[t / 4]! = L[t / 4]'hlt := by
      rw [getElem!_pos L.toArray (t / 4) (by simpa using hlt)]; rfl
    rw [e2, getElem!_pos (vcells (L[t / 4]'hlt)) (t % 4) hq]
    rfl
  · rcases h.2 with ⟨hv, _⟩ | ⟨g', cap, cur, hv, hb, hg, r⟩
    · cases hv
    · injection hv with hv
      injection hv with hv
      injection hv with hv
      subst hv
      simp [World.frozen?, hg]
theorem rowV_of {w : World} {g : Nat} {d : Array V4} (h : HoldsK vcells 4 w g 0 d) : RowV w g 0 d.toList := by
  intro j x hx
  have hlt : j < d.size := by have := (List.getElem?_eq_some_iff.1 hx).1; simpa using this
  have e2 : d[j]! = x := by
    rw [getElem!_pos d j hlt]
    have := (List.getElem?_eq_some_iff.1 hx).2
    simpa using this
  have C : ∀ q, q < 4 → w.cell? ⟨g, 0 + (j * 4 + q), Option.none⟩ = some ((vcells x)[q]!) := fun q hq => by
    have := (h (j * 4 + q) (by simp; omega)).1
    rw [this, flatK_at _ _ (by omega), show (j * 4 + q) / 4 = j from by omega, show (j * 4 + q) % 4 = q from by omega, e2]
    rfl
  exact ⟨C 0 (by omega), C 1 (by omega), C 2 (by omega), C 3 (by omega)⟩
/-- None is less than one ahead of it. -/
def Rises (L : List V4) : Prop := ∀ (i j : Nat) (x y : V4), i < j → L[i]? = some x → L[j]? = some y → ¬ LtV y x
theorem rises_of {d : Array V4} (h : SortedIn (ltOf cfV) 0 d.size d) : Rises d.toList := by
  intro i j x y hij hx hy hlt
  have hj : j < d.size := by have := (List.getElem?_eq_some_iff.1 hy).1; simpa using this
  have h1 := h i j (Nat.zero_le _) hij hj
  have ex : d[i]! = x := by
    rw [getElem!_pos d i (by omega)]
    have := (List.getElem?_eq_some_iff.1 hx).2
    simpa using this
  have ey : d[j]! = y := by
    rw [getElem!_pos d j hj]
    have := (List.getElem?_eq_some_iff.1 hy).2
    simpa using this
  rw [ex, ey] at h1
  rw [(ltV _ _).2 hlt] at h1
  cases h1
theorem eg11 : ∀ args w, (callFunc 11 args).run Try.prog w = .ok (.enter 11 args) w := enters_of Try.func11 (by kernel_rfl) rfl

set_option maxHeartbeats 1000000 in
theorem sortfunc_some {w : World} {B g c : Nat} {L : List V4} (h : w.ownsRow B 27 4 (.slice (some ⟨g, 0, Option.none⟩) L.length c) L.length (flatV L)) (hl : L.length ≤ 1000) :
    Calls Try.prog 29 #[.slice (some ⟨g, 0, Option.none⟩) L.length c, .func (.func 11) #[] #[]] w fun e w' => e = .returned (.tuple #[]) ∧ (∃ L', L'.Perm L ∧ Rises L' ∧ RowV w' g 0 L') ∧ Keeps (At g) w w' := by
  have hH := holdsV h
  have hg : g < w.heap.size := by
    rcases h.2 with ⟨hv, _⟩ | ⟨g', cap, cur, hv, hb, hg, r⟩
    · cases hv
    · injection hv with hv
      injection hv with hv
      injection hv with hv
      subst hv
      exact lt_of_block hg
  have hcon := AnyQ.slices_SortFunc sortV 4 Try.isAgg27 Try.sizeOf27 vcells (fun _ => rfl) (fun x v hv => by simp at hv; rcases hv with rfl | rfl | rfl | rfl <;> rfl) cfV swoV 11 #[] g 0 c L.toArray w eg11 (cmpLaysV g 0 L.toArray.size w) hH hg (by simp; omega)
  change Calls Try.prog 29 _ _ _ at hcon
  have e1 : L.toArray.size = L.length := by simp
  rw [e1] at hcon
  refine hcon.mono ?_
  rintro e w' ⟨he, d', n, os, hp, hs, rfl⟩
  have hsz : d'.size = L.length := by have := hp.1; simpa using this
  refine ⟨he, ⟨d'.toList, ?_, rises_of (by rw [hsz]; exact hs), rowV_of (holdsK_sortWorldK_c vcells 4 w g 0 L.toArray d' n os hH hg (by simpa using hsz))⟩, sort_keeps _ _ _ _ _ _ _ _⟩
  have h3 := hp.2.2
  have x1 : (d'.extract 0 L.length).toList = d'.toList := by rw [← hsz]; simp
  have x2 : (L.toArray.extract 0 L.length).toList = L := by simp
  rw [x1, x2] at h3
  exact h3
set_option maxHeartbeats 1000000 in
theorem sortfunc_none (p : Option Addr) (c : Nat) (fv : Value) (w : World) : Calls Try.prog 29 #[.slice p 0 c, fv] w fun e w' => e = .returned (.tuple #[]) ∧ w' = w := by
  have hS := AnyF.slices_SortFunc_none sortV p c fv w
  change Calls Try.prog 29 _ _ _ at hS
  exact hS
theorem own_len {w : World} {B n : Nat} {v : Value} {L : List V4} (h : w.ownsRow B 27 4 v n (flatV L)) : L.length = n := by
  have := h.1
  rw [flatV_len] at this
  omega
theorem collect_any (Bs cap : Nat) (p : Option Addr) (L : List V4) (hreach : L.length ≤ 1000) (w : World) (hBs : Bs < w.heap.size)
    (hc : w.cell? ⟨Bs, 0, Option.none⟩ = some (.slice p L.length cap)) (hI : VSl w.heap.size w p cap L) :
    Calls Try.prog 28 #[.func (.func 30) #[] #[.pointer (some ⟨Bs, 0, Option.none⟩)]] w fun e w' => (∃ p' c', e = .returned (.slice p' L.length c') ∧ w'.ownsRow w.heap.size 27 4 (.slice p' L.length c') L.length (flatV L)) ∧ Keeps Nil w w' := by
  have AS := callsIn_wide.1 (appendseq_in Fence.wide 3 trivial trivial rfl (by omega) Bs cap p L hreach w hBs hc hI)
  go_enter Try.func28, Try.ntmps28
  go_wp2_with fail
  refine AS.mono ?_; rintro e w2 ⟨v, rfl, own, hb⟩
  obtain ⟨p', c', rfl⟩ := own_shape own
  go_wp2_with fail
  go_ret
  exact ⟨⟨p', c', rfl, own⟩, Keeps.of_below hb _⟩
set_option maxHeartbeats 1000000 in
theorem sorted_any (Bs cap : Nat) (p : Option Addr) (L : List V4) (hreach : L.length ≤ 1000) (w : World) (hBs : Bs < w.heap.size)
    (hc : w.cell? ⟨Bs, 0, Option.none⟩ = some (.slice p L.length cap)) (hI : VSl w.heap.size w p cap L) :
    Calls Try.prog 22 #[.func (.func 30) #[] #[.pointer (some ⟨Bs, 0, Option.none⟩)], .func (.func 11) #[] #[]] w fun e w' => (∃ p' c' L', e = .returned (.slice p' L.length c') ∧ L'.Perm L ∧ Rises L' ∧ VSl w'.heap.size w' p' c' L') ∧ Keeps Nil w w' := by
  have CO := collect_any Bs cap p L hreach w hBs hc hI
  have SN := fun p c W => sortfunc_none p c (.func (.func 11) #[] #[]) W
  have HL := hid hreach
  clear hc hI hreach
  go_enter Try.func22, Try.ntmps22
  go_wp2_with fail
  refine CO.mono ?_; rintro e w2 ⟨⟨p', c', rfl, own⟩, k2⟩
  rcases Nat.eq_zero_or_pos L.length with h0 | h0
  · rw [h0]
    have hL : L = [] := List.eq_nil_of_length_eq_zero h0
    clear own
    have HL0 := hid hL
    clear h0 hL
    go_wp2_with fail
    refine (SN _ _ _).mono ?_; rintro e w3 ⟨rfl, rfl⟩
    go_wp2_with fail
    go_ret
    exact ⟨⟨p', c', [], by rw [HL0.out]; rfl, by rw [HL0.out], fun i j x y _ h => by simp at h, ⟨Nat.zero_le _, fun h => absurd rfl h⟩⟩, k2⟩
  · obtain ⟨g, hp⟩ : ∃ g, p' = some ⟨g, 0, Option.none⟩ := by
      rcases own.2 with ⟨hv, _⟩ | ⟨g, cap', cur, hv, _⟩
      · injection hv with h1 h2 h3; omega
      · injection hv with h1 h2 h3; exact ⟨g, h1⟩
    subst hp
    have hge := own.lt g rfl
    have hcap : L.length ≤ c' := by
      rcases own.2 with ⟨hv, _⟩ | ⟨g', cap', cur, hv, _, _, hle, _⟩
      · cases hv
      · injection hv with h1 h2 h3; subst h3; exact hle
    have SF := sortfunc_some own HL.out
    have HC := hid hcap
    clear own h0 hcap
    go_wp2_with fail
    refine SF.mono ?_; rintro e w3 ⟨rfl, ⟨L', hperm, hrise, hrow⟩, k3⟩
    go_wp2_with fail
    go_ret
    have hlen := hperm.length_eq
    exact ⟨⟨_, c', L', rfl, hperm, hrise, ⟨by rw [hlen]; exact HC.out, fun _ => ⟨g, 0, rfl, Nat.lt_of_lt_of_le hge.2 k3.size, hrow⟩⟩⟩, k2.thenAt k3 hge.1⟩
set_option maxHeartbeats 1000000 in
/-- vector.Sort. -/
theorem vsort_any (cap : Nat) (p : Option Addr) (L : List V4) (hreach : L.length ≤ 1000) (w : World) (hI : VSl w.heap.size w p cap L) :
    Calls Try.prog 15 #[.slice p L.length cap] w fun e w' => (∃ p' c' L', e = .returned (.slice p' L.length c') ∧ L'.Perm L ∧ Rises L' ∧ VSl w'.heap.size w' p' c' L') ∧ Keeps Nil w w' := by
  have VA := callsIn_wide.1 (values_in Fence.wide 3 trivial rfl p L.length cap w)
  have k0 : Below w.heap.size w (w.alloc (.cells #[.slice p L.length cap] 48)) := (Below.refl _ w).alloc (Nat.le_refl _) _
  have bO := Boxed.new w 48 (.slice p L.length cap)
  have SO := sorted_any w.heap.size cap p L hreach (w.alloc (.cells #[.slice p L.length cap] 48)) bO.lt bO.cell ⟨hI.1, fun h => by obtain ⟨b, off, e, hb, hr⟩ := hI.2 h; exact ⟨b, off, e, Nat.lt_of_lt_of_le hb k0.size, hr.below k0 hb⟩⟩
  have K0 := hid k0
  clear hI bO k0 hreach
  go_enter Try.func15, Try.ntmps15
  go_wp2_with fail
  refine VA.mono ?_; rintro e w2 ⟨rfl, rfl⟩
  go_wp2_with fail
  refine SO.mono ?_; rintro e w3 ⟨⟨p', c', L', rfl, h1, h2, h3⟩, k3⟩
  go_wp2_with fail
  go_ret
  exact ⟨⟨p', c', L', rfl, h1, h2, h3⟩, (Keeps.of_below K0.out _).trans k3⟩
end Go.Proofs.Ytndhccdknloinaa
