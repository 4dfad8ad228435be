/-
  The statement VectorSorts: sorted vectors rise and are the same ones; the least path is one of them, none less. No condition.
-/
import Derived.Test.YtndhccdknloinaaSortsLaw
import Derived.Test.YtndhccdknloinaaPaths
import Derived.WalkKit
import Derived.ProofKit
import Derived.OpenShut
import Derived.ShutString
import Derived.ChangeOld
import Derived.Below
namespace Go.Proofs.Ytndhccdknloinaa.vectorSorts
open Go.ChangeShapes Go.WideShapes Go.ChangeAt Go.RowKit
open Go.ChangeMaps (open_string shut_string)
set_option linter.unusedVariables false

theorem own : ownKnob Try.prog.godebug = none := by kernel_rfl
theorem laidOut : laidOutB Try.prog = true := by kernel_rfl

/-- A slice of integers that came in: nil, or a row of cells that hold the numbers. -/
def IsRow (k : IntKind) (w : World) (a : Option Addr) (len cap : Nat) (zs : List Int) : Prop :=
  (a = none ∧ len = 0 ∧ cap = 0 ∧ zs = []) ∨
  ∃ x, a = some x ∧ len ≤ cap ∧ cap ≤ maxLen ∧ zs.length = cap ∧ (∀ i, i < zs.length → w.cell? (x.add i) = some (.int k (zs.getD i 0))) ∧ ∀ n ∈ zs, (Lit.int k n).wf = true

theorem c27 : Try.prog.cellsOf 27 = 4 := by kernel_rfl
section
variable {H : Type} {enc : TypeId × Value → H} {W : World} {sp : Nat → Bool} {hd : Bool}
theorem trod_vec27 {fuel : Nat} {cs : List Value} {x : DataW H × List MemPlace} (h : DataW.trod enc Try.prog W 0 sp hd fuel 27 cs = some x) :
    ∃ z : V4, cs = [.int .u64 z.1, .int .u32 z.2.1, .int .u64 z.2.2.1, .int .u8 z.2.2.2] := by
  obtain ⟨xs, n, hn, hx, hlen, hxl, hf⟩ := DataW.trod_struct Try.underlying27 h
  rw [c27] at hlen
  have hxl' : xs.length = 4 := hxl
  have h0 := hf 0 _ rfl
  have h1 := hf 1 _ rfl
  have h2 := hf 2 _ rfl
  have h3 := hf 3 _ rfl
  simp only [List.getElem_toArray, List.getElem_cons_succ, List.getElem_cons_zero] at h0 h1 h2 h3
  rw [c22] at h0 h2
  rw [c23] at h1
  rw [c5] at h3
  match cs, hlen with
  | [a, b, c, d], _ =>
    simp only [List.drop_zero, List.take_succ_cons, List.take_zero, List.drop_succ_cons] at h0 h1 h2 h3
    rw [List.getElem?_eq_getElem (by omega)] at h0 h1 h2 h3
    obtain ⟨z0, e0, _⟩ := DataW.trod_int Try.underlying22 h0
    obtain ⟨z1, e1, _⟩ := DataW.trod_int Try.underlying23 h1
    obtain ⟨z2, e2, _⟩ := DataW.trod_int Try.underlying22 h2
    obtain ⟨z3, e3, _⟩ := DataW.trod_int Try.underlying5 h3
    simp at e0 e1 e2 e3
    subst e0 e1 e2 e3
    exact ⟨(z0, z1, z2, z3), rfl⟩
end
open Go.Deep in
theorem open_vecs {H : Type} {enc : TypeId × Value → H} {W : World} {a : Option Addr} {n c : Nat} {d : DataW H} {p : List MemPlace}
    (h : DataW.Trod enc Try.prog W 0 (fun _ => true) true 48 (.slice a n c) d p) : n ≤ maxLen ∧ ∃ L : List V4, L.length = n ∧ VSl W.heap.size W a c L := by
  obtain ⟨fuel, hf⟩ := h
  rcases open_slice Try.underlying48 hf with h0 | ⟨x, len, cap, m, k, D, Pl, hcs, hb, hl, hm, hmm, hx, hi⟩
  · have hcs := h0.1
    simp [Value.cells] at hcs
    obtain ⟨rfl, rfl, rfl⟩ := hcs
    exact ⟨Nat.zero_le _, [], rfl, Nat.le_refl _, fun h => absurd rfl h⟩
  · simp [Value.cells] at hcs
    obtain ⟨rfl, rfl, rfl⟩ := hcs
    simp only [if_true] at hmm
    subst hmm
    have he : ∀ i, i < n → ∃ z : V4, ∀ (j : Nat) u, [Value.int .u64 z.1, .int .u32 z.2.1, .int .u64 z.2.2.1, .int .u8 z.2.2.2][j]? = some u → W.cell? ((x.add (i * 4)).add j) = some u := by
      intro i hin
      obtain ⟨cs', hc, ht'⟩ := hi i (by omega)
      rw [c27] at hc
      obtain ⟨z, rfl⟩ := trod_vec27 ht'
      obtain ⟨_, hcl, hat⟩ := World.cells?_some hc
      refine ⟨z, fun j u hj => ?_⟩
      have hj5 : j < 4 := by have := (List.getElem?_eq_some_iff.1 hj).1; simpa using this
      exact (hat j hj5).trans hj
    obtain ⟨l, hll, hl'⟩ := exists_list n he
    refine ⟨Nat.le_trans hl hm, l, hll, by omega, fun hne => ?_⟩
    obtain ⟨z, hz⟩ : ∃ z, l[0]? = some z := by cases l with
      | nil => exact absurd rfl hne
      | cons z l => exact ⟨z, rfl⟩
    have h0 := hl' 0 z hz 0 _ rfl
    rw [Nat.zero_mul] at h0
    have hx0 : x.add 0 = x := by unfold Addr.add; split <;> simp_all
    rw [hx0] at h0
    have hx := spotless h0
    obtain ⟨b, off, spot⟩ := x
    simp at hx
    subst hx
    simp only [add_plain'] at hl' h0
    refine ⟨b, off, rfl, block_lt h0, fun i z hz => ?_⟩
    exact ⟨hl' i z hz 0 _ rfl, hl' i z hz 1 _ rfl, hl' i z hz 2 _ rfl, hl' i z hz 3 _ rfl⟩
theorem bytes_of_row {w : World} {a : Option Addr} {n c : Nat} {zs : List Int} (h : IsRow .u8 w a n c zs) : Bytes w a n c := by
  rcases h with ⟨rfl, rfl, rfl, rfl⟩ | ⟨x, rfl, hl, hm, hz, hc, _⟩
  · exact ⟨Nat.le_refl _, fun h => absurd h (by omega)⟩
  · refine ⟨hl, fun h0 => ?_⟩
    have h1 := hc 0 (by omega)
    have hx := spotless h1
    obtain ⟨b, off, spot⟩ := x
    simp at hx
    subst hx
    simp only [add_plain'] at hc h1
    exact ⟨b, off, rfl, block_lt h1, fun j hj => ⟨_, hc j (by omega)⟩⟩
theorem sorts_great (a0 : Option Addr) (len0 cap0 : Nat) (v : Value) (w : World) (h : 50 < len0) (hm : len0 ≤ maxLen) :
    Calls Try.prog 6 #[.slice a0 len0 cap0, v] w fun e w' => e = .returned (.bool true) ∧ Keeps Nil w w' := by
  have hb : decide (50 < (len0 : Int)) = true := by simp; omega
  go_enter Try.func6, Try.ntmps6
  go_wp2_with (go_at_call 12; refine (wakes_any _).mono ?_; rintro e w1 ⟨rfl, k1⟩)
  go_ret
  exact ⟨rfl, k1⟩
theorem walk (a0 : Option Addr) (len0 cap0 : Nat) (a1 : Option Addr) (len1 cap1 : Nat) (z1 : List Int) (w : World) (w0 : len0 ≤ maxLen ∧ ∃ L : List V4, L.length = len0 ∧ VSl w.heap.size w a0 cap0 L) (w1 : IsRow .u8 w a1 len1 cap1 z1) :
    Calls Try.prog 6 #[.slice a0 len0 cap0, .slice a1 len1 cap1] w fun e w' => e = .returned (.bool true) ∧ Below w.heap.size w w' := by
  suffices h : Calls Try.prog 6 #[.slice a0 len0 cap0, .slice a1 len1 cap1] w fun e w' => e = .returned (.bool true) ∧ Keeps Nil w w' from h.mono fun _ _ h => ⟨h.1, nils h.2⟩
  obtain ⟨hm, L, rfl, hL⟩ := w0
  by_cases h : L.length ≤ 50
  · exact sorts_any a0 cap0 L a1 len1 cap1 w h hL (bytes_of_row w1)
  · exact sorts_great a0 L.length cap0 _ w (by omega) hm

set_option maxRecDepth 100000 in
theorem lifted (os : Os) (started : os.Started) (H : Type) (enc : TypeId × Value → H) :
    ReturnsInHanded {} Try.checked os 6 .any (Rows.vectorSortsSpec.pre6 enc Try.prog Try.f6 Rows.vectorSortsRow.domain false) (Rows.vectorSortsSpec.post enc Try.prog Try.f6 false true false false) := by
  refine returnsInHanded_of_change (C := Try.checked) own started (by kernel_rfl) Try.func6
    (ChangeSpec.witness6 (enc := enc) (C := Try.checked) false ⟨#[], #[.slice none 0 0, .slice none 0 0], []⟩ 8 (by kernel_rfl) (by kernel_rfl) (by kernel_rfl) (by kernel_rfl)) ?_
  intro W base args ds gs before hval0 hW hcnd _
  have hval : ∀ (j : Nat) t v, Try.f6.params[j]? = some t → args[j]? = some v → Value.okWide Try.prog W .any base t v := hval0
  have hW' := hW
  obtain ⟨p, q, hA0, hV, rfl, hfz, hnd⟩ := hW
  have hA : DataW.TrodAll enc Try.prog W 0 (fun _ => true) true Try.f6.params.toList args.toList ds p := hA0
  rw [Try.params6] at hA hval
  obtain ⟨v0, vs0, d0, ds0, p0, q0, hargs, rfl, rfl, h0, r0⟩ := trodAll_cons hA
  obtain ⟨v1, vs1, d1, ds1, p1, q1, rfl, rfl, rfl, h1, r1⟩ := trodAll_cons r0
  obtain ⟨rfl, rfl, rfl⟩ := trodAll_nil r1
  obtain rfl : args = #[v0, v1] := by cases args; simp_all
  obtain ⟨rfl, rfl⟩ := trodVars_none hV
  have k0 := h0
  have lt0 : ∀ x ∈ p0, x.block < W.heap.size := by obtain ⟨m, hm⟩ := k0; exact DataW.trod_lt m _ _ _ hm
  obtain ⟨a0, len0, cap0, rfl⟩ := okWide_slice Try.underlying48 (hval 0 48 v0 rfl rfl)
  have k1 := h1
  have lt1 : ∀ x ∈ p1, x.block < W.heap.size := by obtain ⟨m, hm⟩ := k1; exact DataW.trod_lt m _ _ _ hm
  obtain ⟨a1, len1, cap1, rfl⟩ := okWide_slice Try.underlying49 (hval 1 49 v1 rfl rfl)
  obtain ⟨z1, w1⟩ : ∃ zs, IsRow .u8 W a1 len1 cap1 zs := by
    obtain ⟨fuel, hf⟩ := h1
    rcases open_ints Try.underlying49 Try.underlying5 (by kernel_rfl) hf with ⟨hcs, _⟩ | ⟨x, l, c, zs, hcs, _, hl, hm, hz, _, hcell, hwz⟩
    · simp [Value.cells] at hcs
      obtain ⟨rfl, rfl, rfl⟩ := hcs
      exact ⟨[], .inl ⟨rfl, rfl, rfl, rfl⟩⟩
    · simp [Value.cells] at hcs
      obtain ⟨rfl, rfl, rfl⟩ := hcs
      exact ⟨zs, .inr ⟨_, rfl, hl, hm, by simpa using hz, hcell, hwz⟩⟩
  clear hA0 hval0
  refine (walk a0 len0 cap0 a1 len1 cap1 z1 W (open_vecs k0) w1).mono fun e W' ⟨he, bel⟩ => ?_
  subst he
  exact ⟨_, rfl, _, _, _, [], _, [], hW', trodAll_mk1 (shut_bool Try.underlying4 _), (trodAll_cons_mk (Below.trod laidOut (by kernel_rfl) (of_decide_eq_true (by kernel_rfl)) k0 bel lt0) (trodAll_cons_mk (Below.trod laidOut (by kernel_rfl) (of_decide_eq_true (by kernel_rfl)) k1 bel lt1) trodAll_mk0)), rfl, bel.frame _, fun h => by cases h⟩

theorem over : Rows.vectorSortsRow.holds Try.pinned (OpenSpec.ofChange Rows.vectorSortsSpec) :=
  OpenClaim.holds_of_wide 6 Try.f6 rfl rfl rfl rfl rfl rfl rfl ⟨rfl, rfl, rfl, rfl, rfl⟩ rfl rfl rfl rfl rfl (by kernel_rfl) Try.func6 (by kernel_rfl)
    (of_decide_eq_true (by kernel_rfl)) (by unfold Func.isWrapper; first | (rw [if_pos (by decide +kernel)]; kernel_rfl) | (rw [if_neg (by decide +kernel)]; exact ⟨rfl, rfl⟩))
    (fun os started H enc _ => lifted os started H enc)

/-- The statement. -/
theorem proved : Rows.VectorSortsSaid := over
#print axioms proved
end Go.Proofs.Ytndhccdknloinaa.vectorSorts
