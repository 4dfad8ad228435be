/-
  Layers 1 and 3, the document: a number's bytes, a frame's bytes, whether a frame may be put. Conditions: data of 2,000 bytes; the numbers are in range.
-/
import Derived.Test.YtcplmdgnldmhbaaFPut
import Derived.Test.YtcplmdgnldmhbaaWander
namespace Go.Proofs.Ytcplmdgnldmhbaa
open Go.RowKit
set_option linter.unusedVariables false
set_option linter.unusedSimpArgs false
set_option maxRecDepth 8000

/-- A number's bytes. -/
def numS : Nat → Int → ByteArray
  | 0, _ => ⟨#[]⟩
  | k + 1, n => numS k (n / 256) ++ strOfNums [n % 256]
theorem numS_size : ∀ (k : Nat) (n : Int), (numS k n).size = k
  | 0, _ => rfl
  | k + 1, n => by
    show (numS k (n / 256) ++ strOfNums [n % 256]).size = k + 1
    rw [ByteArray.size_append, numS_size k, strOfNums_size]
    rfl
theorem conv1 (W : World) {b : Nat} {k : Int} (h : W.cell? ⟨b, 0, Option.none⟩ = some (.int .u8 k)) : (convert 120 9 (.slice (some ⟨b, 0, Option.none⟩) 1 1)).run Try.prog W = .ok (.string (strOfNums [k])) W :=
  run_convert_bytes_arg W 120 5 Try.underlying120 Try.underlying5 b 0 1 1 [k] rfl (fun i hi => by obtain rfl : i = 0 := by omega
                                                                                                  exact h) 9 Try.underlying9
set_option maxHeartbeats 4000000 in
theorem num_any (k : Nat) : ∀ (n : Int) (w : World), 0 ≤ n → n < 18446744073709551616 → k ≤ 8 →
    Calls Try.prog 66 #[.int .u64 n, .int .i64 k] w fun e w' => e = .returned (.string (numS k n)) ∧ Keeps Nil w w' := by
  induction k with
  | zero =>
    intro n w _ _ _
    go_enter Try.func66, Try.ntmps66
    go_wp2_with fail
    go_ret
    exact ⟨rfl, Keeps.refl _ _⟩
  | succ k ih =>
    intro n w h0 h1 hk
    have hz : (((k + 1 : Nat) : Int) == 0) = false := by simp; omega
    have IH := hid (fun W => ih (n / 256) W (by omega) (by omega) (by omega))
    have hs1 : (numS k (n / 256)).size = k := numS_size k _
    have hs2 : (strOfNums [n % 256]).size = 1 := rfl
    obtain ⟨sA, hA⟩ : ∃ s, numS k (n / 256) = s := ⟨_, rfl⟩
    obtain ⟨sB, hB⟩ : ∃ s, strOfNums [n % 256] = s := ⟨_, rfl⟩
    have hE : numS (k + 1) n = sA ++ sB := by rw [← hA, ← hB]; rfl
    rw [hE]
    rw [hA] at hs1 IH
    rw [hB] at hs2
    have hcat : ¬ (9223372036854775807 < sA.size + sB.size) := by omega
    have hkk : ((k : Int) + 1 - 1) = k := by omega
    have HB := hid hB
    clear hA hB hE hs1 hs2 ih
    go_enter Try.func66, Try.ntmps66
    go_wp2_with fail
    have hq1 : n.tdiv 256 = n / 256 := Int.tdiv_eq_ediv_of_nonneg h0
    have hq2 : n.tmod 256 = n % 256 := Int.tmod_eq_emod_of_nonneg h0
    have hq3 : IntKind.u64.wrap (n / 256) = n / 256 := by simp [IntKind.wrap, IntKind.bits, IntKind.signed]; omega
    have hq4 : IntKind.i64.wrap (k : Int) = k := IntWalk.i64_in _ (by omega)
    have hq5 : IntKind.u8.wrap (n % 256) = n % 256 := by simp [IntKind.wrap, IntKind.bits, IntKind.signed]
    have hq6 : IntKind.u64.wrap (n % 256) = n % 256 := by simp [IntKind.wrap, IntKind.bits, IntKind.signed]; omega
    refine wp_region_R (fun w => Keeps.refl Nil w) 11 (by kernel_rfl) ?_
    refine wpAnyR_take (i := 0) (v := ?_) (fun w => Keeps.refl Nil w) (fun a b c h k => h.trans k) rfl (by kernel_rfl) (by kernel_rfl) (by kernel_rfl) (by kernel_rfl) (fun _ _ _ h => h) (Or.inl ⟨by rfl, fun W hW => Or.inl ?_⟩) ?_
    rotate_left
    · (go_simp <;> with_reducible rfl)
    try simp only [Act.put, List.setIfInBounds_toArray, List.set_cons_zero, List.set_cons_succ, List.getElem_toArray, List.getElem_cons_zero, List.getElem_cons_succ]
    refine wpAnyR_take (i := 1) (v := ?_) (fun w => Keeps.refl Nil w) (fun a b c h k => h.trans k) rfl (by kernel_rfl) (by kernel_rfl) (by kernel_rfl) (by kernel_rfl) (fun _ _ _ h => h) (Or.inl ⟨by rfl, fun W hW => Or.inl ?_⟩) ?_
    rotate_left
    · (go_simp <;> with_reducible rfl)
    try simp only [Act.put, List.setIfInBounds_toArray, List.set_cons_zero, List.set_cons_succ, List.getElem_toArray, List.getElem_cons_zero, List.getElem_cons_succ]
    refine wpAnyR_take (i := 2) (v := ?_) (fun w => Keeps.refl Nil w) (fun a b c h k => h.trans k) rfl (by kernel_rfl) (by kernel_rfl) (by kernel_rfl) (by kernel_rfl) (fun _ _ _ h => h) (Or.inl ⟨by rfl, fun W hW => Or.inl ?_⟩) ?_
    rotate_left
    · (go_simp <;> with_reducible rfl)
    try simp only [Act.put, List.setIfInBounds_toArray, List.set_cons_zero, List.set_cons_succ, List.getElem_toArray, List.getElem_cons_zero, List.getElem_cons_succ]
    refine wpAnyR_take (i := 3) (v := ?_) (fun w => Keeps.refl Nil w) (fun a b c h k => h.trans k) rfl (by kernel_rfl) (by kernel_rfl) (by kernel_rfl) (by kernel_rfl) (fun _ _ _ h => h) (Or.inl ⟨by rfl, fun W hW => Or.inl ?_⟩) ?_
    rotate_left
    · (go_simp <;> with_reducible rfl)
    try simp only [Act.put, List.setIfInBounds_toArray, List.set_cons_zero, List.set_cons_succ, List.getElem_toArray, List.getElem_cons_zero, List.getElem_cons_succ]
    refine wpAnyR_take (i := 4) (v := .string sA) (fun w => Keeps.refl Nil w) (fun a b c h k => h.trans k) rfl (by kernel_rfl) (by kernel_rfl) (by kernel_rfl) (by kernel_rfl) (fun _ _ _ h => h) (Or.inl ⟨by rfl, fun W hW => Or.inr ⟨66, #[.int .u64 (n / 256), .int .i64 k], ?_, IH.out W⟩⟩) ?_
    · (go_simp <;> with_reducible rfl)
    try simp only [Act.put, List.setIfInBounds_toArray, List.set_cons_zero, List.set_cons_succ, List.getElem_toArray, List.getElem_cons_zero, List.getElem_cons_succ]
    refine wpAnyR_take (i := 5) (v := ?_) (fun w => Keeps.refl Nil w) (fun a b c h k => h.trans k) rfl (by kernel_rfl) (by kernel_rfl) (by kernel_rfl) (by kernel_rfl) (fun _ _ _ h => h) (Or.inl ⟨by rfl, fun W hW => Or.inl ?_⟩) ?_
    rotate_left
    · (go_simp <;> with_reducible rfl)
    try simp only [Act.put, List.setIfInBounds_toArray, List.set_cons_zero, List.set_cons_succ, List.getElem_toArray, List.getElem_cons_zero, List.getElem_cons_succ]
    refine wpAnyR_take (i := 6) (v := ?_) (fun w => Keeps.refl Nil w) (fun a b c h k => h.trans k) rfl (by kernel_rfl) (by kernel_rfl) (by kernel_rfl) (by kernel_rfl) (fun _ _ _ h => h) (Or.inl ⟨by rfl, fun W hW => Or.inl ?_⟩) ?_
    rotate_left
    · (go_simp <;> with_reducible rfl)
    try simp only [Act.put, List.setIfInBounds_toArray, List.set_cons_zero, List.set_cons_succ, List.getElem_toArray, List.getElem_cons_zero, List.getElem_cons_succ]
    refine wpAnyR_take (i := 7) (v := ?_) (fun w => Keeps.refl Nil w) (fun a b c h k => h.trans k) rfl (by kernel_rfl) (by kernel_rfl) (by kernel_rfl) (by kernel_rfl) (fun _ _ _ h => h) (Or.inl ⟨by rfl, fun W hW => Or.inl ?_⟩) ?_
    rotate_left
    · (go_simp <;> with_reducible rfl)
    try simp only [Act.put, List.setIfInBounds_toArray, List.set_cons_zero, List.set_cons_succ, List.getElem_toArray, List.getElem_cons_zero, List.getElem_cons_succ]
    refine wpAnyR_one (i := 8) (by kernel_rfl) rfl (fun X8 hX8 K hK => ?_)
    try simp only [Act.put, List.setIfInBounds_toArray, List.set_cons_zero, List.set_cons_succ, List.getElem_toArray, List.getElem_cons_zero, List.getElem_cons_succ]
    go_simp
    refine hK.out _ _ (fun _ => (Keeps.refl _ _).alloc _) ?_
    clear hK K
    try simp only [Act.put, List.setIfInBounds_toArray, List.set_cons_zero, List.set_cons_succ, List.getElem_toArray, List.getElem_cons_zero, List.getElem_cons_succ]
    refine wpAnyR_one (i := 9) (by kernel_rfl) rfl (fun X9 hX9 K hK => ?_)
    try simp only [Act.put, List.setIfInBounds_toArray, List.set_cons_zero, List.set_cons_succ, List.getElem_toArray, List.getElem_cons_zero, List.getElem_cons_succ]
    have hb := hX9.lies (alloc_block X8 (.cells #[.int .u8 (n % 256)] 5 (0, 0)))
    have hcv := conv1 X9 (b := X8.heap.size) (k := n % 256) (by simp [World.cell?, hb])
    rw [HB.out] at hcv
    go_simp
    refine hK.out _ _ (fun _ => Keeps.refl _ _) ?_
    clear hK K
    try simp only [Act.put, List.setIfInBounds_toArray, List.set_cons_zero, List.set_cons_succ, List.getElem_toArray, List.getElem_cons_zero, List.getElem_cons_succ]
    refine wpAnyR_one (i := 10) (by kernel_rfl) rfl (fun X10 hX10 K hK => ?_)
    try simp only [Act.put, List.setIfInBounds_toArray, List.set_cons_zero, List.set_cons_succ, List.getElem_toArray, List.getElem_cons_zero, List.getElem_cons_succ]
    go_simp
    refine hK.out _ _ (fun _ => Keeps.refl _ _) ?_
    clear hK K
    try simp only [Act.put, List.setIfInBounds_toArray, List.set_cons_zero, List.set_cons_succ, List.getElem_toArray, List.getElem_cons_zero, List.getElem_cons_succ]
    refine wpAnyR_one (i := 11) (by kernel_rfl) rfl (fun X11 hX11 K hK => ?_)
    try simp only [Act.put, List.setIfInBounds_toArray, List.set_cons_zero, List.set_cons_succ, List.getElem_toArray, List.getElem_cons_zero, List.getElem_cons_succ]
    go_simp
    refine hK.out _ _ (fun e => absurd rfl e) ?_
    clear hK K
    try simp only [Act.put, List.setIfInBounds_toArray, List.set_cons_zero, List.set_cons_succ, List.getElem_toArray, List.getElem_cons_zero, List.getElem_cons_succ]
    refine wpAnyR_done (by kernel_rfl) (by kernel_rfl) ?_ _
    go_wp2_with fail
    go_ret
    exact ⟨rfl, (((((Keeps.refl Nil w).drew.trans hX8).alloc _).trans hX9).trans hX10).trans hX11⟩

/-- Bytes of so many. -/
def Strs (n : Int) (w : World) (e : Ending) (w' : World) : Prop := ∃ s, e = .returned (.string s) ∧ (s.size : Int) = n ∧ Keeps Nil w w'
theorem conv6 (W : World) {b o : Nat} {a1 a2 a3 a4 a5 a6 : Int} (h : ∀ j v, [Value.int IntKind.u8 a1, Value.int IntKind.u8 a2, Value.int IntKind.u8 a3, Value.int IntKind.u8 a4, Value.int IntKind.u8 a5, Value.int IntKind.u8 a6][j]? = some v → W.cell? ⟨b, o + j, Option.none⟩ = some v) :
    (convert 120 9 (.slice (some ⟨b, o, Option.none⟩) 6 6)).run Try.prog W = .ok (.string (strOfNums [a1, a2, a3, a4, a5, a6])) W :=
  run_convert_bytes_arg W 120 5 Try.underlying120 Try.underlying5 b o 6 6 _ rfl (fun i hi => by
    refine h i _ ?_
    rcases (show i = 0 ∨ i = 1 ∨ i = 2 ∨ i = 3 ∨ i = 4 ∨ i = 5 by omega) with rfl | rfl | rfl | rfl | rfl | rfl <;> rfl) 9 Try.underlying9
set_option maxHeartbeats 8000000 in
theorem bytes_any (x : Frm) (hd : x.data.size ≤ 2000) (hp : 0 ≤ x.pri ∧ x.pri < 256) (hv : 0 ≤ x.fvid ∧ x.fvid < 65536) (ht : 0 ≤ x.ty ∧ x.ty < 65536) (w : World) : Calls Try.prog 62 #[x.val] w (Strs (lenF x) w) := by
  have kz : Keeps Nil w (w.alloc (.cells #[Value.int IntKind.u8 x.dst.a, Value.int IntKind.u8 x.dst.b, Value.int IntKind.u8 x.dst.c, Value.int IntKind.u8 x.dst.d, Value.int IntKind.u8 x.dst.e, Value.int IntKind.u8 x.dst.f, Value.int IntKind.u8 x.src.a, Value.int IntKind.u8 x.src.b, Value.int IntKind.u8 x.src.c, Value.int IntKind.u8 x.src.d, Value.int IntKind.u8 x.src.e, Value.int IntKind.u8 x.src.f, Value.bool x.tag, Value.int IntKind.u8 x.pri, Value.int IntKind.u16 x.fvid, Value.int IntKind.u16 x.ty, Value.string x.data] 33 (0, 0))) := (Keeps.refl _ _).alloc _
  have hb := alloc_block w (.cells #[Value.int IntKind.u8 x.dst.a, Value.int IntKind.u8 x.dst.b, Value.int IntKind.u8 x.dst.c, Value.int IntKind.u8 x.dst.d, Value.int IntKind.u8 x.dst.e, Value.int IntKind.u8 x.dst.f, Value.int IntKind.u8 x.src.a, Value.int IntKind.u8 x.src.b, Value.int IntKind.u8 x.src.c, Value.int IntKind.u8 x.src.d, Value.int IntKind.u8 x.src.e, Value.int IntKind.u8 x.src.f, Value.bool x.tag, Value.int IntKind.u8 x.pri, Value.int IntKind.u16 x.fvid, Value.int IntKind.u16 x.ty, Value.string x.data] 33 (0, 0))
  have zD : (strOfNums [x.dst.a, x.dst.b, x.dst.c, x.dst.d, x.dst.e, x.dst.f]).size = 6 := rfl
  have zS : (strOfNums [x.src.a, x.src.b, x.src.c, x.src.d, x.src.e, x.src.f]).size = 6 := rfl
  have cD := fun (b : Nat) (W : World) (h : W.heap[b]? = some (.cells #[Value.int IntKind.u8 x.dst.a, Value.int IntKind.u8 x.dst.b, Value.int IntKind.u8 x.dst.c, Value.int IntKind.u8 x.dst.d, Value.int IntKind.u8 x.dst.e, Value.int IntKind.u8 x.dst.f, Value.int IntKind.u8 x.src.a, Value.int IntKind.u8 x.src.b, Value.int IntKind.u8 x.src.c, Value.int IntKind.u8 x.src.d, Value.int IntKind.u8 x.src.e, Value.int IntKind.u8 x.src.f, Value.bool x.tag, Value.int IntKind.u8 x.pri, Value.int IntKind.u16 x.fvid, Value.int IntKind.u16 x.ty, Value.string x.data] 33 (0, 0))) => conv6 W (b := b) (o := 0) (a1 := x.dst.a) (a2 := x.dst.b) (a3 := x.dst.c) (a4 := x.dst.d) (a5 := x.dst.e) (a6 := x.dst.f) (range_block h _ 0 (fun j v hv => by
    have := (List.getElem?_eq_some_iff.1 hv).1
    rcases (show j = 0 ∨ j = 1 ∨ j = 2 ∨ j = 3 ∨ j = 4 ∨ j = 5 by simp at this; omega) with rfl | rfl | rfl | rfl | rfl | rfl <;> exact hv))
  have cS := fun (b : Nat) (W : World) (h : W.heap[b]? = some (.cells #[Value.int IntKind.u8 x.dst.a, Value.int IntKind.u8 x.dst.b, Value.int IntKind.u8 x.dst.c, Value.int IntKind.u8 x.dst.d, Value.int IntKind.u8 x.dst.e, Value.int IntKind.u8 x.dst.f, Value.int IntKind.u8 x.src.a, Value.int IntKind.u8 x.src.b, Value.int IntKind.u8 x.src.c, Value.int IntKind.u8 x.src.d, Value.int IntKind.u8 x.src.e, Value.int IntKind.u8 x.src.f, Value.bool x.tag, Value.int IntKind.u8 x.pri, Value.int IntKind.u16 x.fvid, Value.int IntKind.u16 x.ty, Value.string x.data] 33 (0, 0))) => conv6 W (b := b) (o := 6) (a1 := x.src.a) (a2 := x.src.b) (a3 := x.src.c) (a4 := x.src.d) (a5 := x.src.e) (a6 := x.src.f) (range_block h _ 6 (fun j v hv => by
    have := (List.getElem?_eq_some_iff.1 hv).1
    rcases (show j = 0 ∨ j = 1 ∨ j = 2 ∨ j = 3 ∨ j = 4 ∨ j = 5 by simp at this; omega) with rfl | rfl | rfl | rfl | rfl | rfl <;> exact hv))
  generalize strOfNums [x.dst.a, x.dst.b, x.dst.c, x.dst.d, x.dst.e, x.dst.f] = sD at *
  generalize strOfNums [x.src.a, x.src.b, x.src.c, x.src.d, x.src.e, x.src.f] = sS at *
  have HD := hid (cD w.heap.size)
  have HS := hid (cS w.heap.size)
  clear cD cS
  go_enter Try.func62, Try.ntmps62
  go_upto_region 1 with (fail)
  generalize (w.alloc (.cells #[Value.int IntKind.u8 x.dst.a, Value.int IntKind.u8 x.dst.b, Value.int IntKind.u8 x.dst.c, Value.int IntKind.u8 x.dst.d, Value.int IntKind.u8 x.dst.e, Value.int IntKind.u8 x.dst.f, Value.int IntKind.u8 x.src.a, Value.int IntKind.u8 x.src.b, Value.int IntKind.u8 x.src.c, Value.int IntKind.u8 x.src.d, Value.int IntKind.u8 x.src.e, Value.int IntKind.u8 x.src.f, Value.bool x.tag, Value.int IntKind.u8 x.pri, Value.int IntKind.u16 x.fvid, Value.int IntKind.u16 x.ty, Value.string x.data] 33 (0, 0))) = wz at *
  generalize w.heap.size = bF at *
  have K0 := hid kz
  have HF := hid (show ∀ X, Keeps Nil wz X → X.heap[bF]? = some (.cells #[Value.int IntKind.u8 x.dst.a, Value.int IntKind.u8 x.dst.b, Value.int IntKind.u8 x.dst.c, Value.int IntKind.u8 x.dst.d, Value.int IntKind.u8 x.dst.e, Value.int IntKind.u8 x.dst.f, Value.int IntKind.u8 x.src.a, Value.int IntKind.u8 x.src.b, Value.int IntKind.u8 x.src.c, Value.int IntKind.u8 x.src.d, Value.int IntKind.u8 x.src.e, Value.int IntKind.u8 x.src.f, Value.bool x.tag, Value.int IntKind.u8 x.pri, Value.int IntKind.u16 x.fvid, Value.int IntKind.u16 x.ty, Value.string x.data] 33 (0, 0)) from fun X kX => kX.lies hb)
  have KD : Keeps Nil wz wz.drew := (Keeps.refl _ _).drew
  have hc1 : ¬ (9223372036854775807 < sD.size + sS.size) := by omega
  have zA : (sD ++ sS).size = 12 := by rw [ByteArray.size_append]; omega
  have ZZ := hid (And.intro zD zS)
  clear zD zS kz hb
  refine wp_region_R (fun w => Keeps.refl Nil w) 7 (by kernel_rfl) ?_
  refine wpAnyR_take (i := 0) (v := ?_) (fun w => Keeps.refl Nil w) (fun a b c h k => h.trans k) rfl (by kernel_rfl) (by kernel_rfl) (by kernel_rfl) (by kernel_rfl) (fun _ _ _ h => h) (Or.inl ⟨by rfl, fun W hW => Or.inl ?_⟩) ?_
  rotate_left
  · (go_simp <;> with_reducible rfl)
  try simp only [Act.put, List.setIfInBounds_toArray, List.set_cons_zero, List.set_cons_succ, List.getElem_toArray, List.getElem_cons_zero, List.getElem_cons_succ]
  refine wpAnyR_take (i := 1) (v := ?_) (fun w => Keeps.refl Nil w) (fun a b c h k => h.trans k) rfl (by kernel_rfl) (by kernel_rfl) (by kernel_rfl) (by kernel_rfl) (fun _ _ _ h => h) (Or.inl ⟨by rfl, fun W hW => Or.inl ?_⟩) ?_
  rotate_left
  · (go_simp <;> with_reducible rfl)
  try simp only [Act.put, List.setIfInBounds_toArray, List.set_cons_zero, List.set_cons_succ, List.getElem_toArray, List.getElem_cons_zero, List.getElem_cons_succ]
  refine wpAnyR_take (i := 2) (v := ?_) (fun w => Keeps.refl Nil w) (fun a b c h k => h.trans k) rfl (by kernel_rfl) (by kernel_rfl) (by kernel_rfl) (by kernel_rfl) (fun _ _ _ h => h) (Or.inl ⟨by rfl, fun W hW => Or.inl ?_⟩) ?_
  rotate_left
  · (have hcv := HD.out W (HF.out W (KD.trans hW)); go_simp <;> with_reducible rfl)
  try simp only [Act.put, List.setIfInBounds_toArray, List.set_cons_zero, List.set_cons_succ, List.getElem_toArray, List.getElem_cons_zero, List.getElem_cons_succ]
  refine wpAnyR_take (i := 3) (v := ?_) (fun w => Keeps.refl Nil w) (fun a b c h k => h.trans k) rfl (by kernel_rfl) (by kernel_rfl) (by kernel_rfl) (by kernel_rfl) (fun _ _ _ h => h) (Or.inl ⟨by rfl, fun W hW => Or.inl ?_⟩) ?_
  rotate_left
  · (go_simp <;> with_reducible rfl)
  try simp only [Act.put, List.setIfInBounds_toArray, List.set_cons_zero, List.set_cons_succ, List.getElem_toArray, List.getElem_cons_zero, List.getElem_cons_succ]
  refine wpAnyR_take (i := 4) (v := ?_) (fun w => Keeps.refl Nil w) (fun a b c h k => h.trans k) rfl (by kernel_rfl) (by kernel_rfl) (by kernel_rfl) (by kernel_rfl) (fun _ _ _ h => h) (Or.inl ⟨by rfl, fun W hW => Or.inl ?_⟩) ?_
  rotate_left
  · (go_simp <;> with_reducible rfl)
  try simp only [Act.put, List.setIfInBounds_toArray, List.set_cons_zero, List.set_cons_succ, List.getElem_toArray, List.getElem_cons_zero, List.getElem_cons_succ]
  refine wpAnyR_take (i := 5) (v := ?_) (fun w => Keeps.refl Nil w) (fun a b c h k => h.trans k) rfl (by kernel_rfl) (by kernel_rfl) (by kernel_rfl) (by kernel_rfl) (fun _ _ _ h => h) (Or.inl ⟨by rfl, fun W hW => Or.inl ?_⟩) ?_
  rotate_left
  · (have hcv := HS.out W (HF.out W (KD.trans hW)); go_simp <;> with_reducible rfl)
  try simp only [Act.put, List.setIfInBounds_toArray, List.set_cons_zero, List.set_cons_succ, List.getElem_toArray, List.getElem_cons_zero, List.getElem_cons_succ]
  refine wpAnyR_take (i := 6) (v := ?_) (fun w => Keeps.refl Nil w) (fun a b c h k => h.trans k) rfl (by kernel_rfl) (by kernel_rfl) (by kernel_rfl) (by kernel_rfl) (fun _ _ _ h => h) (Or.inl ⟨by rfl, fun W hW => Or.inl ?_⟩) ?_
  rotate_left
  · (go_simp <;> with_reducible rfl)
  try simp only [Act.put, List.setIfInBounds_toArray, List.set_cons_zero, List.set_cons_succ, List.getElem_toArray, List.getElem_cons_zero, List.getElem_cons_succ]
  refine wpAnyR_one (i := 7) (by kernel_rfl) rfl (fun X7 hX7 K hK => ?_)
  try simp only [Act.put, List.setIfInBounds_toArray, List.set_cons_zero, List.set_cons_succ, List.getElem_toArray, List.getElem_cons_zero, List.getElem_cons_succ]
  go_simp
  refine hK.out _ _ (fun e => absurd rfl e) ?_
  clear hK K
  try simp only [Act.put, List.setIfInBounds_toArray, List.set_cons_zero, List.set_cons_succ, List.getElem_toArray, List.getElem_cons_zero, List.getElem_cons_succ]
  refine wpAnyR_done (by kernel_rfl) (by kernel_rfl) ?_ _

  have KA := hid ((Keeps.refl Nil wz).drew.trans hX7)
  clear KD
  generalize sD ++ sS = sA at *
  obtain ⟨f12, f13, f14, f15, f16⟩ := five_frame (HF.out X7 KA.out)
  obtain ⟨sY, hsY⟩ : ∃ s, numS 2 (x.ty) = s := ⟨_, rfl⟩
  have zsY : sY.size = 2 := by rw [← hsY]; exact numS_size 2 _
  have HY := hid (fun W => num_any 2 (x.ty) W (by omega) (by omega) (by omega))
  rw [hsY] at HY
  clear hsY

  cases htg : x.tag with
  | true =>
    rw [htg] at f12
    obtain ⟨sT, hsT⟩ : ∃ s, numS 2 (33024) = s := ⟨_, rfl⟩
    have zsT : sT.size = 2 := by rw [← hsT]; exact numS_size 2 _
    have HT := hid (fun W => num_any 2 (33024) W (by omega) (by omega) (by omega))
    rw [hsT] at HT
    clear hsT

    obtain ⟨sV, hsV⟩ : ∃ s, numS 2 (x.pri * 8192 + x.fvid) = s := ⟨_, rfl⟩
    have zsV : sV.size = 2 := by rw [← hsV]; exact numS_size 2 _
    have HV := hid (fun W => num_any 2 (x.pri * 8192 + x.fvid) W (by omega) (by omega) (by omega))
    rw [hsV] at HV
    clear hsV

    go_wp2_with fail
    have KD : Keeps Nil wz X7.drew := KA.out.drew
    have hm1 : IntKind.u64.wrap (x.pri * 8192) = x.pri * 8192 := by simp [IntKind.wrap, IntKind.bits, IntKind.signed]; omega
    have hm2 : IntKind.u64.wrap (x.pri * 8192 + x.fvid) = x.pri * 8192 + x.fvid := by simp [IntKind.wrap, IntKind.bits, IntKind.signed]; omega
    have hm3 : IntKind.u64.wrap x.pri = x.pri := by simp [IntKind.wrap, IntKind.bits, IntKind.signed]; omega
    have hm4 : IntKind.u64.wrap x.fvid = x.fvid := by simp [IntKind.wrap, IntKind.bits, IntKind.signed]; omega
    have hc2 : ¬ (9223372036854775807 < sA.size + sT.size) := by omega
    have hc3 : ¬ (9223372036854775807 < sA.size + sT.size + sV.size) := by omega
    have zB : (sA ++ sT ++ sV).size = 16 := by rw [ByteArray.size_append, ByteArray.size_append]; omega
    have ZT := hid (And.intro zsT (And.intro zsV zA))
    clear zsT zsV zA f12 f13 f14 f15 f16
    refine wp_region_R (fun w => Keeps.refl Nil w) 13 (by kernel_rfl) ?_
    refine wpAnyR_take (i := 0) (v := ?_) (fun w => Keeps.refl Nil w) (fun a b c h k => h.trans k) rfl (by kernel_rfl) (by kernel_rfl) (by kernel_rfl) (by kernel_rfl) (fun _ _ _ h => h) (Or.inl ⟨by rfl, fun W hW => Or.inl ?_⟩) ?_
    rotate_left
    · (obtain ⟨f12, f13, f14, f15, f16⟩ := five_frame (HF.out W (KD.trans hW)); go_simp <;> with_reducible rfl)
    try simp only [Act.put, List.setIfInBounds_toArray, List.set_cons_zero, List.set_cons_succ, List.getElem_toArray, List.getElem_cons_zero, List.getElem_cons_succ]
    refine wpAnyR_take (i := 1) (v := .string sT) (fun w => Keeps.refl Nil w) (fun a b c h k => h.trans k) rfl (by kernel_rfl) (by kernel_rfl) (by kernel_rfl) (by kernel_rfl) (fun _ _ _ h => h) (Or.inl ⟨by rfl, fun W hW => Or.inr ⟨66, #[.int .u64 33024, .int .i64 2], ?_, HT.out W⟩⟩) ?_
    · (go_simp <;> with_reducible rfl)
    try simp only [Act.put, List.setIfInBounds_toArray, List.set_cons_zero, List.set_cons_succ, List.getElem_toArray, List.getElem_cons_zero, List.getElem_cons_succ]
    refine wpAnyR_take (i := 2) (v := ?_) (fun w => Keeps.refl Nil w) (fun a b c h k => h.trans k) rfl (by kernel_rfl) (by kernel_rfl) (by kernel_rfl) (by kernel_rfl) (fun _ _ _ h => h) (Or.inl ⟨by rfl, fun W hW => Or.inl ?_⟩) ?_
    rotate_left
    · (obtain ⟨f12, f13, f14, f15, f16⟩ := five_frame (HF.out W (KD.trans hW)); go_simp <;> with_reducible rfl)
    try simp only [Act.put, List.setIfInBounds_toArray, List.set_cons_zero, List.set_cons_succ, List.getElem_toArray, List.getElem_cons_zero, List.getElem_cons_succ]
    refine wpAnyR_take (i := 3) (v := ?_) (fun w => Keeps.refl Nil w) (fun a b c h k => h.trans k) rfl (by kernel_rfl) (by kernel_rfl) (by kernel_rfl) (by kernel_rfl) (fun _ _ _ h => h) (Or.inl ⟨by rfl, fun W hW => Or.inl ?_⟩) ?_
    rotate_left
    · (obtain ⟨f12, f13, f14, f15, f16⟩ := five_frame (HF.out W (KD.trans hW)); go_simp <;> with_reducible rfl)
    try simp only [Act.put, List.setIfInBounds_toArray, List.set_cons_zero, List.set_cons_succ, List.getElem_toArray, List.getElem_cons_zero, List.getElem_cons_succ]
    refine wpAnyR_take (i := 4) (v := ?_) (fun w => Keeps.refl Nil w) (fun a b c h k => h.trans k) rfl (by kernel_rfl) (by kernel_rfl) (by kernel_rfl) (by kernel_rfl) (fun _ _ _ h => h) (Or.inl ⟨by rfl, fun W hW => Or.inl ?_⟩) ?_
    rotate_left
    · (obtain ⟨f12, f13, f14, f15, f16⟩ := five_frame (HF.out W (KD.trans hW)); go_simp <;> with_reducible rfl)
    try simp only [Act.put, List.setIfInBounds_toArray, List.set_cons_zero, List.set_cons_succ, List.getElem_toArray, List.getElem_cons_zero, List.getElem_cons_succ]
    refine wpAnyR_take (i := 5) (v := ?_) (fun w => Keeps.refl Nil w) (fun a b c h k => h.trans k) rfl (by kernel_rfl) (by kernel_rfl) (by kernel_rfl) (by kernel_rfl) (fun _ _ _ h => h) (Or.inl ⟨by rfl, fun W hW => Or.inl ?_⟩) ?_
    rotate_left
    · (obtain ⟨f12, f13, f14, f15, f16⟩ := five_frame (HF.out W (KD.trans hW)); go_simp <;> with_reducible rfl)
    try simp only [Act.put, List.setIfInBounds_toArray, List.set_cons_zero, List.set_cons_succ, List.getElem_toArray, List.getElem_cons_zero, List.getElem_cons_succ]
    refine wpAnyR_take (i := 6) (v := ?_) (fun w => Keeps.refl Nil w) (fun a b c h k => h.trans k) rfl (by kernel_rfl) (by kernel_rfl) (by kernel_rfl) (by kernel_rfl) (fun _ _ _ h => h) (Or.inl ⟨by rfl, fun W hW => Or.inl ?_⟩) ?_
    rotate_left
    · (obtain ⟨f12, f13, f14, f15, f16⟩ := five_frame (HF.out W (KD.trans hW)); go_simp <;> with_reducible rfl)
    try simp only [Act.put, List.setIfInBounds_toArray, List.set_cons_zero, List.set_cons_succ, List.getElem_toArray, List.getElem_cons_zero, List.getElem_cons_succ]
    refine wpAnyR_take (i := 7) (v := ?_) (fun w => Keeps.refl Nil w) (fun a b c h k => h.trans k) rfl (by kernel_rfl) (by kernel_rfl) (by kernel_rfl) (by kernel_rfl) (fun _ _ _ h => h) (Or.inl ⟨by rfl, fun W hW => Or.inl ?_⟩) ?_
    rotate_left
    · (obtain ⟨f12, f13, f14, f15, f16⟩ := five_frame (HF.out W (KD.trans hW)); go_simp <;> with_reducible rfl)
    try simp only [Act.put, List.setIfInBounds_toArray, List.set_cons_zero, List.set_cons_succ, List.getElem_toArray, List.getElem_cons_zero, List.getElem_cons_succ]
    refine wpAnyR_take (i := 8) (v := ?_) (fun w => Keeps.refl Nil w) (fun a b c h k => h.trans k) rfl (by kernel_rfl) (by kernel_rfl) (by kernel_rfl) (by kernel_rfl) (fun _ _ _ h => h) (Or.inl ⟨by rfl, fun W hW => Or.inl ?_⟩) ?_
    rotate_left
    · (obtain ⟨f12, f13, f14, f15, f16⟩ := five_frame (HF.out W (KD.trans hW)); go_simp <;> with_reducible rfl)
    try simp only [Act.put, List.setIfInBounds_toArray, List.set_cons_zero, List.set_cons_succ, List.getElem_toArray, List.getElem_cons_zero, List.getElem_cons_succ]
    refine wpAnyR_take (i := 9) (v := ?_) (fun w => Keeps.refl Nil w) (fun a b c h k => h.trans k) rfl (by kernel_rfl) (by kernel_rfl) (by kernel_rfl) (by kernel_rfl) (fun _ _ _ h => h) (Or.inl ⟨by rfl, fun W hW => Or.inl ?_⟩) ?_
    rotate_left
    · (obtain ⟨f12, f13, f14, f15, f16⟩ := five_frame (HF.out W (KD.trans hW)); go_simp <;> with_reducible rfl)
    try simp only [Act.put, List.setIfInBounds_toArray, List.set_cons_zero, List.set_cons_succ, List.getElem_toArray, List.getElem_cons_zero, List.getElem_cons_succ]
    refine wpAnyR_take (i := 10) (v := ?_) (fun w => Keeps.refl Nil w) (fun a b c h k => h.trans k) rfl (by kernel_rfl) (by kernel_rfl) (by kernel_rfl) (by kernel_rfl) (fun _ _ _ h => h) (Or.inl ⟨by rfl, fun W hW => Or.inl ?_⟩) ?_
    rotate_left
    · (obtain ⟨f12, f13, f14, f15, f16⟩ := five_frame (HF.out W (KD.trans hW)); go_simp <;> with_reducible rfl)
    try simp only [Act.put, List.setIfInBounds_toArray, List.set_cons_zero, List.set_cons_succ, List.getElem_toArray, List.getElem_cons_zero, List.getElem_cons_succ]
    refine wpAnyR_take (i := 11) (v := .string sV) (fun w => Keeps.refl Nil w) (fun a b c h k => h.trans k) rfl (by kernel_rfl) (by kernel_rfl) (by kernel_rfl) (by kernel_rfl) (fun _ _ _ h => h) (Or.inl ⟨by rfl, fun W hW => Or.inr ⟨66, #[.int .u64 (x.pri * 8192 + x.fvid), .int .i64 2], ?_, HV.out W⟩⟩) ?_
    · (go_simp <;> with_reducible rfl)
    try simp only [Act.put, List.setIfInBounds_toArray, List.set_cons_zero, List.set_cons_succ, List.getElem_toArray, List.getElem_cons_zero, List.getElem_cons_succ]
    refine wpAnyR_take (i := 12) (v := ?_) (fun w => Keeps.refl Nil w) (fun a b c h k => h.trans k) rfl (by kernel_rfl) (by kernel_rfl) (by kernel_rfl) (by kernel_rfl) (fun _ _ _ h => h) (Or.inl ⟨by rfl, fun W hW => Or.inl ?_⟩) ?_
    rotate_left
    · (obtain ⟨f12, f13, f14, f15, f16⟩ := five_frame (HF.out W (KD.trans hW)); go_simp <;> with_reducible rfl)
    try simp only [Act.put, List.setIfInBounds_toArray, List.set_cons_zero, List.set_cons_succ, List.getElem_toArray, List.getElem_cons_zero, List.getElem_cons_succ]
    refine wpAnyR_one (i := 13) (by kernel_rfl) rfl (fun X13 hX13 K hK => ?_)
    try simp only [Act.put, List.setIfInBounds_toArray, List.set_cons_zero, List.set_cons_succ, List.getElem_toArray, List.getElem_cons_zero, List.getElem_cons_succ]
    go_simp
    refine hK.out _ _ (fun e => absurd rfl e) ?_
    clear hK K
    try simp only [Act.put, List.setIfInBounds_toArray, List.set_cons_zero, List.set_cons_succ, List.getElem_toArray, List.getElem_cons_zero, List.getElem_cons_succ]
    refine wpAnyR_done (by kernel_rfl) (by kernel_rfl) ?_ _

    have KB := hid (KD.trans hX13)
    clear KD hm1 hm2 hm3 hm4 hc2 hc3 hX13
    generalize sA ++ sT ++ sV = s3 at *
    have HL := hid (show lenF x = 18 + (x.data.size : Int) by simp [lenF, htg])
    have hz3 : s3.size = 16 := zB
    clear zB
    obtain ⟨f12, f13, f14, f15, f16⟩ := five_frame (HF.out X13 KB.out)
    go_wp2_with fail
    have KD : Keeps Nil wz X13.drew := KB.out.drew
    have hm5 : IntKind.u64.wrap x.ty = x.ty := by simp [IntKind.wrap, IntKind.bits, IntKind.signed]; omega
    have hc4 : ¬ (9223372036854775807 < s3.size + sY.size) := by omega
    have hc5 : ¬ (9223372036854775807 < s3.size + sY.size + x.data.size) := by omega
    have zB : (((s3 ++ sY ++ x.data).size : Nat) : Int) = lenF x := by rw [HL.out, ByteArray.size_append, ByteArray.size_append]; omega
    have ZE := hid zB
    clear zsY hz3 zB f12 f13 f14 f15 f16
    refine wp_region_R (fun w => Keeps.refl Nil w) 9 (by kernel_rfl) ?_
    refine wpAnyR_take (i := 0) (v := ?_) (fun w => Keeps.refl Nil w) (fun a b c h k => h.trans k) rfl (by kernel_rfl) (by kernel_rfl) (by kernel_rfl) (by kernel_rfl) (fun _ _ _ h => h) (Or.inl ⟨by rfl, fun W hW => Or.inl ?_⟩) ?_
    rotate_left
    · (obtain ⟨f12, f13, f14, f15, f16⟩ := five_frame (HF.out W (KD.trans hW)); go_simp <;> with_reducible rfl)
    try simp only [Act.put, List.setIfInBounds_toArray, List.set_cons_zero, List.set_cons_succ, List.getElem_toArray, List.getElem_cons_zero, List.getElem_cons_succ]
    refine wpAnyR_take (i := 1) (v := ?_) (fun w => Keeps.refl Nil w) (fun a b c h k => h.trans k) rfl (by kernel_rfl) (by kernel_rfl) (by kernel_rfl) (by kernel_rfl) (fun _ _ _ h => h) (Or.inl ⟨by rfl, fun W hW => Or.inl ?_⟩) ?_
    rotate_left
    · (obtain ⟨f12, f13, f14, f15, f16⟩ := five_frame (HF.out W (KD.trans hW)); go_simp <;> with_reducible rfl)
    try simp only [Act.put, List.setIfInBounds_toArray, List.set_cons_zero, List.set_cons_succ, List.getElem_toArray, List.getElem_cons_zero, List.getElem_cons_succ]
    refine wpAnyR_take (i := 2) (v := ?_) (fun w => Keeps.refl Nil w) (fun a b c h k => h.trans k) rfl (by kernel_rfl) (by kernel_rfl) (by kernel_rfl) (by kernel_rfl) (fun _ _ _ h => h) (Or.inl ⟨by rfl, fun W hW => Or.inl ?_⟩) ?_
    rotate_left
    · (obtain ⟨f12, f13, f14, f15, f16⟩ := five_frame (HF.out W (KD.trans hW)); go_simp <;> with_reducible rfl)
    try simp only [Act.put, List.setIfInBounds_toArray, List.set_cons_zero, List.set_cons_succ, List.getElem_toArray, List.getElem_cons_zero, List.getElem_cons_succ]
    refine wpAnyR_take (i := 3) (v := ?_) (fun w => Keeps.refl Nil w) (fun a b c h k => h.trans k) rfl (by kernel_rfl) (by kernel_rfl) (by kernel_rfl) (by kernel_rfl) (fun _ _ _ h => h) (Or.inl ⟨by rfl, fun W hW => Or.inl ?_⟩) ?_
    rotate_left
    · (obtain ⟨f12, f13, f14, f15, f16⟩ := five_frame (HF.out W (KD.trans hW)); go_simp <;> with_reducible rfl)
    try simp only [Act.put, List.setIfInBounds_toArray, List.set_cons_zero, List.set_cons_succ, List.getElem_toArray, List.getElem_cons_zero, List.getElem_cons_succ]
    refine wpAnyR_take (i := 4) (v := .string sY) (fun w => Keeps.refl Nil w) (fun a b c h k => h.trans k) rfl (by kernel_rfl) (by kernel_rfl) (by kernel_rfl) (by kernel_rfl) (fun _ _ _ h => h) (Or.inl ⟨by rfl, fun W hW => Or.inr ⟨66, #[.int .u64 x.ty, .int .i64 2], ?_, HY.out W⟩⟩) ?_
    · (go_simp <;> with_reducible rfl)
    try simp only [Act.put, List.setIfInBounds_toArray, List.set_cons_zero, List.set_cons_succ, List.getElem_toArray, List.getElem_cons_zero, List.getElem_cons_succ]
    refine wpAnyR_take (i := 5) (v := ?_) (fun w => Keeps.refl Nil w) (fun a b c h k => h.trans k) rfl (by kernel_rfl) (by kernel_rfl) (by kernel_rfl) (by kernel_rfl) (fun _ _ _ h => h) (Or.inl ⟨by rfl, fun W hW => Or.inl ?_⟩) ?_
    rotate_left
    · (obtain ⟨f12, f13, f14, f15, f16⟩ := five_frame (HF.out W (KD.trans hW)); go_simp <;> with_reducible rfl)
    try simp only [Act.put, List.setIfInBounds_toArray, List.set_cons_zero, List.set_cons_succ, List.getElem_toArray, List.getElem_cons_zero, List.getElem_cons_succ]
    refine wpAnyR_take (i := 6) (v := ?_) (fun w => Keeps.refl Nil w) (fun a b c h k => h.trans k) rfl (by kernel_rfl) (by kernel_rfl) (by kernel_rfl) (by kernel_rfl) (fun _ _ _ h => h) (Or.inl ⟨by rfl, fun W hW => Or.inl ?_⟩) ?_
    rotate_left
    · (obtain ⟨f12, f13, f14, f15, f16⟩ := five_frame (HF.out W (KD.trans hW)); go_simp <;> with_reducible rfl)
    try simp only [Act.put, List.setIfInBounds_toArray, List.set_cons_zero, List.set_cons_succ, List.getElem_toArray, List.getElem_cons_zero, List.getElem_cons_succ]
    refine wpAnyR_take (i := 7) (v := ?_) (fun w => Keeps.refl Nil w) (fun a b c h k => h.trans k) rfl (by kernel_rfl) (by kernel_rfl) (by kernel_rfl) (by kernel_rfl) (fun _ _ _ h => h) (Or.inl ⟨by rfl, fun W hW => Or.inl ?_⟩) ?_
    rotate_left
    · (obtain ⟨f12, f13, f14, f15, f16⟩ := five_frame (HF.out W (KD.trans hW)); go_simp <;> with_reducible rfl)
    try simp only [Act.put, List.setIfInBounds_toArray, List.set_cons_zero, List.set_cons_succ, List.getElem_toArray, List.getElem_cons_zero, List.getElem_cons_succ]
    refine wpAnyR_take (i := 8) (v := ?_) (fun w => Keeps.refl Nil w) (fun a b c h k => h.trans k) rfl (by kernel_rfl) (by kernel_rfl) (by kernel_rfl) (by kernel_rfl) (fun _ _ _ h => h) (Or.inl ⟨by rfl, fun W hW => Or.inl ?_⟩) ?_
    rotate_left
    · (obtain ⟨f12, f13, f14, f15, f16⟩ := five_frame (HF.out W (KD.trans hW)); go_simp <;> with_reducible rfl)
    try simp only [Act.put, List.setIfInBounds_toArray, List.set_cons_zero, List.set_cons_succ, List.getElem_toArray, List.getElem_cons_zero, List.getElem_cons_succ]
    refine wpAnyR_one (i := 9) (by kernel_rfl) rfl (fun X9 hX9 K hK => ?_)
    try simp only [Act.put, List.setIfInBounds_toArray, List.set_cons_zero, List.set_cons_succ, List.getElem_toArray, List.getElem_cons_zero, List.getElem_cons_succ]
    go_simp
    refine hK.out _ _ (fun e => absurd rfl e) ?_
    clear hK K
    try simp only [Act.put, List.setIfInBounds_toArray, List.set_cons_zero, List.set_cons_succ, List.getElem_toArray, List.getElem_cons_zero, List.getElem_cons_succ]
    refine wpAnyR_done (by kernel_rfl) (by kernel_rfl) ?_ _
    go_wp2_with fail
    go_ret
    exact ⟨_, rfl, ZE.out, (K0.out.trans KD).trans hX9⟩

  | false =>
    rw [htg] at f12
    generalize hKB : KA = KB
    generalize sA = s3 at *
    have hz3 : s3.size = 12 := zA
    have HL := hid (show lenF x = 14 + (x.data.size : Int) by simp [lenF, htg])
    clear zA hKB KA
    go_wp2_with fail
    have KD : Keeps Nil wz X7.drew := KB.out.drew
    have hm5 : IntKind.u64.wrap x.ty = x.ty := by simp [IntKind.wrap, IntKind.bits, IntKind.signed]; omega
    have hc4 : ¬ (9223372036854775807 < s3.size + sY.size) := by omega
    have hc5 : ¬ (9223372036854775807 < s3.size + sY.size + x.data.size) := by omega
    have zB : (((s3 ++ sY ++ x.data).size : Nat) : Int) = lenF x := by rw [HL.out, ByteArray.size_append, ByteArray.size_append]; omega
    have ZE := hid zB
    clear zsY hz3 zB f12 f13 f14 f15 f16
    refine wp_region_R (fun w => Keeps.refl Nil w) 9 (by kernel_rfl) ?_
    refine wpAnyR_take (i := 0) (v := ?_) (fun w => Keeps.refl Nil w) (fun a b c h k => h.trans k) rfl (by kernel_rfl) (by kernel_rfl) (by kernel_rfl) (by kernel_rfl) (fun _ _ _ h => h) (Or.inl ⟨by rfl, fun W hW => Or.inl ?_⟩) ?_
    rotate_left
    · (obtain ⟨f12, f13, f14, f15, f16⟩ := five_frame (HF.out W (KD.trans hW)); go_simp <;> with_reducible rfl)
    try simp only [Act.put, List.setIfInBounds_toArray, List.set_cons_zero, List.set_cons_succ, List.getElem_toArray, List.getElem_cons_zero, List.getElem_cons_succ]
    refine wpAnyR_take (i := 1) (v := ?_) (fun w => Keeps.refl Nil w) (fun a b c h k => h.trans k) rfl (by kernel_rfl) (by kernel_rfl) (by kernel_rfl) (by kernel_rfl) (fun _ _ _ h => h) (Or.inl ⟨by rfl, fun W hW => Or.inl ?_⟩) ?_
    rotate_left
    · (obtain ⟨f12, f13, f14, f15, f16⟩ := five_frame (HF.out W (KD.trans hW)); go_simp <;> with_reducible rfl)
    try simp only [Act.put, List.setIfInBounds_toArray, List.set_cons_zero, List.set_cons_succ, List.getElem_toArray, List.getElem_cons_zero, List.getElem_cons_succ]
    refine wpAnyR_take (i := 2) (v := ?_) (fun w => Keeps.refl Nil w) (fun a b c h k => h.trans k) rfl (by kernel_rfl) (by kernel_rfl) (by kernel_rfl) (by kernel_rfl) (fun _ _ _ h => h) (Or.inl ⟨by rfl, fun W hW => Or.inl ?_⟩) ?_
    rotate_left
    · (obtain ⟨f12, f13, f14, f15, f16⟩ := five_frame (HF.out W (KD.trans hW)); go_simp <;> with_reducible rfl)
    try simp only [Act.put, List.setIfInBounds_toArray, List.set_cons_zero, List.set_cons_succ, List.getElem_toArray, List.getElem_cons_zero, List.getElem_cons_succ]
    refine wpAnyR_take (i := 3) (v := ?_) (fun w => Keeps.refl Nil w) (fun a b c h k => h.trans k) rfl (by kernel_rfl) (by kernel_rfl) (by kernel_rfl) (by kernel_rfl) (fun _ _ _ h => h) (Or.inl ⟨by rfl, fun W hW => Or.inl ?_⟩) ?_
    rotate_left
    · (obtain ⟨f12, f13, f14, f15, f16⟩ := five_frame (HF.out W (KD.trans hW)); go_simp <;> with_reducible rfl)
    try simp only [Act.put, List.setIfInBounds_toArray, List.set_cons_zero, List.set_cons_succ, List.getElem_toArray, List.getElem_cons_zero, List.getElem_cons_succ]
    refine wpAnyR_take (i := 4) (v := .string sY) (fun w => Keeps.refl Nil w) (fun a b c h k => h.trans k) rfl (by kernel_rfl) (by kernel_rfl) (by kernel_rfl) (by kernel_rfl) (fun _ _ _ h => h) (Or.inl ⟨by rfl, fun W hW => Or.inr ⟨66, #[.int .u64 x.ty, .int .i64 2], ?_, HY.out W⟩⟩) ?_
    · (go_simp <;> with_reducible rfl)
    try simp only [Act.put, List.setIfInBounds_toArray, List.set_cons_zero, List.set_cons_succ, List.getElem_toArray, List.getElem_cons_zero, List.getElem_cons_succ]
    refine wpAnyR_take (i := 5) (v := ?_) (fun w => Keeps.refl Nil w) (fun a b c h k => h.trans k) rfl (by kernel_rfl) (by kernel_rfl) (by kernel_rfl) (by kernel_rfl) (fun _ _ _ h => h) (Or.inl ⟨by rfl, fun W hW => Or.inl ?_⟩) ?_
    rotate_left
    · (obtain ⟨f12, f13, f14, f15, f16⟩ := five_frame (HF.out W (KD.trans hW)); go_simp <;> with_reducible rfl)
    try simp only [Act.put, List.setIfInBounds_toArray, List.set_cons_zero, List.set_cons_succ, List.getElem_toArray, List.getElem_cons_zero, List.getElem_cons_succ]
    refine wpAnyR_take (i := 6) (v := ?_) (fun w => Keeps.refl Nil w) (fun a b c h k => h.trans k) rfl (by kernel_rfl) (by kernel_rfl) (by kernel_rfl) (by kernel_rfl) (fun _ _ _ h => h) (Or.inl ⟨by rfl, fun W hW => Or.inl ?_⟩) ?_
    rotate_left
    · (obtain ⟨f12, f13, f14, f15, f16⟩ := five_frame (HF.out W (KD.trans hW)); go_simp <;> with_reducible rfl)
    try simp only [Act.put, List.setIfInBounds_toArray, List.set_cons_zero, List.set_cons_succ, List.getElem_toArray, List.getElem_cons_zero, List.getElem_cons_succ]
    refine wpAnyR_take (i := 7) (v := ?_) (fun w => Keeps.refl Nil w) (fun a b c h k => h.trans k) rfl (by kernel_rfl) (by kernel_rfl) (by kernel_rfl) (by kernel_rfl) (fun _ _ _ h => h) (Or.inl ⟨by rfl, fun W hW => Or.inl ?_⟩) ?_
    rotate_left
    · (obtain ⟨f12, f13, f14, f15, f16⟩ := five_frame (HF.out W (KD.trans hW)); go_simp <;> with_reducible rfl)
    try simp only [Act.put, List.setIfInBounds_toArray, List.set_cons_zero, List.set_cons_succ, List.getElem_toArray, List.getElem_cons_zero, List.getElem_cons_succ]
    refine wpAnyR_take (i := 8) (v := ?_) (fun w => Keeps.refl Nil w) (fun a b c h k => h.trans k) rfl (by kernel_rfl) (by kernel_rfl) (by kernel_rfl) (by kernel_rfl) (fun _ _ _ h => h) (Or.inl ⟨by rfl, fun W hW => Or.inl ?_⟩) ?_
    rotate_left
    · (obtain ⟨f12, f13, f14, f15, f16⟩ := five_frame (HF.out W (KD.trans hW)); go_simp <;> with_reducible rfl)
    try simp only [Act.put, List.setIfInBounds_toArray, List.set_cons_zero, List.set_cons_succ, List.getElem_toArray, List.getElem_cons_zero, List.getElem_cons_succ]
    refine wpAnyR_one (i := 9) (by kernel_rfl) rfl (fun X9 hX9 K hK => ?_)
    try simp only [Act.put, List.setIfInBounds_toArray, List.set_cons_zero, List.set_cons_succ, List.getElem_toArray, List.getElem_cons_zero, List.getElem_cons_succ]
    go_simp
    refine hK.out _ _ (fun e => absurd rfl e) ?_
    clear hK K
    try simp only [Act.put, List.setIfInBounds_toArray, List.set_cons_zero, List.set_cons_succ, List.getElem_toArray, List.getElem_cons_zero, List.getElem_cons_succ]
    refine wpAnyR_done (by kernel_rfl) (by kernel_rfl) ?_ _
    go_wp2_with fail
    go_ret
    exact ⟨_, rfl, ZE.out, (K0.out.trans KD).trans hX9⟩


set_option maxHeartbeats 4000000 in
theorem rput_any (x : Frm) (hd : x.data.size ≤ 2000) (hp : 0 ≤ x.pri ∧ x.pri < 256) (hv : 0 ≤ x.fvid ∧ x.fvid < 65536) (ht : 0 ≤ x.ty ∧ x.ty < 65536) (w : World) : Calls Try.prog 54 #[x.val] w (Puts x w) := by
  have HB := fun W => hid (bytes_any x hd hp hv ht W)
  have kz : Keeps Nil w (w.alloc (.cells #[Value.int IntKind.u8 x.dst.a, Value.int IntKind.u8 x.dst.b, Value.int IntKind.u8 x.dst.c, Value.int IntKind.u8 x.dst.d, Value.int IntKind.u8 x.dst.e, Value.int IntKind.u8 x.dst.f, Value.int IntKind.u8 x.src.a, Value.int IntKind.u8 x.src.b, Value.int IntKind.u8 x.src.c, Value.int IntKind.u8 x.src.d, Value.int IntKind.u8 x.src.e, Value.int IntKind.u8 x.src.f, Value.bool x.tag, Value.int IntKind.u8 x.pri, Value.int IntKind.u16 x.fvid, Value.int IntKind.u16 x.ty, Value.string x.data] 33 (0, 0))) := (Keeps.refl _ _).alloc _
  have hb := alloc_block w (.cells #[Value.int IntKind.u8 x.dst.a, Value.int IntKind.u8 x.dst.b, Value.int IntKind.u8 x.dst.c, Value.int IntKind.u8 x.dst.d, Value.int IntKind.u8 x.dst.e, Value.int IntKind.u8 x.dst.f, Value.int IntKind.u8 x.src.a, Value.int IntKind.u8 x.src.b, Value.int IntKind.u8 x.src.c, Value.int IntKind.u8 x.src.d, Value.int IntKind.u8 x.src.e, Value.int IntKind.u8 x.src.f, Value.bool x.tag, Value.int IntKind.u8 x.pri, Value.int IntKind.u16 x.fvid, Value.int IntKind.u16 x.ty, Value.string x.data] 33 (0, 0))
  go_enter Try.func54, Try.ntmps54
  go_upto_region 1 with (fail)
  generalize (w.alloc (.cells #[Value.int IntKind.u8 x.dst.a, Value.int IntKind.u8 x.dst.b, Value.int IntKind.u8 x.dst.c, Value.int IntKind.u8 x.dst.d, Value.int IntKind.u8 x.dst.e, Value.int IntKind.u8 x.dst.f, Value.int IntKind.u8 x.src.a, Value.int IntKind.u8 x.src.b, Value.int IntKind.u8 x.src.c, Value.int IntKind.u8 x.src.d, Value.int IntKind.u8 x.src.e, Value.int IntKind.u8 x.src.f, Value.bool x.tag, Value.int IntKind.u8 x.pri, Value.int IntKind.u16 x.fvid, Value.int IntKind.u16 x.ty, Value.string x.data] 33 (0, 0))) = wz at *
  generalize w.heap.size = bF at *
  have F0 := hid hb
  have K0 := hid kz
  clear hb kz
  cases hm : mayB x with
  | false =>
    have HE := hid (show putE x = 2 by simp [putE, hm])
    have HM := hid hm
    clear hm
    go_wp2_with (refine wpList_load_mid rfl 33 _ rfl bF 0 rfl x.cells _ (range_frame F0.out) Try.underlying33 rfl (by kernel_rfl) ?_)
    refine (rmay_put x _).mono ?_; rw [HM.out]; rintro ee w2 ⟨rfl, k2⟩
    go_wp2_with fail
    go_ret2
    exact ⟨_, by rw [HE.out]; rfl, K0.out.trans k2⟩
  | true =>
    have HM := hid hm
    clear hm
    go_wp2_with (refine wpList_load_mid rfl 33 _ rfl bF 0 rfl x.cells _ (range_frame F0.out) Try.underlying33 rfl (by kernel_rfl) ?_)
    refine (rmay_put x _).mono ?_; rw [HM.out]; rintro ee w2 ⟨rfl, k2⟩
    have F2 := hid (k2.lies F0.out)
    have K2 := hid (K0.out.trans k2)
    clear k2 F0 K0
    go_wp2_with (refine wpList_load_mid rfl 33 _ rfl bF 0 rfl x.cells _ (range_frame F2.out) Try.underlying33 rfl (by kernel_rfl) ?_)
    refine (HB _).out.mono ?_
    rintro ee w3 ⟨s, rfl, hs, k3⟩
    have K3 := hid (K2.out.trans k3)
    clear k3
    by_cases hl : 1522 < lenF x
    · have HE := hid (show putE x = 5 by simp [putE, HM.out, hl])
      have hg : decide ((1522 : Int) < (s.size : Int)) = true := by rw [hs]; exact decide_eq_true hl
      clear hs hl
      go_wp2_with fail
      go_ret2
      exact ⟨_, by rw [HE.out]; rfl, K3.out⟩
    · have HE := hid (show putE x = 0 by simp [putE, HM.out, hl])
      have hg : decide ((1522 : Int) < (s.size : Int)) = false := by rw [hs]; exact decide_eq_false hl
      clear hs hl
      go_wp2_with fail
      go_ret2
      exact ⟨_, by rw [HE.out]; rfl, K3.out⟩
end Go.Proofs.Ytcplmdgnldmhbaa
