/-
  Layer 10: put, Put: only whether it is refused. No condition.
-/
import Derived.Test.YtbgijlfdgfhceaaName
import Derived.Lib.AppendStr
import Derived.Lib.AppendZerosOnto
import Derived.Laws.BytesArg
import Derived.Deep.AppendLies
import Derived.StillTailTactics
namespace Go.Proofs.Ytbgijlfdgfhceaa
open Go.RowKit
set_option linter.unusedVariables false
set_option linter.unusedSimpArgs false

/-- A row of bytes of the call's own. -/
def Byt (w : World) (B : Nat) (v : Value) (n : Nat) : Prop := ∃ zs : List Int, w.ownsRow B 5 1 v n (zs.map (.int .u8))
theorem Byt.keep {S : Nat → Prop} {w w' : World} {B n : Nat} {v : Value} (h : Byt w B v n) (k : Keeps S w w') (hS : ∀ g, B ≤ g → ¬ S g) : Byt w' B v n := by
  obtain ⟨zs, h⟩ := h; exact ⟨zs, ownsRow_keep h k hS⟩
theorem Byt.shape {w : World} {B n : Nat} {v : Value} (h : Byt w B v n) : ∃ p c, v = .slice p n c := by
  obtain ⟨zs, h⟩ := h; exact own_shape h
theorem strCells_ints (s : ByteArray) : Lib.strCells s = (s.data.toList.map (fun b => (b.toNat : Int))).map (.int .u8) := by
  simp [Lib.strCells]
theorem info_parts {t : TypeId} {z : Value} {s b : Nat} (h : (Try.prog.info? t).map (fun i => (i.zero, i.size, i.bytes)) = some (some z, s, b)) : ∃ i0, Try.prog.info? t = some i0 ∧ i0.zero = some z ∧ i0.size = s ∧ i0.bytes = b := by
  cases hi : Try.prog.info? t with
  | none => rw [hi] at h; cases h
  | some i0 =>
    rw [hi] at h
    simp at h
    exact ⟨i0, rfl, h.1, h.2.1, h.2.2⟩
theorem bytes_info : ∃ i, Try.prog.info? 5 = some i ∧ i.zero = some (.int .u8 0) ∧ i.size = 1 ∧ i.bytes = 1 := info_parts (by kernel_rfl)
theorem zeros_u8 (k : Nat) : Builtin.zeroCells (Value.int .u8 0).cells k = ((List.replicate k (0 : Int)).map (Value.int .u8)).toArray := by
  apply Array.ext'
  simp [Builtin.zeroCells, Value.cells]
  apply List.ext_getElem?
  intro i
  by_cases h : i < k <;> simp [List.getElem?_replicate, Nat.mod_one, h]
theorem ints_one (zs : List Int) : ∀ u ∈ zs.map (Value.int .u8), u.oneCell' = true := by
  intro u hu
  obtain ⟨z, _, rfl⟩ := List.mem_map.1 hu
  rfl

/-- 'append(b, make([]byte, k)...)' onto a row of the call's own. -/
theorem run_append_zeros_own (w : World) (B n k : Nat) (v : Value) (hv : v ≠ .slice Option.none 0 0) (h : Byt w B v n) (hn : n + k ≤ 1000) (hB : B ≤ w.heap.size) :
    ∃ v' w', (Builtin.append_ #[105, 3] 105 #[v, .int .i64 (k : Int)]).run Try.prog w = .ok v' w' ∧ Byt w' B v' (n + k) ∧ w.grownBy w' v.ownBlock := by
  obtain ⟨zs, h⟩ := h
  obtain ⟨i, hi, hz, hs, hb⟩ := bytes_info
  have hlen := h.1
  rw [Nat.mul_one] at hlen
  rcases h.2 with ⟨rfl, rfl⟩ | ⟨g, cap, cur, rfl, hbg, hg, hnc, hcm, hcs, htake⟩
  · exact absurd rfl hv
  have hw : IntKind.i64.wrap (k : Int) = k := by rw [IntKind.wrap_i64]; omega
  have hneg : ¬ ((k : Int) < 0) := by omega
  have h48 : ¬ (281474976710656 < (k : Int)) := by omega
  by_cases hroom : n + k ≤ cap
  · have hcs' : cur.size = cap := by simpa using hcs
    have hst := run_storeCells_at Try.prog g n 5 ((List.replicate k (0 : Int)).map (Value.int .u8)) 0 cur w hg (by simp; omega) (ints_one _)
    simp only [Nat.add_zero] at hst
    have hst0 : k = 0 → (storeCells ⟨g, n, Option.none⟩ [] 0).run Try.prog w = .ok () (w.setRow g (cur.toList.take n ++ ((List.replicate k (0 : Int)).map (Value.int .u8)) ++ cur.toList.drop (n + ((List.replicate k (0 : Int)).map (Value.int .u8)).length)).toArray) := by
      intro h0
      subst h0
      simpa using hst
    refine ⟨.slice (some ⟨g, 0, Option.none⟩) (n + k) cap, w.setRow g (cur.toList.take n ++ ((List.replicate k (0 : Int)).map (Value.int .u8)) ++ cur.toList.drop (n + ((List.replicate k (0 : Int)).map (Value.int .u8)).length)).toArray, ?_, ⟨zs ++ List.replicate k 0, ?_, .inr ⟨g, cap, _, rfl, hbg, setRow_heap w g cur _ 5 _ hg, hroom, hcm, ?_, ?_⟩⟩, ⟨rfl, rfl, rfl, by simp, fun j _ hk => setRow_other w g j _ (fun e => hk (by simp [Value.ownBlock, e]))⟩⟩
    · by_cases h0 : k = 0
      · have hst0 := hst0 h0
        generalize (w.setRow g _) = w2 at *
        subst h0
        simp only [Nat.add_zero] at hroom
        simp [Builtin.append_, run_underlying Try.underlying105, run_underlying Try.underlying3, sizeOf, typeInfo, hi, hs, hb, asInt, asIntOf, IntKind.wrap_i64, hroom, Addr.add_lit, hst0]
      · generalize (w.setRow g _) = w2 at *
        have hns : ¬ (k * i.size = 0) := Nat.mul_ne_zero h0 (by omega)
        simp [Builtin.append_, run_underlying Try.underlying105, run_underlying Try.underlying3, sizeOf, typeInfo, zeroValue, hi, hz, hs, hb, asInt, asIntOf, hw, hneg, h48, h0, hroom, Addr.add_lit, zeros_u8]
        simp at hst
        simp [hst]
    · simp at hlen ⊢; omega
    · simp; omega
    · have e : (n + k) * 1 = (cur.toList.take n ++ (List.replicate k (0 : Int)).map (Value.int .u8)).length := by simp; omega
      rw [Nat.mul_one] at htake
      rw [List.toList_toArray, e, List.take_left, List.map_append, htake]
  · have hk0 : 0 < k := by omega
    have holds : (Builtin.firstCells i.size n (.slice (some ⟨g, 0, Option.none⟩) n cap)).run Try.prog w.drew = .ok ((zs.map (Value.int .u8)).toArray) w.drew := by
      have hc : ∀ j u, (zs.map (Value.int .u8))[j]? = some u → w.drew.cell? ((⟨g, 0, Option.none⟩ : Addr).add j) = some u := h.cells (g := g) rfl
      have := run_loadCells_list (P := Try.prog) w.drew ⟨g, 0, Option.none⟩ (zs.map (Value.int .u8)) hc
      simp [Builtin.firstCells, hs]
      simpa [hlen] using this
    have hr := Lib.run_append_grow_zeros (P := Try.prog) w 105 3 105 5 i (.int .u8 0) .i64 .i64 Try.underlying105 Try.underlying3 hi hz (some ⟨g, 0, Option.none⟩) n cap _ holds k hk0 (by omega) (by omega) (by omega) (by rw [hb]; omega) (by rw [hb]; exact growslice_fits (by omega) (by unfold maxLen at hcm; omega))
    have hge := grownCap_ge w (n + k) cap 5
    have hcm2 : grownCap w (n + k) cap 5 ≤ maxLen := grownCap_le_maxLen w (n + k) cap 5 (by unfold maxLen; omega)
    refine ⟨_, _, hr, ⟨zs ++ List.replicate k 0, by simp at hlen ⊢; omega, .inr ⟨w.heap.size, _, _, rfl, hB, heap_alloc_new w.drew _, hge, hcm2, ?_, ?_⟩⟩, ⟨rfl, rfl, rfl, by simp, fun j hj _ => Below.heap_alloc w.drew _ _ (by have : w.drew.heap.size = w.heap.size := rfl; omega)⟩⟩
    · simp only [zeros_u8]
      simp at hlen ⊢; omega
    · simp only [zeros_u8, Array.toList_append, List.map_append]
      have e : (n + k) * 1 = (zs.map (Value.int .u8) ++ (List.replicate k (0 : Int)).map (Value.int .u8)).length := by simp at hlen ⊢; omega
      rw [e]
      exact List.take_left

theorem Byt.to_string {w : World} {B n : Nat} {v : Value} (h : Byt w B v n) : ∃ s, ∀ dst, Try.prog.underlying dst = some .string → (convert 105 dst v).run Try.prog w = .ok (.string s) w := by
  obtain ⟨zs, h⟩ := h
  have hl := h.1
  rw [Nat.mul_one] at hl
  rcases ownsRow_read h with ⟨rfl, rfl, _⟩ | ⟨g, cap, rfl, hb, hlt, hle, hx, hc⟩
  · exact ⟨_, run_convert_bytes_nil w 105 5 Try.underlying105 Try.underlying5 0 0⟩
  · refine ⟨_, run_convert_bytes_arg w 105 5 Try.underlying105 Try.underlying5 g 0 n cap zs (by simpa using hl) (fun i hi => ?_)⟩
    rw [Nat.zero_add]
    refine hc i _ ?_
    have : i < zs.length := by simp at hl; omega
    simp [List.getD, List.getElem?_eq_getElem this]

theorem own_shape_ge {w : World} {base : Nat} {e : TypeId} {size : Nat} {v : Value} {n : Nat} {xs : List Value} (h : w.ownsRow base e size v n xs) : v.ownBlock = Option.none ∨ ∃ b, v.ownBlock = some b ∧ base ≤ b := by
  rcases h.2 with ⟨rfl, rfl⟩ | ⟨g, cap, cur, rfl, hb, _⟩
  · exact .inl rfl
  · exact .inr ⟨g, rfl, hb⟩
set_option maxHeartbeats 4000000 in
/-- put: two bytes, then a text's. -/
theorem put_any (B n : Nat) (v : Value) (f : Int) (s : ByteArray) (w : World) (h : Byt w B v n) (hn : n + s.size ≤ 500) (hB : B ≤ w.heap.size) :
    Calls Try.prog 52 #[v, .int .u8 f, .string s] w fun e w' => ∃ v', e = .returned v' ∧ Byt w' B v' (n + 2 + s.size) ∧ v' ≠ .slice Option.none 0 0 ∧ Keeps (fun k => B ≤ k) w w' := by
  obtain ⟨zs, hz⟩ := h
  obtain ⟨p, c, rfl⟩ := own_shape hz
  obtain ⟨i0, hi, hz0, hz1, hz2⟩ := bytes_info
  have HO := hid (ownsRow_keep hz ((Keeps.refl Nil w).alloc (.cells #[.int .u8 f, .int .u8 ((s.size : Int) % 256)] 5 (0, 0))) (fun _ _ e => e))
  have HI := hid (And.intro hi (And.intro hz0 (And.intro hz1 hz2)))
  have HB := hid hB
  clear hi hz0 hz1 hz2 hz
  go_enter Try.func52, Try.ntmps52
  go_wp2_with (at_builtin; refine wpList_append_own _ rfl _ _ 105 rfl B 5 i0 (.int .u8 0) 1 1 Try.underlying105 HI.out.1 HI.out.2.1 HI.out.2.2.1 HI.out.2.2.2 rfl (by decide) (.slice p n c) n _ rfl HO.out ⟨w.heap.size, 0, Option.none⟩ 2 2 [.int .u8 f, .int .u8 ((s.size : Int) % 256)] rfl rfl ?q1 ?q2 (by unfold maxLen; omega) (by omega) (by simp; omega) ?_)
  case q1 => exact (World.news_of_block (cs := #[.int .u8 f, .int .u8 ((s.size : Int) % 256)]) (t := 5) (fr := (0, 0)) (heap_alloc_new w _))
  case q2 => simp [Value.oneCell']
  intro v1 w1 own1 hg1 hnil1
  have hnn : v1 ≠ .slice Option.none 0 0 := fun e => by simp [e] at hnil1
  have k1 : Keeps (fun k => B ≤ k) w w1 := ((Keeps.refl _ w).alloc _).grown hg1 (fun g hg _ => by
    rcases own_shape_ge HO.out with e | ⟨b, e, hb⟩
    · rw [e] at hg; cases hg
    · rw [e] at hg; injection hg with hg; omega)
  have OWN := hid own1
  have K1 := hid k1
  have HNN := hid hnn
  clear hnil1 hg1 own1 k1 hnn
  have hB1 : B ≤ w1.heap.size := Nat.le_trans hB K1.out.size
  have HB1 := hid hB1
  clear hB1
  go_wp2_with (at_builtin; refine Lib.wpList_append_own_string _ rfl _ _ 105 9 rfl B 5 i0 Try.underlying105 Try.underlying9 HI.out.1 HI.out.2.1 HI.out.2.2.1 HI.out.2.2.2 v1 (n + 2) _ rfl OWN.out s rfl (by unfold maxLen; omega) (by omega) HB1.out ?_)
  intro v2 w2 own2 hg2 hnil2
  have k2 : Keeps (fun k => B ≤ k) w w2 := K1.out.trans ((Keeps.refl _ w1).grown hg2 (fun g hg _ => by
    rcases own_shape_ge OWN.out with e | ⟨b, e, hb⟩
    · rw [e] at hg; cases hg
    · rw [e] at hg; injection hg with hg; omega))
  have OWN2 := hid own2
  have hnn2 := hid (show v2 ≠ .slice Option.none 0 0 from fun e => HNN.out (by simp [e] at hnil2; exact hnil2.1))
  have K2 := hid k2
  clear hnil2 hg2 own2 k2
  go_wp2_with fail
  go_ret
  refine ⟨_, rfl, ⟨zs ++ [f, (s.size : Int) % 256] ++ s.data.toList.map (fun b => (b.toNat : Int)), ?_⟩, hnn2.out, K2.out⟩
  have := OWN2.out
  rw [strCells_ints] at this
  simpa using this
end Go.Proofs.Ytbgijlfdgfhceaa
