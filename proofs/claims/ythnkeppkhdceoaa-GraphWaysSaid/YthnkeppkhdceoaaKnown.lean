/-
  Graphs: the graph that is known. No condition.
-/
import Derived.Test.YthnkeppkhdceoaaOver
namespace Go.Proofs.Ythnkeppkhdceoaa
open Go.RowKit
set_option linter.unusedVariables false
set_option linter.unusedSimpArgs false
theorem lsl_wv {w : World} {B n c : Nat} {p : Option Addr} {L : List Lk} (h : WV w B 7 p n c (flatL L)) (hn : L.length = n) : LSl w.heap.size w p c L := by
  obtain ⟨_, hle, hb⟩ := h
  refine ⟨by omega, fun hne => ?_⟩
  have h0 : 0 < n := by
    have : 0 < L.length := List.length_pos_iff.2 hne
    omega
  obtain ⟨g, off, hp, _, hg, hc⟩ := hb h0
  refine ⟨g, off, hp, hg, fun j x hx => ?_⟩
  have H := flatL_get hx
  have c : ∀ q u, q < 7 → (lcells x)[q]? = some u → w.cell? ⟨g, off + j * 7 + q, Option.none⟩ = some u := fun q u hq hu => by
    rw [Nat.add_assoc]; exact hc _ u ((H q hq).trans hu)
  exact ⟨c 0 _ (by omega) rfl, c 1 _ (by omega) rfl, c 2 _ (by omega) rfl, c 3 _ (by omega) rfl, c 4 _ (by omega) rfl, c 5 _ (by omega) rfl, c 6 _ (by omega) rfl⟩
theorem link_any (a p b q c : Int) (w : World) : Calls Try.prog 22 #[.int .i64 a, .int .u8 p, .int .i64 b, .int .u8 q, .int .u32 c] w fun e w' => e = .returned (.agg #[.int .i64 a, .int .u8 p, .int .u32 c, .int .i64 b, .int .u8 q, .int .u32 c, .bool true]) ∧ Keeps Nil w w' := by
  go_enter Try.func22, Try.ntmps22
  go_wp2
  refine bodyPost_ret (ret_cell1 rfl Try.underlying57 (n := 7) (by kernel_rfl) _ _ w.heap.size _ rfl (alloc_block w _) rfl) rfl ?_
  exact ⟨rfl, (Keeps.refl Nil w).alloc _⟩
def Lk0 : List Lk := [⟨⟨0, 0, 10⟩, ⟨1, 0, 10⟩, true⟩, ⟨⟨1, 1, 10⟩, ⟨2, 0, 10⟩, true⟩, ⟨⟨0, 1, 50⟩, ⟨2, 1, 50⟩, true⟩]
def ids0 : List Int := [1, 2, 3]
theorem known_any (w : World) : Calls Try.prog 13 #[] w fun e w' => ∃ gI gL, e = .returned (.tuple #[.slice (some ⟨gI, 0, Option.none⟩) 3 3, .slice (some ⟨gL, 0, Option.none⟩) 3 3]) ∧ WV w' w.heap.size 1 (some ⟨gI, 0, Option.none⟩) 3 3 (idc ids0) ∧ LSl w'.heap.size w' (some ⟨gL, 0, Option.none⟩) 3 Lk0 ∧ Keeps Nil w w' := by
  go_enter Try.func13, Try.ntmps13
  go_wp2_with (go_at_call 22; refine (link_any _ _ _ _ _ _).mono ?_; rintro e wq ⟨rfl, kq⟩; have KQ := hid kq; clear kq)
  go_ret2
  rename_i w1 K1 w2 K2
  have kq := (K1.out.trans K2.out).trans KQ.out
  have hI := (kq.block _ (by simp) (fun e => e)).trans (alloc_block w _)
  have hI2 := alloc_other hI (.cells #[.int .i64 0, .int .u8 0, .int .u32 10, .int .i64 1, .int .u8 0, .int .u32 10, .bool true, .int .i64 1, .int .u8 1, .int .u32 10, .int .i64 2, .int .u8 0, .int .u32 10, .bool true, .int .i64 0, .int .u8 1, .int .u32 50, .int .i64 2, .int .u8 1, .int .u32 50, .bool true] 57 (0, 0))
  refine ⟨w.heap.size, wq.heap.size, rfl, WV.of_own (own_new (n := 3) (sz := 1) hI2 rfl (by decide)), lsl_wv (WV.of_own (own_new (n := 3) (sz := 7) (alloc_block wq _) rfl (by decide))) rfl, ((((Keeps.refl Nil w).alloc _).trans kq).alloc _)⟩
end Go.Proofs.Ythnkeppkhdceoaa
