/-
  Graphs: wakes. No condition.
-/
import Derived.Test.YthnkeppkhdceoaaWakesK
namespace Go.Proofs.Ythnkeppkhdceoaa
open Go.RowKit
set_option linter.unusedVariables false
set_option linter.unusedSimpArgs false
set_option maxRecDepth 8000
theorem known_of {w1 w2 : World} {gL : Nat} (hL : LSl w1.heap.size w1 (some ⟨gL, 0, Option.none⟩) 3 Lk0) (k : Keeps Nil w1 w2) :
    Calls Try.prog 8 #[.slice (some ⟨gL, 0, Option.none⟩) 3 3] w2 fun e w' => ∃ p c, e = .returned (.slice p 3 c) ∧ LSl w'.heap.size w' p c Lk0 ∧ Keeps Nil w2 w' :=
  (of_any (hL.below (k.below (fun _ _ e => e)) (Nat.le_refl _)) k.size rfl (by decide)).mono fun e w' ⟨p, c, he, hown, kk⟩ => ⟨p, c, he, lsl_own hown rfl, kk⟩
theorem tree0 {w : World} {BI cl : Nat} {gI : Nat} {pl : Option Addr} (hI : WV w BI 1 (some ⟨gI, 0, Option.none⟩) 3 3 (idc ids0)) (hL : LSl w.heap.size w pl cl Lk0) :
    Calls Try.prog 7 #[.slice (some ⟨gI, 0, Option.none⟩) 3 3, .slice pl 3 cl] w fun e w' => ∃ gN c3 gJ, e = .returned (.tuple #[.slice (some ⟨gN, 0, Option.none⟩) 3 c3, .slice (some ⟨gJ, 0, Option.none⟩) 3 3, .int .i64 0]) ∧ Keeps Nil w w' ∧
      Row w' gN c3 [⟨1, 0, -1⟩, ⟨1, 10, 0⟩, ⟨1, 20, 0⟩] ∧ w'.heap[gJ]? = some (.cells #[.bool true, .bool true, .bool false] 4 (0, 0)) :=
  (Tree_any hI hL rfl (by decide) (by decide) int0).mono fun e w' ⟨kk, h⟩ => by
    rcases h with ⟨hb, _⟩ | ⟨hb, gN, c3, gJ, N, he, ht⟩
    · rw [mayB_true may0] at hb; cases hb
    · obtain rfl := Put.unique gok0 ht.put put0
      have h1 := ht.row
      have h2 := ht.blk
      have e1 : ported (portOf ids0 N0 (sidesOf Lk0)) 3 N0 = [⟨1, 0, -1⟩, ⟨1, 10, 0⟩, ⟨1, 20, 0⟩] := nq0
      rw [e1] at h1 h2
      exact ⟨gN, c3, gJ, he, kk, h1, by rw [h2]; rfl⟩
theorem path1 {w : World} {BI cl : Nat} {gI : Nat} {pl : Option Addr} (hI : WV w BI 1 (some ⟨gI, 0, Option.none⟩) 3 3 (idc ids0)) (hL : LSl w.heap.size w pl cl Lk0) :
    Calls Try.prog 11 #[.slice (some ⟨gI, 0, Option.none⟩) 3 3, .slice pl 3 cl, .int .i64 2, .int .i64 0] w fun e w' => ∃ g o c, e = .returned (.tuple #[.slice (some ⟨g, o, Option.none⟩) 3 c, .int .i64 0]) ∧ 3 ≤ c ∧ Keeps Nil w w' ∧ g < w'.heap.size ∧
      ∀ j u, (flatH P0)[j]? = some u → w'.cell? ⟨g, o + j, Option.none⟩ = some u :=
  (Path_any hI hL rfl (by decide) (by decide) int0).mono fun e w' ⟨kk, h⟩ => by
    obtain ⟨p, c, he, hown⟩ := path0 h
    obtain ⟨_, h2, h3⟩ := WV.of_own hown
    obtain ⟨g, o, rfl, _, hl, hc⟩ := h3 (by decide)
    exact ⟨g, o, c, he, h2, kk, hl, hc⟩
set_option maxHeartbeats 8000000 in
theorem wakes_any (w : World) : Calls Try.prog 6 #[] w fun e w' => e = .returned (.bool true) ∧ Keeps Nil w w' := by
  go_enter Try.func6, Try.ntmps6
  go_wp2_with (first
    | (go_at_call 13; refine (known_any _).mono ?_; rintro e w1 ⟨gI, gL, rfl, hI, hL, k1⟩; have HI := hid hI; have HL := hid hL; have K1 := hid k1; clear hI hL k1)
    | (go_at_call 8; refine (known_of HL.out (Keeps.refl Nil _)).mono ?_; rintro e w2 ⟨p, c, rfl, hM, k2⟩; have HM := hid hM; have K2 := hid k2; have hmark := k2.size; clear hM k2)
    | (go_at_call 7; refine (tree0 (HI.out.keepN K2.out) HM.out).mono ?_; rintro e w3 ⟨gN, c3, gJ, rfl, k3, hr, hb⟩; have HR := hid hr; have HB := hid hb; have K3 := hid (K2.out.trans k3); clear hr hb k3 hmark)
    | (go_at_call 8; refine (known_of HL.out K3.out).mono ?_; rintro e w4 ⟨p4, c4, rfl, hM4, k4⟩; have HM4 := hid hM4; have K4 := hid (K3.out.trans k4); have KR := hid k4; clear hM4 k4)
    | (go_at_call 11; refine (path1 (HI.out.keepN K4.out) HM4.out).mono ?_; rintro e w5 ⟨gH, o, c5, rfl, hc5, k5, hgl, hcl⟩; have K5 := hid (K4.out.trans k5); have KS := hid (KR.out.trans k5); have h0 : w5.cell? ⟨gH, o + 0, Option.none⟩ = some (.int .i64 2) := hcl 0 _ rfl; have h1 : w5.cell? ⟨gH, o + 1, Option.none⟩ = some (.int .i64 (-1)) := hcl 1 _ rfl; have h2 : w5.cell? ⟨gH, o + 2, Option.none⟩ = some (.int .i64 0) := hcl 2 _ rfl; have h3 : w5.cell? ⟨gH, o + 3, Option.none⟩ = some (.int .i64 1) := hcl 3 _ rfl; have h4 : w5.cell? ⟨gH, o + 4, Option.none⟩ = some (.int .i64 1) := hcl 4 _ rfl; have h5 : w5.cell? ⟨gH, o + 5, Option.none⟩ = some (.int .i64 0) := hcl 5 _ rfl; have h6 : w5.cell? ⟨gH, o + 6, Option.none⟩ = some (.int .i64 0) := hcl 6 _ rfl; have h7 : w5.cell? ⟨gH, o + 7, Option.none⟩ = some (.int .i64 0) := hcl 7 _ rfl; have h8 : w5.cell? ⟨gH, o + 8, Option.none⟩ = some (.int .i64 (-1)) := hcl 8 _ rfl; have h0' : w5.cell? ⟨gH, o, Option.none⟩ = some (.int .i64 2) := h0; have h4' : w5.cell? ⟨gH, o + 3 + 1, Option.none⟩ = some (.int .i64 1) := h4; have h5' : w5.cell? ⟨gH, o + 3 + 2, Option.none⟩ = some (.int .i64 0) := h5; have h7' : w5.cell? ⟨gH, o + 6 + 1, Option.none⟩ = some (.int .i64 0) := h7; have h8' : w5.cell? ⟨gH, o + 6 + 2, Option.none⟩ = some (.int .i64 (-1)) := h8; have hr5 := HR.out.keep KS.out (fun e => e); have hb5 := (KS.out.block _ (lt_of_block HB.out) (fun e => e)).trans HB.out; have gl1 := hr5.lt; have gl2 := lt_of_block hb5; obtain ⟨⟨n00, n01, n02⟩, _⟩ := hr5.read (i := 0) rfl; obtain ⟨⟨n10, n11, n12⟩, _⟩ := hr5.read (i := 1) rfl; obtain ⟨⟨n20, n21, n22⟩, _⟩ := hr5.read (i := 2) rfl; simp only [Nat.zero_mul, Nat.one_mul, Nat.zero_add, Nat.reduceMul, Nat.reduceAdd] at n00 n01 n02 n10 n11 n12 n20 n21 n22; have b0 : w5.cell? ⟨gJ, 0, Option.none⟩ = some (.bool true) := cellOf hb5 rfl; have b1 : w5.cell? ⟨gJ, 1, Option.none⟩ = some (.bool true) := cellOf hb5 rfl; have b2 : w5.cell? ⟨gJ, 2, Option.none⟩ = some (.bool false) := cellOf hb5 rfl; clear hr5 hb5; clear hcl k5))
  go_ret
  exact ⟨rfl, K1.out.trans K5.out⟩
end Go.Proofs.Ythnkeppkhdceoaa
