/-
  The statement VectorLeast, walked. Condition: the paths lie in their cells.
-/
import Derived.Test.YtndhccdknloinaaRLeast
import Derived.Deep.AppendLies
namespace Go.Proofs.Ytndhccdknloinaa
open Go.RowKit
set_option linter.unusedVariables false

def pc (l : List Pth) : List Value := l.flatMap (fun x => (pcells x).toList)
theorem pc_length (l : List Pth) : (pc l).length = l.length * 5 := by
  induction l with
  | nil => rfl
  | cons x l ih => simp [pc] at ih ⊢; omega
theorem pc_cons (x : Pth) (l : List Pth) : pc (x :: l) = (pcells x).toList ++ pc l := rfl
theorem pc_snoc (x : Pth) (l : List Pth) : pc (l ++ [x]) = pc l ++ (pcells x).toList := by simp [pc]
theorem pc_get (l : List Pth) (i : Nat) (x : Pth) (j : Nat) (hj : j < 5) (h : l[i]? = some x) : (pc l)[i * 5 + j]? = (pcells x)[j]? := by
  induction l generalizing i with
  | nil => simp at h
  | cons y l ih =>
    rw [pc_cons]
    match i with
    | 0 =>
      simp at h; subst h
      rw [List.getElem?_append_left (by simp; omega)]
      simp
    | i + 1 =>
      rw [List.getElem?_append_right (by simp; omega), show (i + 1) * 5 + j - (pcells y).toList.length = i * 5 + j from by simp; omega]
      exact ih i (by simpa using h)
theorem row_of_own {w : World} {base : Nat} {e : TypeId} {g n c : Nat} {l : List Pth} (h : w.ownsRow base e 5 (.slice (some ⟨g, 0, Option.none⟩) n c) n (pc l)) : Row5 w g l := by
  have hc := h.cells (g := g) rfl
  have ha : ∀ j : Nat, (⟨g, 0, Option.none⟩ : Addr).add j = ⟨g, j, Option.none⟩ := fun j => by unfold Addr.add; split <;> simp_all
  intro i x hx
  have at' : ∀ j, j < 5 → ∀ u, (pcells x)[j]? = some u → w.cell? ⟨g, i * 5 + j, Option.none⟩ = some u := fun j hj u hu => by
    have := hc (i * 5 + j) u ((pc_get l i x j hj hx).trans hu)
    rwa [ha] at this
  exact ⟨at' 0 (by omega) _ rfl, at' 1 (by omega) _ rfl, at' 2 (by omega) _ rfl, at' 3 (by omega) _ rfl, at' 4 (by omega) _ rfl⟩

theorem info41 : (Try.prog.info? 41).map (fun i => (i.zero, i.size, i.bytes)) = some (some (pth (0, 0, 0, 0, 0)), 5, 40) := by kernel_rfl
theorem info_parts {P : Program} {e : TypeId} {z : Value} {s b : Nat} (h : (P.info? e).map (fun i => (i.zero, i.size, i.bytes)) = some (some z, s, b)) :
    ∃ i, P.info? e = some i ∧ i.zero = some z ∧ i.size = s ∧ i.bytes = b := by
  obtain ⟨i, hi, he⟩ := Option.map_eq_some_iff.1 h
  simp only [Prod.mk.injEq] at he
  exact ⟨i, hi, he.1, he.2.1, he.2.2⟩

set_option maxRecDepth 4000 in
set_option maxHeartbeats 6400000 in
theorem vectorLeast_any (a : Option Addr) (n cap : Nat) (l : List Pth) (w : World) (hn : n ≤ 50) (hl : l.length = n) (h : 0 < n → ∃ b o, a = some ⟨b, o, Option.none⟩ ∧ b < w.heap.size ∧ RowIn w b o l) :
    Calls Try.prog 4 #[.slice a n cap] w fun e w' => e = .returned (.bool true) ∧ Keeps Nil w w' := by
  obtain ⟨i0, hi, hz0, hz1, hz2⟩ := info_parts info41
  have HI := hid (And.intro hi (And.intro hz0 (And.intro hz1 hz2)))
  have HH := hid h
  clear hi hz0 hz1 hz2 h
  go_enter Try.func4, Try.ntmps4
  go_wp2_with fail
  go_loopw [3, 4] (fun v i wr => ∃ k : Nat, k ≤ n ∧ i = .int .i64 k ∧ wr.ownsRow w.heap.size 41 5 v k (pc (l.take k)) ∧ Keeps Nil w wr) (fun _ i _ => n - (intOf i).toNat)
  case atStart => exact ⟨0, Nat.zero_le _, rfl, World.ownsRow_nil _ _ _ _, Keeps.refl _ _⟩
  case round =>
    obtain ⟨k, hk, rfl, hown, hkeep⟩ := hrel
    by_cases hlt : k < n
    · obtain ⟨b, o, rfl, hb, hr⟩ := HH.out (by omega)
      obtain ⟨⟨xr, xc, xb, xp, xi⟩, hx⟩ : ∃ x, l[k]? = some x := ⟨_, List.getElem?_eq_getElem (by omega)⟩
      have HR := hid hr
      have S0 : ∀ W, Keeps (fun g => w.heap.size ≤ g) wr W → W.cell? ⟨b, o + k * 5, Option.none⟩ = some (.int .u64 xr) ∧ W.cell? ⟨b, o + k * 5 + 1, Option.none⟩ = some (.int .u32 xc) ∧ W.cell? ⟨b, o + k * 5 + 2, Option.none⟩ = some (.int .u64 xb) ∧ W.cell? ⟨b, o + k * 5 + 3, Option.none⟩ = some (.int .u8 xp) ∧ W.cell? ⟨b, o + k * 5 + 4, Option.none⟩ = some (.int .u8 xi) :=
        fun W K => HR.out.keep (hkeep.thenOwn K (fun _ h => h)) hb (fun e => e) k (xr, xc, xb, xp, xi) hx
      have HS := hid S0
      obtain ⟨c0, c1, c2, c3, c4⟩ := S0 wr (Keeps.refl _ _)
      have htake : pc (l.take (k + 1)) = pc (l.take k) ++ (pcells (xr, xc, xb, xp, xi)).toList := by
        rw [List.take_add_one, hx]; exact pc_snoc _ _
      have HT := hid htake
      have HOWN := hid hown
      have HKW := hid hkeep
      have kk : Keeps Nil wr wr := Keeps.refl _ _
      have hw := hkeep.size
      clear S0 hr htake hown hx hkeep
      go_wp2_with fail
      go_region_held3 (fun w' => w'.cell? ⟨b, o + k * 5, Option.none⟩ = some (.int .u64 xr) ∧ w'.cell? ⟨b, o + k * 5 + 1, Option.none⟩ = some (.int .u32 xc) ∧ w'.cell? ⟨b, o + k * 5 + 2, Option.none⟩ = some (.int .u64 xb) ∧ w'.cell? ⟨b, o + k * 5 + 3, Option.none⟩ = some (.int .u8 xp) ∧ w'.cell? ⟨b, o + k * 5 + 4, Option.none⟩ = some (.int .u8 xi))
        (first | exact HS.out _ kk.ofNil | exact HS.out _ kk.drew.ofNil | exact HS.out _ (kk.alloc _).ofNil | exact HS.out _ kk2)
        ((first
          | (go_at_call 8; refine (of_any _ _ _ _ _).mono ?_; rintro e wz ⟨rfl, kz⟩; have kk : Keeps Nil wr wz := by first | exact kk.trans kz | exact kk.drew.trans kz)
          | (refine step_append_lies _ (by rfl) _ _ 37 (by rfl) w.heap.size 41 i0 (pth (0, 0, 0, 0, 0)) 5 40 Try.underlying37 HI.out.1 HI.out.2.1 HI.out.2.2.1 HI.out.2.2.2 rfl (by decide) _ k (pc (l.take k)) (by rfl) ((ownsRow_keep HOWN.out kk (fun _ _ e => e)).alloc _) ⟨wz.heap.size, 0, Option.none⟩ 1 1 [.int .u64 xr, .int .u32 xc, .int .u64 xb, .int .u8 xp, .int .u8 xi] (by rfl) (by rfl) (World.news_of_block (cs := pcells (xr, xc, xb, xp, xi)) (t := 41) (fr := (0, 0)) (alloc_block wz _)) (by simp [Value.oneCell']) (by decide) (by unfold maxLen; omega) (by omega) (Nat.le_trans hw (kk.alloc _).size) _ rfl ?_; intro g2 cap2 w2 own2 hgrow2 hat2 hlt2; have kk2 : Keeps (fun g => w.heap.size ≤ g) wr w2 := (kk.alloc _).ofNil.grown hgrow2 (fun g hg _ => (HOWN.out.lt g hg).1))))
      rw [← HT.out] at own2
      have kw2 := HKW.out.thenOwn kk2 (fun _ h => h)
      have HOW2 := hid own2
      have HKW2 := hid kw2
      clear own2 kw2 kk2 kk hgrow2 hat2
      go_wp2_with fail
      go_roundw
      case rel => exact ⟨k + 1, by omega, by go_num, HOW2.out, HKW2.out⟩
      case measure => simp only [intOf]; omega
    · obtain rfl : k = n := by omega
      rw [List.take_of_length_le (Nat.le_of_eq hl)] at hown
      have HOWN := hid hown
      have HKW := hid hkeep
      clear hown hkeep
      -- what both least ones answer
      obtain ⟨m, ok, L1, L2⟩ : ∃ (m : Pth) (ok : Bool), (∀ W, Keeps Nil wr W → Calls Try.prog 13 #[u3] W fun e w' => e = .returned (.tuple #[pth m, .bool ok]) ∧ Keeps Nil W w') ∧
          (∀ W, Keeps Nil wr W → Calls Try.prog 14 #[.slice a k cap] W fun e w' => e = .returned (.tuple #[pth m, .bool ok]) ∧ Keeps Nil W w') := by
        have hlen : l.length ≤ 50 := by omega
        match l, hl, HH.out with
        | [], hl, _ =>
          obtain rfl : k = 0 := by simpa using hl.symm
          refine ⟨(0, 0, 0, 0, 0), false, fun W _ => ?_, fun W _ => rleast_none a cap⟩
          rcases HOWN.out.2 with ⟨rfl, _⟩ | ⟨g, cap', cur, rfl, _⟩
          · exact least_none _ _
          · exact least_none _ _
        | x0 :: l', hl, hh =>
          obtain rfl : k = l'.length + 1 := by simpa using hl.symm
          obtain ⟨b, o, rfl, hb, hr⟩ := hh (by omega)
          refine ⟨best x0 l', true, fun W K => ?_, fun W K => rleast_some b o cap x0 l' (Nat.lt_of_lt_of_le hb (HKW.out.trans K).size) (hr.keep (HKW.out.trans K) hb (fun e => e)) (by simp at hlen; omega)⟩
          have ho := HOWN.out
          rcases ho.2 with ⟨_, h0⟩ | ⟨g, cap', cur, rfl, _, hgg, _⟩
          · omega
          · have hg := lt_of_block hgg
            exact least_some g cap' x0 l' (Nat.lt_of_lt_of_le hg K.size) ((row_of_own ho).keep K hg (fun e => e)) (by simp at hlen; omega)
      obtain ⟨mr, mc, mb, mp, mi⟩ := m
      have H1 := hid L1
      have H2 := hid L2
      clear L1 L2
      go_wp2_with fail
      refine (H1.out _ (Keeps.refl _ _)).mono ?_; rintro e w3 ⟨rfl, k3⟩
      go_wp2_with fail
      refine (H2.out _ (k3.alloc _)).mono ?_; rintro e w4 ⟨rfl, k4⟩
      have k34 := (k3.alloc (.cells (pcells (mr, mc, mb, mp, mi)) 41 (0, 0))).trans k4
      have hb3 := (k4.block _ (by simp) (fun e => e)).trans (alloc_block w3 _)
      have S0 : ∀ W, Keeps Nil (w4.alloc (.cells (pcells (mr, mc, mb, mp, mi)) 39 (0, 0))) W →
          (W.cell? ⟨w3.heap.size, 0, Option.none⟩ = some (.int .u64 mr) ∧ W.cell? ⟨w3.heap.size, 1, Option.none⟩ = some (.int .u32 mc) ∧ W.cell? ⟨w3.heap.size, 2, Option.none⟩ = some (.int .u64 mb) ∧ W.cell? ⟨w3.heap.size, 3, Option.none⟩ = some (.int .u8 mp) ∧ W.cell? ⟨w3.heap.size, 4, Option.none⟩ = some (.int .u8 mi)) ∧
          (W.cell? ⟨w4.heap.size, 0, Option.none⟩ = some (.int .u64 mr) ∧ W.cell? ⟨w4.heap.size, 1, Option.none⟩ = some (.int .u32 mc) ∧ W.cell? ⟨w4.heap.size, 2, Option.none⟩ = some (.int .u64 mb) ∧ W.cell? ⟨w4.heap.size, 3, Option.none⟩ = some (.int .u8 mp) ∧ W.cell? ⟨w4.heap.size, 4, Option.none⟩ = some (.int .u8 mi)) :=
        fun W K => ⟨held5 (x := (mr, mc, mb, mp, mi)) (((Keeps.refl Nil w4).alloc _).trans K) hb3, held5 (x := (mr, mc, mb, mp, mi)) K (alloc_block w4 _)⟩
      have HS := hid S0
      have kk : Keeps Nil (w4.alloc (.cells (pcells (mr, mc, mb, mp, mi)) 39 (0, 0))) (w4.alloc (.cells (pcells (mr, mc, mb, mp, mi)) 39 (0, 0))) := Keeps.refl _ _
      have KF := hid ((HKW.out.trans k34).alloc (.cells (pcells (mr, mc, mb, mp, mi)) 39 (0, 0)))
      clear S0 hb3
      go_upto_region 10 with (fail)
      go_region_held3 (fun w' => (w'.cell? ⟨w3.heap.size, 0, Option.none⟩ = some (.int .u64 mr) ∧ w'.cell? ⟨w3.heap.size, 1, Option.none⟩ = some (.int .u32 mc) ∧ w'.cell? ⟨w3.heap.size, 2, Option.none⟩ = some (.int .u64 mb) ∧ w'.cell? ⟨w3.heap.size, 3, Option.none⟩ = some (.int .u8 mp) ∧ w'.cell? ⟨w3.heap.size, 4, Option.none⟩ = some (.int .u8 mi)) ∧ (w'.cell? ⟨w4.heap.size, 0, Option.none⟩ = some (.int .u64 mr) ∧ w'.cell? ⟨w4.heap.size, 1, Option.none⟩ = some (.int .u32 mc) ∧ w'.cell? ⟨w4.heap.size, 2, Option.none⟩ = some (.int .u64 mb) ∧ w'.cell? ⟨w4.heap.size, 3, Option.none⟩ = some (.int .u8 mp) ∧ w'.cell? ⟨w4.heap.size, 4, Option.none⟩ = some (.int .u8 mi))) (first | exact HS.out _ kk | exact HS.out _ kk.drew) ((first
        | (go_at_call 8; refine (of_any _ _ _ _ _).mono ?_; rintro e wz ⟨rfl, kz⟩; have kk : Keeps Nil (w4.alloc (.cells (pcells (mr, mc, mb, mp, mi)) 39 (0, 0))) wz := by first | exact kk.trans kz | exact kk.drew.trans kz | exact kk.drew.drew.trans kz)
        | (go_at_call 12; refine (wakes_any _).mono ?_; rintro e wz ⟨rfl, kz⟩; have kk : Keeps Nil (w4.alloc (.cells (pcells (mr, mc, mb, mp, mi)) 39 (0, 0))) wz := by first | exact kk.trans kz | exact kk.drew.trans kz | exact kk.drew.drew.trans kz)))
      go_wp2_with fail
      go_ret
      exact ⟨rfl, by first | exact KF.out.trans kk | exact KF.out.trans kk.drew⟩
end Go.Proofs.Ytndhccdknloinaa
