/-
  Graphs: each bridge's root port (graph.ports). Conditions: the graph may be; the rows lie so; costs are small.
-/
import Derived.Test.YthnkeppkhdceoaaFam
import Derived.Deep.RegionHeld3
namespace Go.Proofs.Ythnkeppkhdceoaa
open Go.RowKit Go.Shelf
set_option linter.unusedVariables false
set_option linter.unusedSimpArgs false
attribute [local go_sem] Oper.semAt_some

theorem sides_len (L : List Lk) : ∀ k, (sidesFrom k L).length ≤ 2 * L.length := by
  induction L with
  | nil => intro k; simp [sidesFrom]
  | cons l L ih =>
    intro k
    have h1 := ih (k + 1)
    have h2 : (sdk k l).length ≤ 2 := by unfold sdk; split <;> simp
    simp only [sidesFrom, List.length_append, List.length_cons]
    omega
theorem set_same {L : List Nd} {k : Nat} {x : Nd} (h : L[k]? = some x) : L.set k x = L := by
  obtain ⟨h1, h2⟩ := List.getElem?_eq_some_iff.1 h
  subst h2
  simp
theorem best_mem (m : Pth) (l : List Pth) : best m l ∈ m :: l := by
  induction l generalizing m with
  | nil => simp [best]
  | cons x l ih =>
    have := ih (if ordP x m < 0 then x else m)
    simp only [best]
    split at this <;> rename_i h
    · simp only [h, if_true]; rcases List.mem_cons.1 this with h1 | h1 <;> simp [h1]
    · simp only [h, if_false]; rcases List.mem_cons.1 this with h1 | h1 <;> simp [h1]
theorem info96 : (Try.prog.info? 96).map (fun i => (i.zero, i.size, i.bytes)) = some (some (.slice Option.none 0 0), 1, 24) := by kernel_rfl
theorem made95 (n : Nat) : madeCells (Value.slice Option.none 0 0).cells (n * 1) = Array.replicate n (Value.slice Option.none 0 0) := by
  apply Array.ext
  · simp [madeCells]
  · intro j h1 h2
    simp [madeCells, Value.cells, Nat.mod_one]
theorem make95 (n : Nat) (h : n ≤ 8) (W : World) : (Instr.makeSlice 95 (.int .i64 (n : Int)) (.int .i64 (n : Int))).run Try.prog W = .ok (.slice (some ⟨W.heap.size, 0, Option.none⟩) n n) (W.alloc (.cells (Array.replicate n (Value.slice Option.none 0 0)) 96 (0, 0))) := by
  obtain ⟨i0, hi, hz0, hz1, hz2⟩ := info_parts info96
  have hr := run_makeSlice (P := Try.prog) W 95 96 i0 (.slice Option.none 0 0) Try.underlying95 hi hz0 .i64 .i64 n n (by omega) (Int.le_refl _) (by rw [hz1]; simp; omega) (by rw [hz2]; simp; omega) (by omega)
  rw [hz1] at hr
  simp only [Int.toNat_natCast, made95] at hr
  exact hr
set_option maxRecDepth 100000 in
set_option maxHeartbeats 8000000 in
theorem ports_any {w : World} {BI n ci nl cl gN c3 : Nat} {pi pl : Option Addr} {ids : List Int} {L : List Lk} {N : List Nd}
    (hI : WV w BI 1 pi n ci (idc ids)) (hL : LSl w.heap.size w pl cl L) (hnl : L.length = nl) (hl : nl ≤ 50) (hok : GOk ids n (sidesOf L)) (hN : Row w gN c3 N) (hlenN : N.length = n) (hcost : ∀ x ∈ N, 0 ≤ x.c ∧ x.c ≤ 458745) (hpi : ∀ g off, pi = some ⟨g, off, Option.none⟩ → g ≠ gN) :
    Calls Try.prog 24 #[.agg #[.slice pi n ci, .slice pl nl cl], .slice (some ⟨gN, 0, Option.none⟩) n c3] w fun e w' => (∃ v, e = .returned v) ∧ Row w' gN c3 (ported (portOf ids N (sidesOf L)) n N) ∧ Keeps (At gN) w w' := by
  have hn8 := hok.n8
  have hlen : ids.length = n := hok.len
  have hncc : n ≤ c3 := by obtain ⟨cur, _, _, _, h, _⟩ := hN; omega
  refine (callsIn_wide (n := 9)).1 ?_
  refine callsIn_of_wp_marks Try.func24 rfl trivial ?_ rfl
  simp only [Try.ntmps24, List.size_toArray, List.length_cons, List.length_nil, Nat.reduceAdd, Nat.reduceSub, Array.replicate_succ, Array.replicate_zero, List.push_toArray, List.append_toArray, List.nil_append, List.cons_append]
  have MK := make95 n hn8
  gi_wp2_with (refine ⟨trivial, ?_⟩; gi_at_call 25; refine (sides_in Fence.wide _ trivial rfl _ _ _).mono ?_; rintro e w' ⟨rfl, rfl⟩)
  obtain ⟨W2, hW2⟩ : ∃ W2, (((((w.alloc (.cells #[.slice pi n ci, .slice pl nl cl] 51 (0, 0))).alloc (.cells #[.slice (some ⟨gN, 0, Option.none⟩) n c3] 26 (0, 0))).alloc (.cells (Array.replicate n (Value.slice Option.none 0 0)) 96 (0, 0))).alloc (.cells #[.slice (some ⟨w.heap.size + 1 + 1, 0, Option.none⟩) n n] 95 (0, 0))).alloc (.cells #[.slice pi n ci, .slice pl nl cl] 51 (0, 0))) = W2 := ⟨_, rfl⟩
  have hb0 : W2.heap[w.heap.size]? = some (.cells #[.slice pi n ci, .slice pl nl cl] 51 (0, 0)) := by rw [← hW2]; exact alloc_other (alloc_other (alloc_other (alloc_other (alloc_block _ _) _) _) _) _
  have hb1 : W2.heap[w.heap.size + 1]? = some (.cells #[.slice (some ⟨gN, 0, Option.none⟩) n c3] 26 (0, 0)) := by
    rw [← hW2]; refine alloc_other (alloc_other (alloc_other ?_ _) _) _
    have := alloc_block (w.alloc (.cells #[.slice pi n ci, .slice pl nl cl] 51 (0, 0))) (.cells #[.slice (some ⟨gN, 0, Option.none⟩) n c3] 26 (0, 0))
    simpa using this
  have hb2 : W2.heap[w.heap.size + 1 + 1]? = some (.cells (Array.replicate n (Value.slice Option.none 0 0)) 96 (0, 0)) := by
    rw [← hW2]; refine alloc_other (alloc_other ?_ _) _
    have := alloc_block ((w.alloc (.cells #[.slice pi n ci, .slice pl nl cl] 51 (0, 0))).alloc (.cells #[.slice (some ⟨gN, 0, Option.none⟩) n c3] 26 (0, 0))) (.cells (Array.replicate n (Value.slice Option.none 0 0)) 96 (0, 0))
    simpa only [World.size_alloc] using this
  have hb3 : W2.heap[w.heap.size + 1 + 1 + 1]? = some (.cells #[.slice (some ⟨w.heap.size + 1 + 1, 0, Option.none⟩) n n] 95 (0, 0)) := by
    rw [← hW2]; refine alloc_other ?_ _
    have := alloc_block (((w.alloc (.cells #[.slice pi n ci, .slice pl nl cl] 51 (0, 0))).alloc (.cells #[.slice (some ⟨gN, 0, Option.none⟩) n c3] 26 (0, 0))).alloc (.cells (Array.replicate n (Value.slice Option.none 0 0)) 96 (0, 0))) (.cells #[.slice (some ⟨w.heap.size + 1 + 1, 0, Option.none⟩) n n] 95 (0, 0))
    simpa only [World.size_alloc] using this
  have hb4 : W2.heap[w.heap.size + 1 + 1 + 1 + 1]? = some (.cells #[.slice pi n ci, .slice pl nl cl] 51 (0, 0)) := by
    rw [← hW2]
    have := alloc_block ((((w.alloc (.cells #[.slice pi n ci, .slice pl nl cl] 51 (0, 0))).alloc (.cells #[.slice (some ⟨gN, 0, Option.none⟩) n c3] 26 (0, 0))).alloc (.cells (Array.replicate n (Value.slice Option.none 0 0)) 96 (0, 0))).alloc (.cells #[.slice (some ⟨w.heap.size + 1 + 1, 0, Option.none⟩) n n] 95 (0, 0))) (.cells #[.slice pi n ci, .slice pl nl cl] 51 (0, 0))
    simpa only [World.size_alloc] using this
  have k2 : Keeps Nil w W2 := by rw [← hW2]; exact (((((Keeps.refl Nil w).alloc _).alloc _).alloc _).alloc _).alloc _
  have hsz : w.heap.size + 1 + 1 + 1 + 1 + 1 ≤ W2.heap.size := by rw [← hW2]; simp
  rw [hW2]
  clear hW2
  obtain ⟨i0, hi, hz0, hz1, hz2⟩ := info_parts info41
  have hn0 : w.heap.size ≤ W2.heap.size := by omega
  have hcl := cellOf (i := 1) (v := .slice pl L.length cl) hb4 (by rw [hnl]; rfl)
  have hfam0 : Fam W2 (w.heap.size + 1 + 1) W2.heap.size n (fun _ => []) (List.replicate n (.slice Option.none 0 0)) := Fam.start hb2
  refine wpIn_rangeFunc_ownH rfl (by omega) (gf := 30) (lb := #[.pointer (some ⟨(w.heap.size + 1 + 1 + 1 + 1), 0, Option.none⟩)]) rfl trivial (enters_of Try.func30 (by kernel_rfl) rfl)
    (sides_stops Fence.wide _ trivial rfl (by omega) (w.heap.size + 1 + 1 + 1 + 1) w.heap.size cl pl L (by omega) W2 (by omega) hn0 hcl (hL.below (k2.below (fun _ _ e => e)) (Nat.le_refl _)))
    (fun h k => h.trans k) (K61.put hn0) (Below.refl _ _) (fun _ => rfl)
    (fun pre X => (∃ vs, Fam X (w.heap.size + 1 + 1) W2.heap.size n (offers ids N pre.unattach) vs) ∧ Keeps (At (w.heap.size + 1 + 1)) W2 X)
    (fun _ _ _ => False)
    ?hI (fun _ _ _ _ _ hs _ _ => hs) ⟨⟨_, hfam0⟩, Keeps.refl _ _⟩
    (fun x a' X => ∃ Bx, W2.heap.size ≤ Bx ∧ X.heap[Bx]? = some (.cells #[.int .i64 x.1.k, .int .i64 x.1.n.b, .int .u8 x.1.n.p, .int .u32 x.1.n.c, .int .i64 x.1.f.b, .int .u8 x.1.f.p, .int .u32 x.1.f.c] 86 (0, 0)) ∧ a' = { tmps := #[(.agg #[.slice pi n ci, .slice pl nl cl]), (.slice (some ⟨gN, 0, Option.none⟩) n c3), (.pointer (some ⟨w.heap.size, 0, Option.none⟩)), (.pointer (some ⟨w.heap.size + 1, 0, Option.none⟩)), (.pointer (some ⟨w.heap.size + 1 + 1 + 1, 0, Option.none⟩)), (.pointer (some ⟨Bx, 0, Option.none⟩)), undef, undef, undef, undef, undef, (.slice (some ⟨gN, 0, Option.none⟩) n c3), (.int .i64 (n : Int)), (.slice (some ⟨w.heap.size + 1 + 1, 0, Option.none⟩) n n), (.agg #[.slice pi n ci, .slice pl nl cl]), (.func (.func 30) #[] #[.pointer (some ⟨w.heap.size + 1 + 1 + 1 + 1, 0, Option.none⟩)]), (sdv x.1), undef, undef, undef, undef, undef, undef, undef, undef, undef, undef, undef, undef, undef, undef, undef, undef, undef, undef, undef, undef, undef, undef, undef, undef, undef, undef, undef, undef, undef, undef, undef, undef, undef, undef, undef, undef, undef, undef, undef, undef, undef, undef, undef, undef, undef, undef, undef, undef, undef, undef, undef, undef, undef, undef, undef, undef, undef], defers := [] })
    ?hAx ?assign ?body ?done ?stop
  case hI =>
    exact OwnFrom.and (fun s X Y row ⟨vs, hs⟩ hg hr => ⟨vs, Fam.own () X Y row hs hg (fun r e => (hr r e).2)⟩) (fun s => OwnFrom.keeps (Nat.le_refl _) ())
  case hAx =>
    intro x a' s X Y row ⟨Bx, h1, h2, h3⟩ hg hr
    refine ⟨Bx, h1, (hg.block Bx (lt_of_block h2) (fun e => ?_)).trans h2, h3⟩
    obtain ⟨_, o, ho, hc⟩ := hr Bx e.symm
    rw [h2] at ho; cases ho; cases hc
  case assign =>
    rintro l pre x X K hi hK
    gi_wp2
    exact hK _ _ ((KeepsOthers.alloc _ _).from _) ((K61.refl _ _).alloc (by have := hi.2.size; omega) _) ⟨by obtain ⟨vs, h⟩ := hi.1; exact ⟨vs, h.keep ((Keeps.refl Nil X).alloc _) (fun _ _ _ e _ => e.elim)⟩, hi.2.alloc _⟩
      ⟨X.heap.size, hi.2.size, alloc_block X _, rfl⟩
  case body =>
    rintro l pre x a' X hl0 hr0 ⟨⟨vs, hfam⟩, hkX⟩ ⟨Bx, hBx, hbx, rfl⟩ hlt
    have hsx := hok.side x.1 x.2
    obtain ⟨i, hi0⟩ : ∃ i : Nat, x.1.n.b = (i : Int) := ⟨x.1.n.b.toNat, by omega⟩
    obtain ⟨j, hj0⟩ : ∃ j : Nat, x.1.f.b = (j : Int) := ⟨x.1.f.b.toNat, by omega⟩
    obtain ⟨fd, hfd⟩ : ∃ fd, N[j]? = some fd := ⟨_, List.getElem?_eq_getElem (by omega)⟩
    obtain ⟨d, hd⟩ : ∃ d, ids[j]? = some d := ⟨_, List.getElem?_eq_getElem (by omega)⟩
    obtain ⟨v, hv⟩ : ∃ v, vs[i]? = some v := ⟨_, List.getElem?_eq_getElem (by have := hfam.len; omega)⟩
    have hvf : valOf N x.1.f.b = (fd.r, fd.c) := by rw [hj0]; exact valOf_at hfd
    have hcst := hcost fd (List.mem_of_getElem? hfd)
    have kXw : Keeps Nil w X := k2.trans' hkX (fun x hx e => by have : x = (w.heap.size + 1 + 1) := e; omega)
    have hWVX : WV X 0 3 (some ⟨gN, 0, Option.none⟩) n c3 (flatN N) := by have := WV.of_own ((hN.keep kXw (fun e => e)).own (Nat.zero_le gN)); rw [hlenN] at this; exact this
    have PAH := hid (path_any (.slice pl nl cl) x.1 (hI.keepN kXw) hWVX hj0 hfd hd (by omega) (by omega) hcst.1 hcst.2 hsx.2.2.1.1 hsx.2.2.1.2)
    clear hWVX
    have hpv : pv ids N x.1 = (fd.r, fd.c + x.1.n.c, d, x.1.f.p, x.1.n.p) := by
      unfold pv; rw [hvf, hj0]; simp [idOf, hd]
    have HOFS := hid (offers_snoc ids N pre.unattach x.1 hi0)
    rw [hpv] at HOFS
    have HSN := hid (show (pre ++ [x]).unattach = pre.unattach ++ [x.1] by rw [List.unattach_append]; rfl)
    have hbA : X.heap[w.heap.size]? = some (.cells #[.slice pi n ci, .slice pl nl cl] 51 (0, 0)) := (hkX.block _ (by omega) (fun e => by have : w.heap.size = (w.heap.size + 1 + 1) := e; omega)).trans hb0
    have hbN : X.heap[(w.heap.size + 1)]? = some (.cells #[(.slice (some ⟨gN, 0, Option.none⟩) n c3)] 26 (0, 0)) := (hkX.block _ (by omega) (fun e => by have : (w.heap.size + 1) = (w.heap.size + 1 + 1) := e; omega)).trans hb1
    have hbB : X.heap[(w.heap.size + 1 + 1 + 1)]? = some (.cells #[.slice (some ⟨(w.heap.size + 1 + 1), 0, Option.none⟩) n n] 95 (0, 0)) := (hkX.block _ (by omega) (fun e => by have : (w.heap.size + 1 + 1 + 1) = (w.heap.size + 1 + 1) := e; omega)).trans hb3
    have hXs : w.heap.size < X.heap.size := lt_of_block hbA
    have hXs1 : w.heap.size + 1 < X.heap.size := lt_of_block hbN
    have hXs2 : Bx < X.heap.size := lt_of_block hbx
    obtain ⟨⟨sk, ⟨nb, np, nc⟩, ⟨fb, fp, fc⟩⟩, hsmem⟩ := x
    obtain ⟨fr, fcst, fq⟩ := fd
    dsimp only at *
    subst hi0 hj0
    have eA0 := cellOf (i := 0) (v := .slice pi n ci) hbA rfl
    have eA1 := cellOf (i := 1) (v := .slice pl nl cl) hbA rfl
    have eO := cellOf (i := 0) (v := (.slice (some ⟨gN, 0, Option.none⟩) n c3)) hbN rfl
    have eS0 := cellOf (i := 0) (v := .int .i64 sk) hbx rfl
    have eS1 := cellOf (i := 1) (v := .int .i64 (i : Int)) hbx rfl
    have eS2 := cellOf (i := 2) (v := .int .u8 np) hbx rfl
    have eS3 := cellOf (i := 3) (v := .int .u32 nc) hbx rfl
    have eS4 := cellOf (i := 4) (v := .int .i64 (j : Int)) hbx rfl
    have eS5 := cellOf (i := 5) (v := .int .u8 fp) hbx rfl
    have eS6 := cellOf (i := 6) (v := .int .u32 fc) hbx rfl
    have hin : i < n := by omega
    have HBX := hid hbx
    have HBB := hid hbB
    have HFAM := hid hfam
    have HV := hid hv
    have HKX := hid hkX
    clear hvf hbA hbN hbB hbx hfd hd kXw hfam hv hpv
    gi_wp2_with (refine ⟨trivial, ?_⟩; gi_at_call 28; refine (CallsIn.inRound l (callsIn_wide.2 PAH.out)).mono ?_; rintro e w3 ⟨rfl, k3⟩; have K3 := hid k3; clear k3)
    have hb7 := alloc_block w3 (.cells #[.int .u64 fr, .int .u32 (fcst + nc), .int .u64 d, .int .u8 fp, .int .u8 np] 91 (0, 0))
    have K5 : Hid (Keeps Nil X (w3.alloc (.cells #[.int .u64 fr, .int .u32 (fcst + nc), .int .u64 d, .int .u8 fp, .int .u8 np] 91 (0, 0)))) := hid (K3.out.alloc _)
    have hX7 : X.heap.size ≤ w3.heap.size := K3.out.size
    obtain ⟨W5, hW5⟩ : ∃ W5, w3.alloc (.cells #[.int .u64 fr, .int .u32 (fcst + nc), .int .u64 d, .int .u8 fp, .int .u8 np] 91 (0, 0)) = W5 := ⟨_, rfl⟩
    rw [hW5] at hb7 K5 ⊢
    clear hW5 K3
    generalize w3.heap.size = B7 at *
    have hfam5 : Fam W5 (w.heap.size + 1 + 1) W2.heap.size n (offers ids N pre.unattach) vs := HFAM.out.keep K5.out (fun _ _ _ e _ => e.elim)
    have hrow5 := hfam5.row i v HV.out
    have hbb5 : W5.heap[(w.heap.size + 1 + 1 + 1)]? = some (.cells #[.slice (some ⟨(w.heap.size + 1 + 1), 0, Option.none⟩) n n] 95 (0, 0)) := (K5.out.block _ (lt_of_block HBB.out) (fun e => e)).trans HBB.out
    have hbx5 := (K5.out.block _ (lt_of_block HBX.out) (fun e => e)).trans HBX.out
    have hvb : ∀ k, v.ownBlock = some k → k < X.heap.size ∧ ∃ cs, W5.heap[k]? = some (.cells cs 91 (0, 0)) := fun k hk => by
      obtain ⟨_, cs, hc⟩ := own_block (HFAM.out.row i v HV.out) hk
      exact ⟨lt_of_block hc, cs, (K5.out.block _ (lt_of_block hc) (fun e => e)).trans hc⟩
    have HS7 := hid (show ∀ W', Keeps (fun k => k = (w.heap.size + 1 + 1) ∨ some k = v.ownBlock) W5 W' → (fun W => W.cell? ⟨(w.heap.size + 1 + 1 + 1), 0, Option.none⟩ = some (.slice (some ⟨(w.heap.size + 1 + 1), 0, Option.none⟩) n n) ∧ W.cell? ⟨Bx, 1, Option.none⟩ = some (.int .i64 (i : Int)) ∧ W.cell? ⟨B7, 0, Option.none⟩ = some (.int .u64 fr) ∧ W.cell? ⟨B7, 1, Option.none⟩ = some (.int .u32 (fcst + nc)) ∧ W.cell? ⟨B7, 2, Option.none⟩ = some (.int .u64 d) ∧ W.cell? ⟨B7, 3, Option.none⟩ = some (.int .u8 fp) ∧ W.cell? ⟨B7, 4, Option.none⟩ = some (.int .u8 np)) W' from fun W' k => by
      have c1 := (k.block _ (lt_of_block hbb5) (fun e => by
        rcases e with e | e
        · omega
        · obtain ⟨_, cs, hc⟩ := hvb _ e.symm; rw [hbb5] at hc; cases hc)).trans hbb5
      have c2 := (k.block _ (lt_of_block hbx5) (fun e => by
        rcases e with e | e
        · omega
        · obtain ⟨_, cs, hc⟩ := hvb _ e.symm; rw [hbx5] at hc; cases hc)).trans hbx5
      have c3 := (k.block _ (lt_of_block hb7) (fun e => by
        rcases e with e | e
        · omega
        · obtain ⟨h1, cs, hc⟩ := hvb _ e.symm; omega)).trans hb7
      exact ⟨cellOf c1 rfl, cellOf c2 rfl, cellOf c3 rfl, cellOf c3 rfl, cellOf c3 rfl, cellOf c3 rfl, cellOf c3 rfl⟩)
    have HE8 := hid (show ∀ W', Keeps (fun k => v.ownBlock = some k) W5 W' → W'.cell? ⟨(w.heap.size + 1 + 1), i, Option.none⟩ = some v ∧ W'.frozen? ⟨(w.heap.size + 1 + 1), i, Option.none⟩ = false from fun W' k => by
      have hbl : W5.heap[(w.heap.size + 1 + 1)]? = _ := hfam5.blk
      have hb := (k.block _ (lt_of_block hbl) (fun e => by obtain ⟨_, cs, hc⟩ := hvb _ e; rw [hbl] at hc; cases hc)).trans hbl
      refine ⟨cellOf hb (by simpa using HV.out), by simp [World.frozen?, hb]⟩)
    have hB5 : (w.heap.size + 1 + 1) < W5.heap.size := lt_of_block hfam5.blk
    have eV := (HE8.out W5 (Keeps.refl _ _)).1
    have hOl : (offers ids N pre.unattach i).length ≤ 1000000 := by
      have h1 : (offers ids N pre.unattach i).length ≤ pre.unattach.length := by simp only [offers, List.length_map]; exact List.length_filter_le _ _
      have h2 := sides_len L 0
      have h3 : (sidesOf L).length ≤ 2 * L.length := h2
      have h4 : pre.unattach.length = pre.length := List.length_unattach
      omega
    have HOWN6 := hid (ownsRow_keep hrow5 ((Keeps.refl Nil W5).alloc (.cells (pcells (fr, fcst + nc, d, fp, np)) 91 (0, 0))).drew (fun _ _ e => e))
    have HB6 := hid (show (W5.alloc (.cells (pcells (fr, fcst + nc, d, fp, np)) 91 (0, 0))).drew.heap[W5.heap.size]? = _ from alloc_block W5 (.cells (pcells (fr, fcst + nc, d, fp, np)) 91 (0, 0)))
    have kk0 : Keeps (fun k => k = (w.heap.size + 1 + 1) ∨ some k = v.ownBlock) W5 W5.drew := (Keeps.refl _ _).drew
    have s0 := HS7.out _ (Keeps.refl _ _)
    obtain ⟨q0, q1, q2, q3, q4, q5, q6⟩ := s0
    have HFAM5 := hid hfam5
    clear hfam5 hrow5 hbb5 hbx5 hb7 hvb
    refine region_round (S := (fun W => W.cell? ⟨(w.heap.size + 1 + 1 + 1), 0, Option.none⟩ = some (.slice (some ⟨(w.heap.size + 1 + 1), 0, Option.none⟩) n n) ∧ W.cell? ⟨Bx, 1, Option.none⟩ = some (.int .i64 (i : Int)) ∧ W.cell? ⟨B7, 0, Option.none⟩ = some (.int .u64 fr) ∧ W.cell? ⟨B7, 1, Option.none⟩ = some (.int .u32 (fcst + nc)) ∧ W.cell? ⟨B7, 2, Option.none⟩ = some (.int .u64 d) ∧ W.cell? ⟨B7, 3, Option.none⟩ = some (.int .u8 fp) ∧ W.cell? ⟨B7, 4, Option.none⟩ = some (.int .u8 np))) (by kernel_rfl) (by kernel_rfl) (by rintro ⟨a, w, h⟩; exact h) ?_ (fun hHeld => ?_)
    · (try dsimp only); exact HS7.out _ kk0
    refine wpAnyH_take (i := 0) (v := ?_) rfl (by kernel_rfl) (by kernel_rfl) (by kernel_rfl) (fun _ _ _ h => h) (Or.inl ⟨by rfl, ?_⟩) (by assumption) ?_
    rotate_left
    · (intro W hSw; (try dsimp only at hSw); go_simp <;> with_reducible rfl)
    try simp only [Act.put, List.setIfInBounds_toArray, List.set_cons_zero, List.set_cons_succ, List.getElem_toArray, List.getElem_cons_zero, List.getElem_cons_succ]
    refine wpAnyH_take (i := 1) (v := ?_) rfl (by kernel_rfl) (by kernel_rfl) (by kernel_rfl) (fun _ _ _ h => h) (Or.inl ⟨by rfl, ?_⟩) (by assumption) ?_
    rotate_left
    · (intro W hSw; (try dsimp only at hSw); go_simp <;> with_reducible rfl)
    try simp only [Act.put, List.setIfInBounds_toArray, List.set_cons_zero, List.set_cons_succ, List.getElem_toArray, List.getElem_cons_zero, List.getElem_cons_succ]
    refine wpAnyH_take (i := 2) (v := ?_) rfl (by kernel_rfl) (by kernel_rfl) (by kernel_rfl) (fun _ _ _ h => h) (Or.inl ⟨by rfl, ?_⟩) (by assumption) ?_
    rotate_left
    · (intro W hSw; (try dsimp only at hSw); go_simp <;> with_reducible rfl)
    try simp only [Act.put, List.setIfInBounds_toArray, List.set_cons_zero, List.set_cons_succ, List.getElem_toArray, List.getElem_cons_zero, List.getElem_cons_succ]
    refine wpAnyH_take (i := 3) (v := ?_) rfl (by kernel_rfl) (by kernel_rfl) (by kernel_rfl) (fun _ _ _ h => h) (Or.inl ⟨by rfl, ?_⟩) (by assumption) ?_
    rotate_left
    · (intro W hSw; (try dsimp only at hSw); go_simp <;> with_reducible rfl)
    try simp only [Act.put, List.setIfInBounds_toArray, List.set_cons_zero, List.set_cons_succ, List.getElem_toArray, List.getElem_cons_zero, List.getElem_cons_succ]
    refine wpAnyH_take (i := 4) (v := ?_) rfl (by kernel_rfl) (by kernel_rfl) (by kernel_rfl) (fun _ _ _ h => h) (Or.inl ⟨by rfl, ?_⟩) (by assumption) ?_
    rotate_left
    · (intro W hSw; (try dsimp only at hSw); go_simp <;> with_reducible rfl)
    try simp only [Act.put, List.setIfInBounds_toArray, List.set_cons_zero, List.set_cons_succ, List.getElem_toArray, List.getElem_cons_zero, List.getElem_cons_succ]
    refine wpAnyH_take (i := 5) (v := ?_) rfl (by kernel_rfl) (by kernel_rfl) (by kernel_rfl) (fun _ _ _ h => h) (Or.inl ⟨by rfl, ?_⟩) (by assumption) ?_
    rotate_left
    · (intro W hSw; (try dsimp only at hSw); go_simp <;> with_reducible rfl)
    try simp only [Act.put, List.setIfInBounds_toArray, List.set_cons_zero, List.set_cons_succ, List.getElem_toArray, List.getElem_cons_zero, List.getElem_cons_succ]
    refine wpAnyH_take (i := 6) (v := ?_) rfl (by kernel_rfl) (by kernel_rfl) (by kernel_rfl) (fun _ _ _ h => h) (Or.inl ⟨by rfl, ?_⟩) (by assumption) ?_
    rotate_left
    · (intro W hSw; (try dsimp only at hSw); go_simp <;> with_reducible rfl)
    try simp only [Act.put, List.setIfInBounds_toArray, List.set_cons_zero, List.set_cons_succ, List.getElem_toArray, List.getElem_cons_zero, List.getElem_cons_succ]
    refine wpAnyH_take (i := 7) (v := ?_) rfl (by kernel_rfl) (by kernel_rfl) (by kernel_rfl) (fun _ _ _ h => h) (Or.inl ⟨by rfl, ?_⟩) (by assumption) ?_
    rotate_left
    · (intro W hSw; (try dsimp only at hSw); go_simp <;> with_reducible rfl)
    try simp only [Act.put, List.setIfInBounds_toArray, List.set_cons_zero, List.set_cons_succ, List.getElem_toArray, List.getElem_cons_zero, List.getElem_cons_succ]
    refine wpAnyH_take (i := 8) (v := ?_) rfl (by kernel_rfl) (by kernel_rfl) (by kernel_rfl) (fun _ _ _ h => h) (Or.inl ⟨by rfl, ?_⟩) (by assumption) ?_
    rotate_left
    · (intro W hSw; (try dsimp only at hSw); go_simp <;> with_reducible rfl)
    try simp only [Act.put, List.setIfInBounds_toArray, List.set_cons_zero, List.set_cons_succ, List.getElem_toArray, List.getElem_cons_zero, List.getElem_cons_succ]
    refine wpAnyH_take (i := 10) (v := ?_) rfl (by kernel_rfl) (by kernel_rfl) (by kernel_rfl) (fun _ _ _ h => h) (Or.inl ⟨by rfl, ?_⟩) (by assumption) ?_
    rotate_left
    · (intro W hSw; (try dsimp only at hSw); go_simp <;> with_reducible rfl)
    try simp only [Act.put, List.setIfInBounds_toArray, List.set_cons_zero, List.set_cons_succ, List.getElem_toArray, List.getElem_cons_zero, List.getElem_cons_succ]
    refine wpAnyH_ready (rs := [9, 11]) (by kernel_rfl) (by simp) ?_
    refine AllReadyH.cons rfl (fun K hK => ?_) (AllReadyH.cons rfl (fun K hK => ?_) AllReadyH.nil)
    · try simp only [Act.put, List.setIfInBounds_toArray, List.set_cons_zero, List.set_cons_succ, List.getElem_toArray, List.getElem_cons_zero, List.getElem_cons_succ]
      go_simp
      refine hK.out _ _ ?_ (fun hHeld => ?_)
      · (try dsimp only); first | exact HS7.out _ kk0 | exact HS7.out _ ((Keeps.refl _ W5).alloc _).drew | exact HS7.out _ k8 | exact HS7.out _ (k8.setCell (p := ⟨_, _, Option.none⟩) (fun _ => .inl rfl) _)
      clear hK K
      try simp only [Act.put, List.setIfInBounds_toArray, List.set_cons_zero, List.set_cons_succ, List.getElem_toArray, List.getElem_cons_zero, List.getElem_cons_succ]
      refine wpAnyH_ready (rs := [11]) (by kernel_rfl) (by simp) ?_
      refine AllReadyH.cons rfl (fun K hK => ?_) AllReadyH.nil
      try simp only [Act.put, List.setIfInBounds_toArray, List.set_cons_zero, List.set_cons_succ, List.getElem_toArray, List.getElem_cons_zero, List.getElem_cons_succ]
      go_simp
      refine hK.out _ _ ?_ (fun hHeld => ?_)
      · (try dsimp only); first | exact HS7.out _ kk0 | exact HS7.out _ ((Keeps.refl _ W5).alloc _).drew | exact HS7.out _ k8 | exact HS7.out _ (k8.setCell (p := ⟨_, _, Option.none⟩) (fun _ => .inl rfl) _)
      clear hK K
      try simp only [Act.put, List.setIfInBounds_toArray, List.set_cons_zero, List.set_cons_succ, List.getElem_toArray, List.getElem_cons_zero, List.getElem_cons_succ]
      refine wpAnyH_ready (rs := [12]) (by kernel_rfl) (by simp) ?_
      refine AllReadyH.cons rfl (fun K hK => ?_) AllReadyH.nil
      try simp only [Act.put, List.setIfInBounds_toArray, List.set_cons_zero, List.set_cons_succ, List.getElem_toArray, List.getElem_cons_zero, List.getElem_cons_succ]
      rw [if_pos (by rfl)]
      refine wp_append_lies _ (.tmp 34) (.tmp 36) 96 ?_ W2.heap.size 91 i0 (pth (0, 0, 0, 0, 0)) 5 40 Try.underlying96 hi hz0 hz1 hz2 ?_ ?_ v (offers ids N pre.unattach i).length (pc (offers ids N pre.unattach i)) ?_ ?_ ⟨W5.heap.size, 0, Option.none⟩ 1 1 (pcells (fr, fcst + nc, d, fp, np)).toList ?_ ?_ ?_ ?_ ?_ ?_ ?_ ?_ _ rfl ?_
      · rfl
      · rfl
      · decide
      · rfl
      · exact HOWN6.out
      · rfl
      · rfl
      · exact World.news_of_block (cs := pcells (fr, fcst + nc, d, fp, np)) (t := 91) (fr := (0, 0)) HB6.out
      · simp [Value.oneCell']
      · decide
      · unfold maxLen; omega
      · omega
      · have := K5.out.size; have := HKX.out.size; simp; omega
      intro g2 cap2 w8 own8 hgrow8 hat8 hlt8
      have k8 : Keeps (fun k => k = (w.heap.size + 1 + 1) ∨ some k = v.ownBlock) W5 w8 := ((((Keeps.refl _ W5).alloc _).drew).grown hgrow8 (fun k e _ => .inr e.symm))
      have e8 := (HE8.out w8 (((Keeps.refl _ W5).alloc _).drew.grown hgrow8 (fun k e _ => e))).1
      have f8 := (HE8.out w8 (((Keeps.refl _ W5).alloc _).drew.grown hgrow8 (fun k e _ => e))).2
      refine hK.out _ _ ?_ (fun hHeld => ?_)
      · (try dsimp only); first | exact HS7.out _ kk0 | exact HS7.out _ ((Keeps.refl _ W5).alloc _).drew | exact HS7.out _ k8 | exact HS7.out _ (k8.setCell (p := ⟨_, _, Option.none⟩) (fun _ => .inl rfl) _)
      clear hK K
      try simp only [Act.put, List.setIfInBounds_toArray, List.set_cons_zero, List.set_cons_succ, List.getElem_toArray, List.getElem_cons_zero, List.getElem_cons_succ]
      refine wpAnyH_take (i := 13) (v := ?_) rfl (by kernel_rfl) (by kernel_rfl) (by kernel_rfl) (fun _ _ _ h => h) (Or.inl ⟨by rfl, ?_⟩) (by assumption) ?_
      rotate_left
      · (intro W hSw; (try dsimp only at hSw); go_simp <;> with_reducible rfl)
      try simp only [Act.put, List.setIfInBounds_toArray, List.set_cons_zero, List.set_cons_succ, List.getElem_toArray, List.getElem_cons_zero, List.getElem_cons_succ]
      refine wpAnyH_ready (rs := [14]) (by kernel_rfl) (by simp) ?_
      refine AllReadyH.cons rfl (fun K hK => ?_) AllReadyH.nil
      try simp only [Act.put, List.setIfInBounds_toArray, List.set_cons_zero, List.set_cons_succ, List.getElem_toArray, List.getElem_cons_zero, List.getElem_cons_succ]
      go_simp
      refine hK.out _ _ ?_ (fun hHeld => ?_)
      · (try dsimp only); first | exact HS7.out _ kk0 | exact HS7.out _ ((Keeps.refl _ W5).alloc _).drew | exact HS7.out _ k8 | exact HS7.out _ (k8.setCell (p := ⟨_, _, Option.none⟩) (fun _ => .inl rfl) _)
      clear hK K
      try simp only [Act.put, List.setIfInBounds_toArray, List.set_cons_zero, List.set_cons_succ, List.getElem_toArray, List.getElem_cons_zero, List.getElem_cons_succ]
      refine wpAnyH_done (by kernel_rfl) ?_ _
      gi_wp2
      have kS : Keeps (fun k => k = (w.heap.size + 1 + 1) ∨ some k = v.ownBlock) X (w8.setCell ⟨(w.heap.size + 1 + 1), i, Option.none⟩ (.slice (some ⟨g2, 0, Option.none⟩) ((offers ids N pre.unattach i).length + 1) cap2)) := K5.out.ofNil.trans (k8.setCell (p := ⟨_, _, Option.none⟩) (fun _ => .inl rfl) _)
      have hS : ∀ g, (g = (w.heap.size + 1 + 1) ∨ some g = v.ownBlock) → g < X.heap.size → w.heap.size ≤ g ∧ ∃ cs T fz, X.heap[g]? = some (.cells cs T fz) ∧ T ≠ 61 := fun g e _ => by
        rcases e with e | e
        · subst e; exact ⟨by omega, _, _, _, HFAM.out.blk, by decide⟩
        · obtain ⟨h1, cs, hc⟩ := own_block (HFAM.out.row i v HV.out) e.symm
          exact ⟨by omega, _, _, _, hc, by decide⟩
      refine ⟨kf_of kS (fun g e h => by obtain ⟨_, cs, T, fz, h1, _⟩ := hS g e h; exact ⟨cs, T, fz, h1⟩) _, k61_of kS (by omega) hS, ⟨_, Fam.step (x := (fr, fcst + nc, d, fp, np)) (tmp := .cells (pcells (fr, fcst + nc, d, fp, np)) 91 (0, 0)) HFAM5.out HV.out own8 ⟨hgrow8.os, hgrow8.tape, hgrow8.output, hgrow8.size, hgrow8.block⟩ (by rcases hat8 with h | h; exact .inl h; right; rw [h]; exact ((Keeps.refl Nil W5).alloc _).drew.size) (by rw [HSN.out]; exact HOFS.out.1) (by rw [HSN.out]; exact HOFS.out.2)⟩, HKX.out.trans' kS (fun x hx e => ?_)⟩
      rcases e with e | e
      · exact e
      · have := (own_block (HFAM.out.row i v HV.out) e.symm).1; omega
    · try simp only [Act.put, List.setIfInBounds_toArray, List.set_cons_zero, List.set_cons_succ, List.getElem_toArray, List.getElem_cons_zero, List.getElem_cons_succ]
      go_simp
      refine hK.out _ _ ?_ (fun hHeld => ?_)
      · (try dsimp only); first | exact HS7.out _ kk0 | exact HS7.out _ ((Keeps.refl _ W5).alloc _).drew | exact HS7.out _ k8 | exact HS7.out _ (k8.setCell (p := ⟨_, _, Option.none⟩) (fun _ => .inl rfl) _)
      clear hK K
      try simp only [Act.put, List.setIfInBounds_toArray, List.set_cons_zero, List.set_cons_succ, List.getElem_toArray, List.getElem_cons_zero, List.getElem_cons_succ]
      refine wpAnyH_ready (rs := [9]) (by kernel_rfl) (by simp) ?_
      refine AllReadyH.cons rfl (fun K hK => ?_) AllReadyH.nil
      try simp only [Act.put, List.setIfInBounds_toArray, List.set_cons_zero, List.set_cons_succ, List.getElem_toArray, List.getElem_cons_zero, List.getElem_cons_succ]
      go_simp
      refine hK.out _ _ ?_ (fun hHeld => ?_)
      · (try dsimp only); first | exact HS7.out _ kk0 | exact HS7.out _ ((Keeps.refl _ W5).alloc _).drew | exact HS7.out _ k8 | exact HS7.out _ (k8.setCell (p := ⟨_, _, Option.none⟩) (fun _ => .inl rfl) _)
      clear hK K
      try simp only [Act.put, List.setIfInBounds_toArray, List.set_cons_zero, List.set_cons_succ, List.getElem_toArray, List.getElem_cons_zero, List.getElem_cons_succ]
      refine wpAnyH_ready (rs := [12]) (by kernel_rfl) (by simp) ?_
      refine AllReadyH.cons rfl (fun K hK => ?_) AllReadyH.nil
      try simp only [Act.put, List.setIfInBounds_toArray, List.set_cons_zero, List.set_cons_succ, List.getElem_toArray, List.getElem_cons_zero, List.getElem_cons_succ]
      rw [if_pos (by rfl)]
      refine wp_append_lies _ (.tmp 34) (.tmp 36) 96 ?_ W2.heap.size 91 i0 (pth (0, 0, 0, 0, 0)) 5 40 Try.underlying96 hi hz0 hz1 hz2 ?_ ?_ v (offers ids N pre.unattach i).length (pc (offers ids N pre.unattach i)) ?_ ?_ ⟨W5.heap.size, 0, Option.none⟩ 1 1 (pcells (fr, fcst + nc, d, fp, np)).toList ?_ ?_ ?_ ?_ ?_ ?_ ?_ ?_ _ rfl ?_
      · rfl
      · rfl
      · decide
      · rfl
      · exact HOWN6.out
      · rfl
      · rfl
      · exact World.news_of_block (cs := pcells (fr, fcst + nc, d, fp, np)) (t := 91) (fr := (0, 0)) HB6.out
      · simp [Value.oneCell']
      · decide
      · unfold maxLen; omega
      · omega
      · have := K5.out.size; have := HKX.out.size; simp; omega
      intro g2 cap2 w8 own8 hgrow8 hat8 hlt8
      have k8 : Keeps (fun k => k = (w.heap.size + 1 + 1) ∨ some k = v.ownBlock) W5 w8 := ((((Keeps.refl _ W5).alloc _).drew).grown hgrow8 (fun k e _ => .inr e.symm))
      have e8 := (HE8.out w8 (((Keeps.refl _ W5).alloc _).drew.grown hgrow8 (fun k e _ => e))).1
      have f8 := (HE8.out w8 (((Keeps.refl _ W5).alloc _).drew.grown hgrow8 (fun k e _ => e))).2
      refine hK.out _ _ ?_ (fun hHeld => ?_)
      · (try dsimp only); first | exact HS7.out _ kk0 | exact HS7.out _ ((Keeps.refl _ W5).alloc _).drew | exact HS7.out _ k8 | exact HS7.out _ (k8.setCell (p := ⟨_, _, Option.none⟩) (fun _ => .inl rfl) _)
      clear hK K
      try simp only [Act.put, List.setIfInBounds_toArray, List.set_cons_zero, List.set_cons_succ, List.getElem_toArray, List.getElem_cons_zero, List.getElem_cons_succ]
      refine wpAnyH_take (i := 13) (v := ?_) rfl (by kernel_rfl) (by kernel_rfl) (by kernel_rfl) (fun _ _ _ h => h) (Or.inl ⟨by rfl, ?_⟩) (by assumption) ?_
      rotate_left
      · (intro W hSw; (try dsimp only at hSw); go_simp <;> with_reducible rfl)
      try simp only [Act.put, List.setIfInBounds_toArray, List.set_cons_zero, List.set_cons_succ, List.getElem_toArray, List.getElem_cons_zero, List.getElem_cons_succ]
      refine wpAnyH_ready (rs := [14]) (by kernel_rfl) (by simp) ?_
      refine AllReadyH.cons rfl (fun K hK => ?_) AllReadyH.nil
      try simp only [Act.put, List.setIfInBounds_toArray, List.set_cons_zero, List.set_cons_succ, List.getElem_toArray, List.getElem_cons_zero, List.getElem_cons_succ]
      go_simp
      refine hK.out _ _ ?_ (fun hHeld => ?_)
      · (try dsimp only); first | exact HS7.out _ kk0 | exact HS7.out _ ((Keeps.refl _ W5).alloc _).drew | exact HS7.out _ k8 | exact HS7.out _ (k8.setCell (p := ⟨_, _, Option.none⟩) (fun _ => .inl rfl) _)
      clear hK K
      try simp only [Act.put, List.setIfInBounds_toArray, List.set_cons_zero, List.set_cons_succ, List.getElem_toArray, List.getElem_cons_zero, List.getElem_cons_succ]
      refine wpAnyH_done (by kernel_rfl) ?_ _
      gi_wp2
      have kS : Keeps (fun k => k = (w.heap.size + 1 + 1) ∨ some k = v.ownBlock) X (w8.setCell ⟨(w.heap.size + 1 + 1), i, Option.none⟩ (.slice (some ⟨g2, 0, Option.none⟩) ((offers ids N pre.unattach i).length + 1) cap2)) := K5.out.ofNil.trans (k8.setCell (p := ⟨_, _, Option.none⟩) (fun _ => .inl rfl) _)
      have hS : ∀ g, (g = (w.heap.size + 1 + 1) ∨ some g = v.ownBlock) → g < X.heap.size → w.heap.size ≤ g ∧ ∃ cs T fz, X.heap[g]? = some (.cells cs T fz) ∧ T ≠ 61 := fun g e _ => by
        rcases e with e | e
        · subst e; exact ⟨by omega, _, _, _, HFAM.out.blk, by decide⟩
        · obtain ⟨h1, cs, hc⟩ := own_block (HFAM.out.row i v HV.out) e.symm
          exact ⟨by omega, _, _, _, hc, by decide⟩
      refine ⟨kf_of kS (fun g e h => by obtain ⟨_, cs, T, fz, h1, _⟩ := hS g e h; exact ⟨cs, T, fz, h1⟩) _, k61_of kS (by omega) hS, ⟨_, Fam.step (x := (fr, fcst + nc, d, fp, np)) (tmp := .cells (pcells (fr, fcst + nc, d, fp, np)) 91 (0, 0)) HFAM5.out HV.out own8 ⟨hgrow8.os, hgrow8.tape, hgrow8.output, hgrow8.size, hgrow8.block⟩ (by rcases hat8 with h | h; exact .inl h; right; rw [h]; exact ((Keeps.refl Nil W5).alloc _).drew.size) (by rw [HSN.out]; exact HOFS.out.1) (by rw [HSN.out]; exact HOFS.out.2)⟩, HKX.out.trans' kS (fun x hx e => ?_)⟩
      rcases e with e | e
      · exact e
      · have := (own_block (HFAM.out.row i v HV.out) e.symm).1; omega
  case done =>
    rintro D ys X hD rfl ⟨⟨vs, hfam⟩, hkX⟩ hDd
    rw [show (sidesT L).unattach = sidesOf L from List.unattach_attach] at hfam
    have hbA : X.heap[w.heap.size]? = some (.cells #[.slice pi n ci, .slice pl nl cl] 51 (0, 0)) := (hkX.block _ (by omega) (fun e => by have : w.heap.size = (w.heap.size + 1 + 1) := e; omega)).trans hb0
    have hbN : X.heap[(w.heap.size + 1)]? = some (.cells #[(.slice (some ⟨gN, 0, Option.none⟩) n c3)] 26 (0, 0)) := (hkX.block _ (by omega) (fun e => by have : (w.heap.size + 1) = (w.heap.size + 1 + 1) := e; omega)).trans hb1
    have hbB : X.heap[(w.heap.size + 1 + 1 + 1)]? = some (.cells #[.slice (some ⟨(w.heap.size + 1 + 1), 0, Option.none⟩) n n] 95 (0, 0)) := (hkX.block _ (by omega) (fun e => by have : (w.heap.size + 1 + 1 + 1) = (w.heap.size + 1 + 1) := e; omega)).trans hb3
    have kXw : Keeps Nil w X := k2.trans' hkX (fun x hx e => by have : x = (w.heap.size + 1 + 1) := e; omega)
    have hrow0 := hN.keep kXw (fun e => e)
    have eO := cellOf (i := 0) (v := (.slice (some ⟨gN, 0, Option.none⟩) n c3)) hbN rfl
    gi_wp2
    gi_loopw [41] (fun s wr => ∃ k : Nat, k ≤ n ∧ s = .int .i64 k ∧ Row wr gN c3 (ported (portOf ids N (sidesOf L)) k N) ∧ Keeps (At gN) X wr) (fun s _ => n - (intOf s).toNat)
    case atStart => exact ⟨0, Nat.zero_le _, rfl, by rw [ported_zero]; exact hrow0, Keeps.refl _ _⟩
    case round =>
      obtain ⟨k, hk, rfl, hrow, hkk⟩ := hrel
      by_cases hlt : k < n
      · obtain ⟨⟨xr, xc, xq⟩, hx⟩ : ∃ x, N[k]? = some x := ⟨_, List.getElem?_eq_getElem (by omega)⟩
        obtain ⟨d, hd⟩ : ∃ d, ids[k]? = some d := ⟨_, List.getElem?_eq_getElem (by omega)⟩
        obtain ⟨v, hv⟩ : ∃ v, vs[k]? = some v := ⟨_, List.getElem?_eq_getElem (by have := hfam.len; omega)⟩
        have hpx := ported_at (f := portOf ids N (sidesOf L)) hx
        have hps := ported_succ (f := portOf ids N (sidesOf L)) hx
        have hgN : gN < w.heap.size := hN.lt
        have kX : ∀ (b : Nat) (o : Obj), w.heap.size ≤ b → X.heap[b]? = some o → wr.heap[b]? = some o := fun b o hb h => (hkk.block b (lt_of_block h) (fun e => by have : b = gN := e; omega)).trans h
        have hwA := kX _ _ (Nat.le_refl _) hbA
        have hwN := kX _ _ (by omega) hbN
        have hwB := kX _ _ (by omega) hbB
        have hwF := kX _ _ (by omega) hfam.blk
        have hfr : Fam wr (w.heap.size + 1 + 1) W2.heap.size n (offers ids N (sidesOf L)) vs := hfam.keep hkk (fun g cs T e h => by
          have e : g = gN := e
          subst e
          obtain ⟨cur, hc, _⟩ := hrow0
          rw [hc] at h; cases h; decide)
        have hrv := hfr.row k v hv
        have eB := cellOf (i := 0) (v := .slice (some ⟨(w.heap.size + 1 + 1), 0, Option.none⟩) n n) hwB rfl
        have eV := cellOf (i := k) (v := v) hwF (by simpa using hv)
        have eN := cellOf (i := 0) (v := (.slice (some ⟨gN, 0, Option.none⟩) n c3)) hwN rfl
        have eG := cellOf (i := 0) (v := .slice pi n ci) hwA rfl
        obtain ⟨⟨n0, n1, n2⟩, nfz⟩ := hrow.read hpx
        obtain ⟨_, hcap, gi, oi, hpe, _, hgi, hid0⟩ := hI.id hd
        have hgne := hpi gi oi hpe
        subst hpe
        have hid1 := (hkk.cell (p := ⟨gi, oi + k, Option.none⟩) (Nat.lt_of_lt_of_le hgi kXw.size) (fun e => hgne e)).trans ((kXw.cell (p := ⟨gi, oi + k, Option.none⟩) hgi (fun e => e)).trans hid0)
        have HSS := hid (show ∀ W', Keeps Nil wr W' → (fun W => W.cell? ⟨(w.heap.size + 1), 0, Option.none⟩ = some (.slice (some ⟨gN, 0, Option.none⟩) n c3) ∧ W.cell? ⟨gN, k * 3, Option.none⟩ = some (.int .u64 xr) ∧ W.cell? ⟨w.heap.size, 0, Option.none⟩ = some (.slice (some ⟨gi, oi, Option.none⟩) n ci) ∧ W.cell? ⟨gi, oi + k, Option.none⟩ = some (.int .u64 d)) W' from fun W' kW => ⟨(kW.cell (p := ⟨w.heap.size + 1, 0, Option.none⟩) (lt_of_block hwN) (fun e => e)).trans eN, (kW.cell (p := ⟨gN, k * 3, Option.none⟩) hrow.lt (fun e => e)).trans n0, (kW.cell (p := ⟨w.heap.size, 0, Option.none⟩) (lt_of_block hwA) (fun e => e)).trans eG, (kW.cell (p := ⟨gi, oi + k, Option.none⟩) (Nat.lt_of_lt_of_le hgi (kXw.ofNil.trans hkk : Keeps (At gN) w wr).size) (fun e => e)).trans hid1⟩)
        have HPX := hid hpx
        have HPS := hid hps
        have HROW := hid hrow
        have HKK := hid hkk
        have hIDK : idOf ids (k : Int) = d := by simp [idOf, hd]
        have HPORT := hid (show portOf ids N (sidesOf L) k ⟨xr, xc, xq⟩ = (match offers ids N (sidesOf L) k with | [] => ⟨xr, xc, xq⟩ | p :: ps => if xr ≠ d then ⟨xr, xc, (best p ps).2.2.2.2⟩ else ⟨xr, xc, xq⟩) by unfold portOf; cases offers ids N (sidesOf L) k <;> simp [hIDK])
        have hBl := lt_of_block hwB
        have hNl := lt_of_block hwN
        have hFl := lt_of_block hwF
        have hol : (offers ids N (sidesOf L) k).length ≤ 100 := by
          have h1 : (offers ids N (sidesOf L) k).length ≤ (sidesOf L).length := by simp only [offers, List.length_map]; exact List.length_filter_le _ _
          have h3 : (sidesOf L).length ≤ 2 * L.length := sides_len L 0
          omega
        have hncap : n ≤ c3 := hncc
        cases hof : offers ids N (sidesOf L) k with
        | nil =>
          rw [hof] at hrv HPORT
          obtain ⟨pv0, cv, rfl⟩ := own_shape hrv
          have LN := hid (least_none (w := wr) pv0 cv)
          rw [show ([] : List Pth).length = 0 from rfl] at eV
          dsimp only [List.length_nil] at *
          clear hrv hfr hwA hwN hwB hwF hpx hps hrow hkk hx hd hv hid1 hIDK eG n0 n1 n2 hof
          gi_wp2_with (refine ⟨trivial, ?_⟩; gi_at_call 29; refine (callsIn_wide.2 LN.out).mono ?_; rintro e w3 ⟨rfl, k3⟩; have K3 := hid k3; clear k3)
          have K5 : Hid (Keeps Nil wr (w3.alloc (.cells (pcells (0, 0, 0, 0, 0)) 91 (0, 0)))) := hid (K3.out.alloc _)
          generalize w3.alloc (.cells (pcells (0, 0, 0, 0, 0)) 91 (0, 0)) = W5 at *
          refine wpIn_wide.2 (wp_region_noPanic ?_)
          refine wp_region_held_drew (S := (fun _ => True)) (by kernel_rfl) ?_ (fun hHeld => ?_)
          · trivial
          refine wpAnyH_take (i := 0) (v := ?_) rfl (by kernel_rfl) (by kernel_rfl) (by kernel_rfl) (fun _ _ _ h => h) (Or.inl ⟨by rfl, ?_⟩) (by assumption) ?_
          rotate_left
          · (intro W hSw; (try dsimp only at hSw); go_simp <;> with_reducible rfl)
          try simp only [Act.put, List.setIfInBounds_toArray, List.set_cons_zero, List.set_cons_succ, List.getElem_toArray, List.getElem_cons_zero, List.getElem_cons_succ]
          refine wpAnyH_take (i := 1) (v := ?_) rfl (by kernel_rfl) (by kernel_rfl) (by kernel_rfl) (fun _ _ _ h => h) (Or.inl ⟨by rfl, ?_⟩) (by assumption) ?_
          rotate_left
          · (intro W hSw; (try dsimp only at hSw); go_simp <;> with_reducible rfl)
          try simp only [Act.put, List.setIfInBounds_toArray, List.set_cons_zero, List.set_cons_succ, List.getElem_toArray, List.getElem_cons_zero, List.getElem_cons_succ]
          refine wpAnyH_take (i := 2) (v := undef) rfl (by kernel_rfl) (by kernel_rfl) (by kernel_rfl) (fun _ _ _ h => h) (Or.inr ⟨by rfl, rfl⟩) (by assumption) ?_
          try simp only [Act.put, List.setIfInBounds_toArray, List.set_cons_zero, List.set_cons_succ, List.getElem_toArray, List.getElem_cons_zero, List.getElem_cons_succ]
          refine wpAnyH_take (i := 3) (v := undef) rfl (by kernel_rfl) (by kernel_rfl) (by kernel_rfl) (fun _ _ _ h => h) (Or.inr ⟨by rfl, rfl⟩) (by assumption) ?_
          try simp only [Act.put, List.setIfInBounds_toArray, List.set_cons_zero, List.set_cons_succ, List.getElem_toArray, List.getElem_cons_zero, List.getElem_cons_succ]
          refine wpAnyH_take (i := 4) (v := undef) rfl (by kernel_rfl) (by kernel_rfl) (by kernel_rfl) (fun _ _ _ h => h) (Or.inr ⟨by rfl, rfl⟩) (by assumption) ?_
          try simp only [Act.put, List.setIfInBounds_toArray, List.set_cons_zero, List.set_cons_succ, List.getElem_toArray, List.getElem_cons_zero, List.getElem_cons_succ]
          refine wpAnyH_take (i := 5) (v := undef) rfl (by kernel_rfl) (by kernel_rfl) (by kernel_rfl) (fun _ _ _ h => h) (Or.inr ⟨by rfl, rfl⟩) (by assumption) ?_
          try simp only [Act.put, List.setIfInBounds_toArray, List.set_cons_zero, List.set_cons_succ, List.getElem_toArray, List.getElem_cons_zero, List.getElem_cons_succ]
          refine wpAnyH_take (i := 6) (v := undef) rfl (by kernel_rfl) (by kernel_rfl) (by kernel_rfl) (fun _ _ _ h => h) (Or.inr ⟨by rfl, rfl⟩) (by assumption) ?_
          try simp only [Act.put, List.setIfInBounds_toArray, List.set_cons_zero, List.set_cons_succ, List.getElem_toArray, List.getElem_cons_zero, List.getElem_cons_succ]
          refine wpAnyH_take (i := 7) (v := undef) rfl (by kernel_rfl) (by kernel_rfl) (by kernel_rfl) (fun _ _ _ h => h) (Or.inr ⟨by rfl, rfl⟩) (by assumption) ?_
          try simp only [Act.put, List.setIfInBounds_toArray, List.set_cons_zero, List.set_cons_succ, List.getElem_toArray, List.getElem_cons_zero, List.getElem_cons_succ]
          refine wpAnyH_take (i := 8) (v := undef) rfl (by kernel_rfl) (by kernel_rfl) (by kernel_rfl) (fun _ _ _ h => h) (Or.inr ⟨by rfl, rfl⟩) (by assumption) ?_
          try simp only [Act.put, List.setIfInBounds_toArray, List.set_cons_zero, List.set_cons_succ, List.getElem_toArray, List.getElem_cons_zero, List.getElem_cons_succ]
          refine wpAnyH_take (i := 9) (v := undef) rfl (by kernel_rfl) (by kernel_rfl) (by kernel_rfl) (fun _ _ _ h => h) (Or.inr ⟨by rfl, rfl⟩) (by assumption) ?_
          try simp only [Act.put, List.setIfInBounds_toArray, List.set_cons_zero, List.set_cons_succ, List.getElem_toArray, List.getElem_cons_zero, List.getElem_cons_succ]
          refine wpAnyH_take (i := 10) (v := undef) rfl (by kernel_rfl) (by kernel_rfl) (by kernel_rfl) (fun _ _ _ h => h) (Or.inr ⟨by rfl, rfl⟩) (by assumption) ?_
          try simp only [Act.put, List.setIfInBounds_toArray, List.set_cons_zero, List.set_cons_succ, List.getElem_toArray, List.getElem_cons_zero, List.getElem_cons_succ]
          refine wpAnyH_take (i := 11) (v := undef) rfl (by kernel_rfl) (by kernel_rfl) (by kernel_rfl) (fun _ _ _ h => h) (Or.inr ⟨by rfl, rfl⟩) (by assumption) ?_
          try simp only [Act.put, List.setIfInBounds_toArray, List.set_cons_zero, List.set_cons_succ, List.getElem_toArray, List.getElem_cons_zero, List.getElem_cons_succ]
          refine wpAnyH_take (i := 12) (v := undef) rfl (by kernel_rfl) (by kernel_rfl) (by kernel_rfl) (fun _ _ _ h => h) (Or.inr ⟨by rfl, rfl⟩) (by assumption) ?_
          try simp only [Act.put, List.setIfInBounds_toArray, List.set_cons_zero, List.set_cons_succ, List.getElem_toArray, List.getElem_cons_zero, List.getElem_cons_succ]
          refine wpAnyH_take (i := 13) (v := ?_) rfl (by kernel_rfl) (by kernel_rfl) (by kernel_rfl) (fun _ _ _ h => h) (Or.inl ⟨by rfl, ?_⟩) (by assumption) ?_
          rotate_left
          · (intro W hSw; (try dsimp only at hSw); go_simp <;> with_reducible rfl)
          try simp only [Act.put, List.setIfInBounds_toArray, List.set_cons_zero, List.set_cons_succ, List.getElem_toArray, List.getElem_cons_zero, List.getElem_cons_succ]
          refine wpAnyH_done (by kernel_rfl) ?_ _
          refine NoPanic.normal ?_
          gi_wp2
          go_roundw
          case rel => exact ⟨k + 1, by omega, by simp, by rw [← HPS.out, HPORT.out, set_same HPX.out]; exact HROW.out.keep K5.out.drew (fun e => e), HKK.out.thenNil K5.out.drew⟩
          case measure => simp [intOf]; omega
        | cons p ps =>
          rw [hof] at hrv HPORT
          rcases hrv.2 with ⟨_, hz⟩ | ⟨g, cap, cur, hve, hg0, hgg, _⟩
          · simp at hz
          subst hve
          have LS := hid (least_some (w := wr) g cap p ps (lt_of_block hgg) (row_of_own hrv) (by rw [hof] at hol; simp at hol; omega))
          have hq : 0 ≤ (best p ps).2.2.2.2 ∧ (best p ps).2.2.2.2 < 8 := by
            have hm : best p ps ∈ offers ids N (sidesOf L) k := by rw [hof]; exact best_mem p ps
            obtain ⟨s, hs, he⟩ := List.mem_map.1 hm
            have := hok.side s (List.mem_filter.1 hs).1
            rw [← he]
            exact ⟨this.2.2.2.1.1, this.2.2.2.1.2⟩
          obtain ⟨⟨mr, mc, mb, mp, mi⟩, hbest⟩ : ∃ y, best p ps = y := ⟨_, rfl⟩
          rw [hbest] at LS hq
          dsimp only [List.length_cons] at *
          have hlen1 : ps.length + 1 ≤ 100 := by rw [hof] at hol; simpa using hol
          by_cases hxd : xr = d
          · subst hxd
            rw [if_neg (fun h => h rfl)] at HPORT
            clear hrv hfr hwA hwN hwB hwF hpx hps hrow hkk hx hd hv hid1 hIDK eG n0 n1 n2 hof hgg hbest hol
            gi_wp2_with (refine ⟨trivial, ?_⟩; gi_at_call 29; refine (callsIn_wide.2 LS.out).mono ?_; rintro e w3 ⟨rfl, k3⟩; have K3 := hid k3; clear k3)
            have K5 : Hid (Keeps Nil wr (w3.alloc (.cells (pcells (mr, mc, mb, mp, mi)) 91 (0, 0)))) := hid (K3.out.alloc _)
            generalize w3.alloc (.cells (pcells (mr, mc, mb, mp, mi)) 91 (0, 0)) = W5 at *
            obtain ⟨q0, q1, q2, q3⟩ := HSS.out W5 K5.out
            refine wpIn_wide.2 (wp_region_noPanic ?_)
            refine wp_region_held_drew (S := (fun W => W.cell? ⟨(w.heap.size + 1), 0, Option.none⟩ = some (.slice (some ⟨gN, 0, Option.none⟩) n c3) ∧ W.cell? ⟨gN, k * 3, Option.none⟩ = some (.int .u64 xr) ∧ W.cell? ⟨w.heap.size, 0, Option.none⟩ = some (.slice (some ⟨gi, oi, Option.none⟩) n ci) ∧ W.cell? ⟨gi, oi + k, Option.none⟩ = some (.int .u64 xr))) (by kernel_rfl) ?_ (fun hHeld => ?_)
            · (try dsimp only); exact ⟨q0, q1, q2, q3⟩
            refine wpAnyH_take (i := 0) (v := ?_) rfl (by kernel_rfl) (by kernel_rfl) (by kernel_rfl) (fun _ _ _ h => h) (Or.inl ⟨by rfl, ?_⟩) (by assumption) ?_
            rotate_left
            · (intro W hSw; (try dsimp only at hSw); go_simp <;> with_reducible rfl)
            try simp only [Act.put, List.setIfInBounds_toArray, List.set_cons_zero, List.set_cons_succ, List.getElem_toArray, List.getElem_cons_zero, List.getElem_cons_succ]
            refine wpAnyH_take (i := 1) (v := ?_) rfl (by kernel_rfl) (by kernel_rfl) (by kernel_rfl) (fun _ _ _ h => h) (Or.inl ⟨by rfl, ?_⟩) (by assumption) ?_
            rotate_left
            · (intro W hSw; (try dsimp only at hSw); go_simp <;> with_reducible rfl)
            try simp only [Act.put, List.setIfInBounds_toArray, List.set_cons_zero, List.set_cons_succ, List.getElem_toArray, List.getElem_cons_zero, List.getElem_cons_succ]
            refine wpAnyH_take (i := 2) (v := ?_) rfl (by kernel_rfl) (by kernel_rfl) (by kernel_rfl) (fun _ _ _ h => h) (Or.inl ⟨by rfl, ?_⟩) (by assumption) ?_
            rotate_left
            · (intro W hSw; (try dsimp only at hSw); go_simp <;> with_reducible rfl)
            try simp only [Act.put, List.setIfInBounds_toArray, List.set_cons_zero, List.set_cons_succ, List.getElem_toArray, List.getElem_cons_zero, List.getElem_cons_succ]
            refine wpAnyH_take (i := 3) (v := ?_) rfl (by kernel_rfl) (by kernel_rfl) (by kernel_rfl) (fun _ _ _ h => h) (Or.inl ⟨by rfl, ?_⟩) (by assumption) ?_
            rotate_left
            · (intro W hSw; (try dsimp only at hSw); go_simp <;> with_reducible rfl)
            try simp only [Act.put, List.setIfInBounds_toArray, List.set_cons_zero, List.set_cons_succ, List.getElem_toArray, List.getElem_cons_zero, List.getElem_cons_succ]
            refine wpAnyH_take (i := 4) (v := ?_) rfl (by kernel_rfl) (by kernel_rfl) (by kernel_rfl) (fun _ _ _ h => h) (Or.inl ⟨by rfl, ?_⟩) (by assumption) ?_
            rotate_left
            · (intro W hSw; (try dsimp only at hSw); go_simp <;> with_reducible rfl)
            try simp only [Act.put, List.setIfInBounds_toArray, List.set_cons_zero, List.set_cons_succ, List.getElem_toArray, List.getElem_cons_zero, List.getElem_cons_succ]
            refine wpAnyH_take (i := 5) (v := ?_) rfl (by kernel_rfl) (by kernel_rfl) (by kernel_rfl) (fun _ _ _ h => h) (Or.inl ⟨by rfl, ?_⟩) (by assumption) ?_
            rotate_left
            · (intro W hSw; (try dsimp only at hSw); go_simp <;> with_reducible rfl)
            try simp only [Act.put, List.setIfInBounds_toArray, List.set_cons_zero, List.set_cons_succ, List.getElem_toArray, List.getElem_cons_zero, List.getElem_cons_succ]
            refine wpAnyH_take (i := 6) (v := ?_) rfl (by kernel_rfl) (by kernel_rfl) (by kernel_rfl) (fun _ _ _ h => h) (Or.inl ⟨by rfl, ?_⟩) (by assumption) ?_
            rotate_left
            · (intro W hSw; (try dsimp only at hSw); go_simp <;> with_reducible rfl)
            try simp only [Act.put, List.setIfInBounds_toArray, List.set_cons_zero, List.set_cons_succ, List.getElem_toArray, List.getElem_cons_zero, List.getElem_cons_succ]
            refine wpAnyH_take (i := 7) (v := ?_) rfl (by kernel_rfl) (by kernel_rfl) (by kernel_rfl) (fun _ _ _ h => h) (Or.inl ⟨by rfl, ?_⟩) (by assumption) ?_
            rotate_left
            · (intro W hSw; (try dsimp only at hSw); go_simp <;> with_reducible rfl)
            try simp only [Act.put, List.setIfInBounds_toArray, List.set_cons_zero, List.set_cons_succ, List.getElem_toArray, List.getElem_cons_zero, List.getElem_cons_succ]
            refine wpAnyH_take (i := 8) (v := ?_) rfl (by kernel_rfl) (by kernel_rfl) (by kernel_rfl) (fun _ _ _ h => h) (Or.inl ⟨by rfl, ?_⟩) (by assumption) ?_
            rotate_left
            · (intro W hSw; (try dsimp only at hSw); go_simp <;> with_reducible rfl)
            try simp only [Act.put, List.setIfInBounds_toArray, List.set_cons_zero, List.set_cons_succ, List.getElem_toArray, List.getElem_cons_zero, List.getElem_cons_succ]
            refine wpAnyH_take (i := 9) (v := ?_) rfl (by kernel_rfl) (by kernel_rfl) (by kernel_rfl) (fun _ _ _ h => h) (Or.inl ⟨by rfl, ?_⟩) (by assumption) ?_
            rotate_left
            · (intro W hSw; (try dsimp only at hSw); go_simp <;> with_reducible rfl)
            try simp only [Act.put, List.setIfInBounds_toArray, List.set_cons_zero, List.set_cons_succ, List.getElem_toArray, List.getElem_cons_zero, List.getElem_cons_succ]
            refine wpAnyH_take (i := 10) (v := ?_) rfl (by kernel_rfl) (by kernel_rfl) (by kernel_rfl) (fun _ _ _ h => h) (Or.inl ⟨by rfl, ?_⟩) (by assumption) ?_
            rotate_left
            · (intro W hSw; (try dsimp only at hSw); go_simp <;> with_reducible rfl)
            try simp only [Act.put, List.setIfInBounds_toArray, List.set_cons_zero, List.set_cons_succ, List.getElem_toArray, List.getElem_cons_zero, List.getElem_cons_succ]
            refine wpAnyH_take (i := 11) (v := ?_) rfl (by kernel_rfl) (by kernel_rfl) (by kernel_rfl) (fun _ _ _ h => h) (Or.inl ⟨by rfl, ?_⟩) (by assumption) ?_
            rotate_left
            · (intro W hSw; (try dsimp only at hSw); go_simp <;> with_reducible rfl)
            try simp only [Act.put, List.setIfInBounds_toArray, List.set_cons_zero, List.set_cons_succ, List.getElem_toArray, List.getElem_cons_zero, List.getElem_cons_succ]
            refine wpAnyH_take (i := 12) (v := ?_) rfl (by kernel_rfl) (by kernel_rfl) (by kernel_rfl) (fun _ _ _ h => h) (Or.inl ⟨by rfl, ?_⟩) (by assumption) ?_
            rotate_left
            · (intro W hSw; (try dsimp only at hSw); go_simp <;> with_reducible rfl)
            try simp only [Act.put, List.setIfInBounds_toArray, List.set_cons_zero, List.set_cons_succ, List.getElem_toArray, List.getElem_cons_zero, List.getElem_cons_succ]
            refine wpAnyH_take (i := 13) (v := ?_) rfl (by kernel_rfl) (by kernel_rfl) (by kernel_rfl) (fun _ _ _ h => h) (Or.inl ⟨by rfl, ?_⟩) (by assumption) ?_
            rotate_left
            · (intro W hSw; (try dsimp only at hSw); go_simp <;> with_reducible rfl)
            try simp only [Act.put, List.setIfInBounds_toArray, List.set_cons_zero, List.set_cons_succ, List.getElem_toArray, List.getElem_cons_zero, List.getElem_cons_succ]
            refine wpAnyH_done (by kernel_rfl) ?_ _
            refine NoPanic.normal ?_
            gi_wp2
            go_roundw
            case rel => exact ⟨k + 1, by omega, by simp, by rw [← HPS.out, HPORT.out, set_same HPX.out]; exact HROW.out.keep K5.out.drew (fun e => e), HKK.out.thenNil K5.out.drew⟩
            case measure => simp [intOf]; omega
          · rw [if_pos hxd, hbest] at HPORT
            have hne : (xr != d) = true := by simp [hxd]
            clear hrv hfr hwA hwN hwB hwF hpx hps hrow hkk hx hd hv hid1 hIDK eG n0 n1 n2 hof hgg hbest hol
            gi_wp2_with (refine ⟨trivial, ?_⟩; gi_at_call 29; refine (callsIn_wide.2 LS.out).mono ?_; rintro e w3 ⟨rfl, k3⟩; have K3 := hid k3; clear k3)
            have K5 : Hid (Keeps Nil wr (w3.alloc (.cells (pcells (mr, mc, mb, mp, mi)) 91 (0, 0)))) := hid (K3.out.alloc _)
            have p4 := cellOf (i := 4) (v := .int .u8 mi) (alloc_block w3 (.cells (pcells (mr, mc, mb, mp, mi)) 91 (0, 0))) rfl
            generalize w3.alloc (.cells (pcells (mr, mc, mb, mp, mi)) 91 (0, 0)) = W5 at *
            obtain ⟨q0, q1, q2, q3⟩ := HSS.out W5 K5.out
            refine wpIn_wide.2 (wp_region_noPanic ?_)
            refine wp_region_held_drew (S := (fun W => W.cell? ⟨(w.heap.size + 1), 0, Option.none⟩ = some (.slice (some ⟨gN, 0, Option.none⟩) n c3) ∧ W.cell? ⟨gN, k * 3, Option.none⟩ = some (.int .u64 xr) ∧ W.cell? ⟨w.heap.size, 0, Option.none⟩ = some (.slice (some ⟨gi, oi, Option.none⟩) n ci) ∧ W.cell? ⟨gi, oi + k, Option.none⟩ = some (.int .u64 d))) (by kernel_rfl) ?_ (fun hHeld => ?_)
            · (try dsimp only); exact ⟨q0, q1, q2, q3⟩
            refine wpAnyH_take (i := 0) (v := ?_) rfl (by kernel_rfl) (by kernel_rfl) (by kernel_rfl) (fun _ _ _ h => h) (Or.inl ⟨by rfl, ?_⟩) (by assumption) ?_
            rotate_left
            · (intro W hSw; (try dsimp only at hSw); go_simp <;> with_reducible rfl)
            try simp only [Act.put, List.setIfInBounds_toArray, List.set_cons_zero, List.set_cons_succ, List.getElem_toArray, List.getElem_cons_zero, List.getElem_cons_succ]
            refine wpAnyH_take (i := 1) (v := ?_) rfl (by kernel_rfl) (by kernel_rfl) (by kernel_rfl) (fun _ _ _ h => h) (Or.inl ⟨by rfl, ?_⟩) (by assumption) ?_
            rotate_left
            · (intro W hSw; (try dsimp only at hSw); go_simp <;> with_reducible rfl)
            try simp only [Act.put, List.setIfInBounds_toArray, List.set_cons_zero, List.set_cons_succ, List.getElem_toArray, List.getElem_cons_zero, List.getElem_cons_succ]
            refine wpAnyH_take (i := 2) (v := ?_) rfl (by kernel_rfl) (by kernel_rfl) (by kernel_rfl) (fun _ _ _ h => h) (Or.inl ⟨by rfl, ?_⟩) (by assumption) ?_
            rotate_left
            · (intro W hSw; (try dsimp only at hSw); go_simp <;> with_reducible rfl)
            try simp only [Act.put, List.setIfInBounds_toArray, List.set_cons_zero, List.set_cons_succ, List.getElem_toArray, List.getElem_cons_zero, List.getElem_cons_succ]
            refine wpAnyH_take (i := 3) (v := ?_) rfl (by kernel_rfl) (by kernel_rfl) (by kernel_rfl) (fun _ _ _ h => h) (Or.inl ⟨by rfl, ?_⟩) (by assumption) ?_
            rotate_left
            · (intro W hSw; (try dsimp only at hSw); go_simp <;> with_reducible rfl)
            try simp only [Act.put, List.setIfInBounds_toArray, List.set_cons_zero, List.set_cons_succ, List.getElem_toArray, List.getElem_cons_zero, List.getElem_cons_succ]
            refine wpAnyH_take (i := 4) (v := ?_) rfl (by kernel_rfl) (by kernel_rfl) (by kernel_rfl) (fun _ _ _ h => h) (Or.inl ⟨by rfl, ?_⟩) (by assumption) ?_
            rotate_left
            · (intro W hSw; (try dsimp only at hSw); go_simp <;> with_reducible rfl)
            try simp only [Act.put, List.setIfInBounds_toArray, List.set_cons_zero, List.set_cons_succ, List.getElem_toArray, List.getElem_cons_zero, List.getElem_cons_succ]
            refine wpAnyH_take (i := 5) (v := ?_) rfl (by kernel_rfl) (by kernel_rfl) (by kernel_rfl) (fun _ _ _ h => h) (Or.inl ⟨by rfl, ?_⟩) (by assumption) ?_
            rotate_left
            · (intro W hSw; (try dsimp only at hSw); go_simp <;> with_reducible rfl)
            try simp only [Act.put, List.setIfInBounds_toArray, List.set_cons_zero, List.set_cons_succ, List.getElem_toArray, List.getElem_cons_zero, List.getElem_cons_succ]
            refine wpAnyH_take (i := 6) (v := ?_) rfl (by kernel_rfl) (by kernel_rfl) (by kernel_rfl) (fun _ _ _ h => h) (Or.inl ⟨by rfl, ?_⟩) (by assumption) ?_
            rotate_left
            · (intro W hSw; (try dsimp only at hSw); go_simp <;> with_reducible rfl)
            try simp only [Act.put, List.setIfInBounds_toArray, List.set_cons_zero, List.set_cons_succ, List.getElem_toArray, List.getElem_cons_zero, List.getElem_cons_succ]
            refine wpAnyH_take (i := 7) (v := ?_) rfl (by kernel_rfl) (by kernel_rfl) (by kernel_rfl) (fun _ _ _ h => h) (Or.inl ⟨by rfl, ?_⟩) (by assumption) ?_
            rotate_left
            · (intro W hSw; (try dsimp only at hSw); go_simp <;> with_reducible rfl)
            try simp only [Act.put, List.setIfInBounds_toArray, List.set_cons_zero, List.set_cons_succ, List.getElem_toArray, List.getElem_cons_zero, List.getElem_cons_succ]
            refine wpAnyH_take (i := 8) (v := ?_) rfl (by kernel_rfl) (by kernel_rfl) (by kernel_rfl) (fun _ _ _ h => h) (Or.inl ⟨by rfl, ?_⟩) (by assumption) ?_
            rotate_left
            · (intro W hSw; (try dsimp only at hSw); go_simp <;> with_reducible rfl)
            try simp only [Act.put, List.setIfInBounds_toArray, List.set_cons_zero, List.set_cons_succ, List.getElem_toArray, List.getElem_cons_zero, List.getElem_cons_succ]
            refine wpAnyH_take (i := 9) (v := ?_) rfl (by kernel_rfl) (by kernel_rfl) (by kernel_rfl) (fun _ _ _ h => h) (Or.inl ⟨by rfl, ?_⟩) (by assumption) ?_
            rotate_left
            · (intro W hSw; (try dsimp only at hSw); go_simp <;> with_reducible rfl)
            try simp only [Act.put, List.setIfInBounds_toArray, List.set_cons_zero, List.set_cons_succ, List.getElem_toArray, List.getElem_cons_zero, List.getElem_cons_succ]
            refine wpAnyH_take (i := 10) (v := ?_) rfl (by kernel_rfl) (by kernel_rfl) (by kernel_rfl) (fun _ _ _ h => h) (Or.inl ⟨by rfl, ?_⟩) (by assumption) ?_
            rotate_left
            · (intro W hSw; (try dsimp only at hSw); go_simp <;> with_reducible rfl)
            try simp only [Act.put, List.setIfInBounds_toArray, List.set_cons_zero, List.set_cons_succ, List.getElem_toArray, List.getElem_cons_zero, List.getElem_cons_succ]
            refine wpAnyH_take (i := 11) (v := ?_) rfl (by kernel_rfl) (by kernel_rfl) (by kernel_rfl) (fun _ _ _ h => h) (Or.inl ⟨by rfl, ?_⟩) (by assumption) ?_
            rotate_left
            · (intro W hSw; (try dsimp only at hSw); go_simp <;> with_reducible rfl)
            try simp only [Act.put, List.setIfInBounds_toArray, List.set_cons_zero, List.set_cons_succ, List.getElem_toArray, List.getElem_cons_zero, List.getElem_cons_succ]
            refine wpAnyH_take (i := 12) (v := ?_) rfl (by kernel_rfl) (by kernel_rfl) (by kernel_rfl) (fun _ _ _ h => h) (Or.inl ⟨by rfl, ?_⟩) (by assumption) ?_
            rotate_left
            · (intro W hSw; (try dsimp only at hSw); go_simp <;> with_reducible rfl)
            try simp only [Act.put, List.setIfInBounds_toArray, List.set_cons_zero, List.set_cons_succ, List.getElem_toArray, List.getElem_cons_zero, List.getElem_cons_succ]
            refine wpAnyH_take (i := 13) (v := ?_) rfl (by kernel_rfl) (by kernel_rfl) (by kernel_rfl) (fun _ _ _ h => h) (Or.inl ⟨by rfl, ?_⟩) (by assumption) ?_
            rotate_left
            · (intro W hSw; (try dsimp only at hSw); go_simp <;> with_reducible rfl)
            try simp only [Act.put, List.setIfInBounds_toArray, List.set_cons_zero, List.set_cons_succ, List.getElem_toArray, List.getElem_cons_zero, List.getElem_cons_succ]
            refine wpAnyH_done (by kernel_rfl) ?_ _
            refine NoPanic.normal ?_
            obtain ⟨⟨m0, m1, m2⟩, mfz⟩ := (HROW.out.keep K5.out.drew (fun e => e)).read HPX.out
            have mf := mfz (k * 3 + 2)
            gi_wp2
            go_roundw
            case rel =>
              have hr2 := (HROW.out.keep K5.out.drew (fun e => e)).set HPX.out (q := 2) (y := ⟨xr, xc, mi⟩) (v := .int .i64 mi) (by omega) rfl (by rintro (_ | _ | _ | q') h; rfl; rfl; exact absurd rfl h; rfl)
              exact ⟨k + 1, by omega, by simp, by rw [← HPS.out, HPORT.out]; exact hr2, (HKK.out.thenNil K5.out.drew).set gN _ rfl _⟩
            case measure => simp [intOf]; omega
      · obtain rfl : k = n := by omega
        gi_wp2
        refine (show LeavesInM Fence.wide 9 Try.prog Try.f24 _ _ _ .returning wr from ?_)
        have hmk : Marks w.heap.size [{ target := .collected D, args := #[] }] wr := ⟨[D], rfl, by simp, fun D' h => by
          simp at h; subst h
          exact ⟨by omega, (hkk.block D' (lt_of_block hDd) (fun e => by have e : D' = gN := e; subst e; obtain ⟨cur, hc, _⟩ := hrow0; rw [hc] at hDd; cases hDd)).trans hDd⟩⟩
        refine hmk.leave (I := fun Y => Row Y gN c3 (ported (portOf ids N (sidesOf L)) k N) ∧ Keeps (At gN) w Y) (fun s X Y row hs hg hr => ⟨Own.row () X Y row hs.1 hg (fun r e => (hr r e).2), OwnFrom.keeps (B := w.heap.size) (Nat.le_refl _) () X Y row hs.2 hg hr⟩) (fun Y hY => ?_) ⟨hrow, kXw.ofNil.trans hkk⟩
        exact ⟨_, results_none rfl _ _ _, ⟨_, rfl⟩, hY⟩
  case stop =>
    rintro D c pre X hD _ h _
    exact h.elim
end Go.Proofs.Ythnkeppkhdceoaa
