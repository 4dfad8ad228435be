/-
  The least path of a row: the program's (slices.MinFunc) and the document's. Condition: the row's cells hold the paths.
-/
import Derived.Test.YthnkeppkhdceoaaFar
namespace Go.Proofs.Ythnkeppkhdceoaa
set_option linter.unusedSimpArgs false
open Go.RowKit
set_option linter.unusedVariables false

/-- A path: root, cost, bridge, port; the port at which it was heard. -/
abbrev Pth := Int × Int × Int × Int × Int
abbrev pcells (x : Pth) : Array Value := #[.int .u64 x.1, .int .u32 x.2.1, .int .u64 x.2.2.1, .int .u8 x.2.2.2.1, .int .u8 x.2.2.2.2]
abbrev pth (x : Pth) : Value := .agg (pcells x)
def ordP (x y : Pth) : Int := firstOf [stand x.1 x.2.1 x.2.2.1 x.2.2.2.1 y.1 y.2.1 y.2.2.1 y.2.2.2.1, way x.2.2.2.2 y.2.2.2.2]
def best (m : Pth) : List Pth → Pth
  | [] => m
  | x :: l => best (if ordP x m < 0 then x else m) l

theorem two_cells' {w : World} {b : Nat} {x0 x1 : Int} (h0 : w.cell? ⟨b, 0, Option.none⟩ = some (.int .i64 x0)) (h1 : w.cell? ⟨b, 1, Option.none⟩ = some (.int .i64 x1)) :
    ∀ i (h : i < [x0, x1].length), w.cell? ⟨b, i, Option.none⟩ = some (.int .i64 [x0, x1][i])
  | 0, _ => h0
  | 1, _ => h1

/-- The cells of a block of five, and what keeps it. -/
theorem held5 {W1 W : World} (k : Keeps Nil W1 W) {b : Nat} {T : TypeId} {fz : Nat × Nat} {x : Pth} (h : W1.heap[b]? = some (.cells (pcells x) T fz)) :
    W.cell? ⟨b, 0, Option.none⟩ = some (.int .u64 x.1) ∧ W.cell? ⟨b, 1, Option.none⟩ = some (.int .u32 x.2.1) ∧ W.cell? ⟨b, 2, Option.none⟩ = some (.int .u64 x.2.2.1) ∧
    W.cell? ⟨b, 3, Option.none⟩ = some (.int .u8 x.2.2.2.1) ∧ W.cell? ⟨b, 4, Option.none⟩ = some (.int .u8 x.2.2.2.2) := by
  have h' := (k.block b (lt_of_block h) (fun e => e)).trans h
  simp [World.cell?, h', pcells]

/-- A path written over a block. -/
abbrev set5 (w : World) (b : Nat) (xr xc xb xp xi : Int) : World :=
  ((((w.setCell ⟨b, 0, Option.none⟩ (.int .u64 xr)).setCell ⟨b, 1, Option.none⟩ (.int .u32 xc)).setCell ⟨b, 2, Option.none⟩ (.int .u64 xb)).setCell ⟨b, 3, Option.none⟩ (.int .u8 xp)).setCell ⟨b, 4, Option.none⟩ (.int .u8 xi)
theorem set5_block {w : World} {b : Nat} {y : Pth} {T : TypeId} {fz : Nat × Nat} (h : w.heap[b]? = some (.cells (pcells y) T fz)) (xr xc xb xp xi : Int) : (set5 w b xr xc xb xp xi).heap[b]? = some (.cells (pcells (xr, xc, xb, xp, xi)) T fz) :=
  setCell_block (setCell_block (setCell_block (setCell_block (setCell_block h 0 _) 1 _) 2 _) 3 _) 4 _
theorem set5_keeps {a w : World} (b : Nat) (h : Keeps Nil a w) (hb : a.heap.size ≤ b) (xr xc xb xp xi : Int) : Keeps Nil a (set5 w b xr xc xb xp xi) :=
  have hn : b < a.heap.size → Nil b := fun h => absurd h (by omega)
  ((((h.setCell (p := ⟨b, 0, Option.none⟩) hn _).setCell (p := ⟨b, 1, Option.none⟩) hn _).setCell (p := ⟨b, 2, Option.none⟩) hn _).setCell (p := ⟨b, 3, Option.none⟩) hn _).setCell (p := ⟨b, 4, Option.none⟩) hn _
theorem set5_other {w : World} {b c : Nat} (xr xc xb xp xi : Int) (h : c ≠ b) : (set5 w b xr xc xb xp xi).heap[c]? = w.heap[c]? := by
  have e : ∀ (W : World) (i : Nat) (v : Value), (W.setCell ⟨b, i, Option.none⟩ v).heap[c]? = W.heap[c]? := fun W i v => Below.heap_setCell _ _ _ _ h
  simp only [set5, e]
theorem set5_size (w : World) (b : Nat) (xr xc xb xp xi : Int) : (set5 w b xr xc xb xp xi).heap.size = w.heap.size := by simp [set5, World.setCell]

theorem free5 {w : World} {b : Nat} {c : Array Value} {T : TypeId} (h : w.heap[b]? = some (.cells c T (0, 0))) :
    w.frozen? ⟨b, 0, Option.none⟩ = false ∧ w.frozen? ⟨b, 1, Option.none⟩ = false ∧ w.frozen? ⟨b, 2, Option.none⟩ = false ∧ w.frozen? ⟨b, 3, Option.none⟩ = false ∧ w.frozen? ⟨b, 4, Option.none⟩ = false := by
  simp [World.frozen?, h]

set_option maxHeartbeats 3200000 in
theorem ord_any (r c b p i r' c' b' p' i' : Int) (w : World) :
    Calls Try.prog 33 #[pth (r, c, b, p, i), pth (r', c', b', p', i')] w fun e w' => e = .returned (.int .i64 (ordP (r, c, b, p, i) (r', c', b', p', i'))) ∧ Keeps Nil w w' := by
  have HS : ∀ W, Keeps Nil ((w.alloc (.cells (pcells (r, c, b, p, i)) 91)).alloc (.cells (pcells (r', c', b', p', i')) 91)).drew W →
      (W.cell? ⟨w.heap.size, 0, Option.none⟩ = some (.int .u64 r) ∧ W.cell? ⟨w.heap.size, 1, Option.none⟩ = some (.int .u32 c) ∧ W.cell? ⟨w.heap.size, 2, Option.none⟩ = some (.int .u64 b) ∧ W.cell? ⟨w.heap.size, 3, Option.none⟩ = some (.int .u8 p) ∧ W.cell? ⟨w.heap.size, 4, Option.none⟩ = some (.int .u8 i)) ∧
      (W.cell? ⟨w.heap.size + 1, 0, Option.none⟩ = some (.int .u64 r') ∧ W.cell? ⟨w.heap.size + 1, 1, Option.none⟩ = some (.int .u32 c') ∧ W.cell? ⟨w.heap.size + 1, 2, Option.none⟩ = some (.int .u64 b') ∧ W.cell? ⟨w.heap.size + 1, 3, Option.none⟩ = some (.int .u8 p') ∧ W.cell? ⟨w.heap.size + 1, 4, Option.none⟩ = some (.int .u8 i')) := by
    intro W k
    refine ⟨held5 (x := (r, c, b, p, i)) k (((Keeps.refl Nil (w.alloc _)).alloc _).block _ (by simp) (fun e => e) |>.trans (alloc_block w _)), held5 (x := (r', c', b', p', i')) (T := 91) (fz := (0, 0)) k (b := w.heap.size + 1) ?_⟩
    have := alloc_block (w.alloc (.cells (pcells (r, c, b, p, i)) 91)) (.cells (pcells (r', c', b', p', i')) 91)
    rw [show (w.alloc (.cells (pcells (r, c, b, p, i)) 91)).heap.size = w.heap.size + 1 from by simp] at this
    exact this
  have HS' := hid HS
  clear HS
  go_enter Try.func33, Try.ntmps33
  go_wp2_with fail
  go_region_held3 (fun w' => (w'.cell? ⟨w.heap.size, 0, Option.none⟩ = some (.int .u64 r) ∧ w'.cell? ⟨w.heap.size, 1, Option.none⟩ = some (.int .u32 c) ∧ w'.cell? ⟨w.heap.size, 2, Option.none⟩ = some (.int .u64 b) ∧ w'.cell? ⟨w.heap.size, 3, Option.none⟩ = some (.int .u8 p) ∧ w'.cell? ⟨w.heap.size, 4, Option.none⟩ = some (.int .u8 i)) ∧
      (w'.cell? ⟨w.heap.size + 1, 0, Option.none⟩ = some (.int .u64 r') ∧ w'.cell? ⟨w.heap.size + 1, 1, Option.none⟩ = some (.int .u32 c') ∧ w'.cell? ⟨w.heap.size + 1, 2, Option.none⟩ = some (.int .u64 b') ∧ w'.cell? ⟨w.heap.size + 1, 3, Option.none⟩ = some (.int .u8 p') ∧ w'.cell? ⟨w.heap.size + 1, 4, Option.none⟩ = some (.int .u8 i'))) (first | go_keep | exact HS'.out _ kk) ((first
    | (go_at_call 35; refine (compare_any _ _ _ _ _ _ _ _ _).mono ?_; rintro e w2 ⟨rfl, k2⟩; have kk := k2)
    | (go_at_call 36; refine (cmp8 _ _ _).mono ?_; rintro e w' ⟨rfl, rfl⟩)
    | (go_at_call 34; refine (first_any _ _ [stand r c b p r' c' b' p', way i i'] _ (two_cells' (by go_cell) (by go_cell)) (by simp)).mono ?_; rintro e w' ⟨rfl, rfl⟩)))
  all_goals go_wp2_with fail
  go_ret
  exact ⟨rfl, ((((Keeps.refl _ _).alloc _).alloc _).drew.thenNil k2).alloc _⟩

theorem two_allocs (w : World) (A B : Obj) : ((w.alloc A).alloc B).heap[w.heap.size]? = some A ∧ ((w.alloc A).alloc B).heap[w.heap.size + 1]? = some B := by
  refine ⟨(((Keeps.refl Nil (w.alloc A)).alloc B).block _ (by simp) (fun e => e)).trans (alloc_block w A), ?_⟩
  have := alloc_block (w.alloc A) B
  rw [show (w.alloc A).heap.size = w.heap.size + 1 from by simp] at this
  exact this

/-- Path number i of a row lies at its cells. -/
def Row5 (w : World) (b : Nat) (l : List Pth) : Prop :=
  ∀ i x, l[i]? = some x → w.cell? ⟨b, i * 5, Option.none⟩ = some (.int .u64 x.1) ∧ w.cell? ⟨b, i * 5 + 1, Option.none⟩ = some (.int .u32 x.2.1) ∧ w.cell? ⟨b, i * 5 + 2, Option.none⟩ = some (.int .u64 x.2.2.1) ∧
    w.cell? ⟨b, i * 5 + 3, Option.none⟩ = some (.int .u8 x.2.2.2.1) ∧ w.cell? ⟨b, i * 5 + 4, Option.none⟩ = some (.int .u8 x.2.2.2.2)

theorem Row5.keep {S : Nat → Prop} {w w' : World} {b : Nat} {l : List Pth} (h : Row5 w b l) (k : Keeps S w w') (hb : b < w.heap.size) (hS : ¬ S b) : Row5 w' b l := by
  intro i x hx
  obtain ⟨h0, h1, h2, h3, h4⟩ := h i x hx
  exact ⟨(k.cell (p := ⟨b, _, Option.none⟩) hb hS).trans h0, (k.cell (p := ⟨b, _, Option.none⟩) hb hS).trans h1, (k.cell (p := ⟨b, _, Option.none⟩) hb hS).trans h2, (k.cell (p := ⟨b, _, Option.none⟩) hb hS).trans h3, (k.cell (p := ⟨b, _, Option.none⟩) hb hS).trans h4⟩

set_option maxHeartbeats 3200000 in
theorem minfunc_any {w : World} (b cap : Nat) (x0 : Pth) (l : List Pth) (hb : b < w.heap.size) (hr : Row5 w b (x0 :: l)) (hl : l.length ≤ 100) :
    Calls Try.prog 32 #[.slice (some ⟨b, 0, Option.none⟩) (l.length + 1) cap, .func (.func 33) #[] #[]] w fun e w' => e = .returned (pth (best x0 l)) ∧ Keeps Nil w w' := by
  obtain ⟨h0, h1, h2, h3, h4⟩ := hr 0 x0 rfl
  simp only [Nat.zero_mul, Nat.zero_add] at h0 h1 h2 h3 h4
  have HR := hid hr
  clear hr
  go_enter Try.func32, Try.ntmps32
  go_wp2_with fail
  go_loopw [6] (fun v wr => ∃ k : Nat, 1 ≤ k ∧ k ≤ l.length + 1 ∧ v = .int .i64 k ∧ Keeps Nil w wr ∧ w.heap.size + 1 < wr.heap.size ∧ wr.heap[w.heap.size]? = some (.cells (pcells (0, 0, 0, 0, 0)) 91 (0, 0)) ∧
      ∃ m, wr.heap[w.heap.size + 1]? = some (.cells (pcells m) 91 (0, 0)) ∧ best x0 l = best m (l.drop (k - 1))) (fun v _ => l.length + 1 - (intOf v).toNat)
  case atStart => exact ⟨1, by omega, by omega, rfl, ((Keeps.refl _ _).alloc _).alloc _, by simp, (two_allocs w _ _).1, x0, (two_allocs w _ _).2, by simp [List.drop_zero]⟩
  case round =>
    obtain ⟨k, hk1, hk, rfl, hkeep, hsz, hb0, m, hm, hbest⟩ := hrel
    by_cases hlt : k < l.length + 1
    · obtain ⟨x, hx⟩ : ∃ x, (x0 :: l)[k]? = some x := ⟨_, List.getElem?_eq_getElem (by simpa using hlt)⟩
      obtain ⟨xr, xc, xb, xp, xi⟩ := x
      obtain ⟨mr, mc, mb, mp, mi⟩ := m
      have HS : ∀ w', Keeps Nil wr.drew w' → (w'.cell? ⟨b, k * 5, Option.none⟩ = some (.int .u64 xr) ∧ w'.cell? ⟨b, k * 5 + 1, Option.none⟩ = some (.int .u32 xc) ∧ w'.cell? ⟨b, k * 5 + 2, Option.none⟩ = some (.int .u64 xb) ∧ w'.cell? ⟨b, k * 5 + 3, Option.none⟩ = some (.int .u8 xp) ∧ w'.cell? ⟨b, k * 5 + 4, Option.none⟩ = some (.int .u8 xi)) ∧
        (w'.cell? ⟨w.heap.size + 1, 0, Option.none⟩ = some (.int .u64 mr) ∧ w'.cell? ⟨w.heap.size + 1, 1, Option.none⟩ = some (.int .u32 mc) ∧ w'.cell? ⟨w.heap.size + 1, 2, Option.none⟩ = some (.int .u64 mb) ∧ w'.cell? ⟨w.heap.size + 1, 3, Option.none⟩ = some (.int .u8 mp) ∧ w'.cell? ⟨w.heap.size + 1, 4, Option.none⟩ = some (.int .u8 mi)) :=
        fun W K => ⟨HR.out.keep (hkeep.drew.trans K) hb (fun e => e) k (xr, xc, xb, xp, xi) hx, held5 (x := (mr, mc, mb, mp, mi)) (T := 91) (fz := (0, 0)) K hm⟩
      have hxl : l[k - 1]? = some (xr, xc, xb, xp, xi) := by
        obtain ⟨j, rfl⟩ : ∃ j, k = j + 1 := ⟨k - 1, by omega⟩
        simpa using hx
      have hdrop : l.drop (k - 1) = (xr, xc, xb, xp, xi) :: l.drop k := by
        obtain ⟨j, rfl⟩ : ∃ j, k = j + 1 := ⟨k - 1, by omega⟩
        have hj : j < l.length := by omega
        rw [Nat.add_sub_cancel, List.drop_eq_getElem_cons hj]
        rw [Nat.add_sub_cancel, List.getElem?_eq_getElem hj] at hxl
        rw [Option.some.inj hxl]
      rw [hdrop] at hbest
      obtain ⟨⟨c0, c1, c2, c3, c4⟩, c5, c6, c7, c8, c9⟩ := HS wr.drew (Keeps.refl _ _)
      replace c0 : wr.cell? _ = _ := c0
      have HS' := hid HS
      have HM := hid hm
      have HB := hid hb0
      have HX := hid hx
      have HXL := hid hxl
      have HD := hid hdrop
      clear hm hb0 HS hx hxl hdrop h0 h1 h2 h3 h4
      by_cases hord : ordP (xr, xc, xb, xp, xi) (mr, mc, mb, mp, mi) < 0
      · go_wp2_with fail
        go_region_held3 (fun w' => (w'.cell? ⟨b, k * 5, Option.none⟩ = some (.int .u64 xr) ∧ w'.cell? ⟨b, k * 5 + 1, Option.none⟩ = some (.int .u32 xc) ∧ w'.cell? ⟨b, k * 5 + 2, Option.none⟩ = some (.int .u64 xb) ∧ w'.cell? ⟨b, k * 5 + 3, Option.none⟩ = some (.int .u8 xp) ∧ w'.cell? ⟨b, k * 5 + 4, Option.none⟩ = some (.int .u8 xi)) ∧
        (w'.cell? ⟨w.heap.size + 1, 0, Option.none⟩ = some (.int .u64 mr) ∧ w'.cell? ⟨w.heap.size + 1, 1, Option.none⟩ = some (.int .u32 mc) ∧ w'.cell? ⟨w.heap.size + 1, 2, Option.none⟩ = some (.int .u64 mb) ∧ w'.cell? ⟨w.heap.size + 1, 3, Option.none⟩ = some (.int .u8 mp) ∧ w'.cell? ⟨w.heap.size + 1, 4, Option.none⟩ = some (.int .u8 mi))) (first | go_keep | exact HS'.out _ kk | (go_split_ands; assumption)) ((go_at_call 33; refine (ord_any _ _ _ _ _ _ _ _ _ _ _).mono ?_; rintro e w2 ⟨rfl, k2⟩; have kk := k2))
        obtain ⟨⟨c0, c1, c2, c3, c4⟩, c5, c6, c7, c8, c9⟩ := HS'.out _ k2
        have HM2 := hid ((k2.block _ (lt_of_block HM.out) (fun e => e)).trans HM.out)
        have HB2 := hid ((k2.block _ (lt_of_block HB.out) (fun e => e)).trans HB.out)
        obtain ⟨f0, f1, f2, f3, f4⟩ := free5 HM2.out
        go_wp2_with fail
        go_roundw
        case rel =>
          have kk : Keeps Nil w (set5 w2 (w.heap.size + 1) xr xc xb xp xi) := set5_keeps _ (hkeep.drew.trans k2) (by omega) _ _ _ _ _
          have hs : w.heap.size + 1 < (set5 w2 (w.heap.size + 1) xr xc xb xp xi).heap.size := by rw [set5_size]; exact Nat.lt_of_lt_of_le hsz k2.size
          have h1 : (set5 w2 (w.heap.size + 1) xr xc xb xp xi).heap[w.heap.size]? = some (.cells (pcells (0, 0, 0, 0, 0)) 91 (0, 0)) := (set5_other _ _ _ _ _ (by omega)).trans HB2.out
          have h2 := set5_block HM2.out xr xc xb xp xi
          have h3 : best x0 l = best (xr, xc, xb, xp, xi) (l.drop k) := by rw [hbest, best, if_pos hord]
          exact ⟨k + 1, by omega, by omega, by go_num, kk, hs, h1, (xr, xc, xb, xp, xi), h2, h3⟩
        case measure => simp only [intOf]; omega
      · go_wp2_with fail
        go_region_held3 (fun w' => (w'.cell? ⟨b, k * 5, Option.none⟩ = some (.int .u64 xr) ∧ w'.cell? ⟨b, k * 5 + 1, Option.none⟩ = some (.int .u32 xc) ∧ w'.cell? ⟨b, k * 5 + 2, Option.none⟩ = some (.int .u64 xb) ∧ w'.cell? ⟨b, k * 5 + 3, Option.none⟩ = some (.int .u8 xp) ∧ w'.cell? ⟨b, k * 5 + 4, Option.none⟩ = some (.int .u8 xi)) ∧
        (w'.cell? ⟨w.heap.size + 1, 0, Option.none⟩ = some (.int .u64 mr) ∧ w'.cell? ⟨w.heap.size + 1, 1, Option.none⟩ = some (.int .u32 mc) ∧ w'.cell? ⟨w.heap.size + 1, 2, Option.none⟩ = some (.int .u64 mb) ∧ w'.cell? ⟨w.heap.size + 1, 3, Option.none⟩ = some (.int .u8 mp) ∧ w'.cell? ⟨w.heap.size + 1, 4, Option.none⟩ = some (.int .u8 mi))) (first | go_keep | exact HS'.out _ kk | (go_split_ands; assumption)) ((go_at_call 33; refine (ord_any _ _ _ _ _ _ _ _ _ _ _).mono ?_; rintro e w2 ⟨rfl, k2⟩; have kk := k2))
        have HM2 := hid ((k2.block _ (lt_of_block HM.out) (fun e => e)).trans HM.out)
        have HB2 := hid ((k2.block _ (lt_of_block HB.out) (fun e => e)).trans HB.out)
        go_wp2_with fail
        go_roundw
        case rel =>
          refine ⟨k + 1, by omega, by omega, by go_num, hkeep.drew.trans k2, Nat.lt_of_lt_of_le hsz k2.size, HB2.out, _, HM2.out, ?_⟩
          rw [hbest, best, if_neg (by omega)]; rfl
        case measure => simp only [intOf]; omega
    · obtain rfl : k = l.length + 1 := by omega
      have hb1 : best x0 l = m := by simpa [best] using hbest
      obtain ⟨m0, m1, m2, m3, m4⟩ := held5 (Keeps.refl Nil wr) hm
      obtain ⟨mr, mc, mb, mp, mi⟩ := m
      have HM := hid hm
      have HB := hid hb0
      obtain ⟨z0, z1, z2, z3, z4⟩ := held5 (Keeps.refl Nil wr) (x := (0, 0, 0, 0, 0)) hb0
      obtain ⟨f0, f1, f2, f3, f4⟩ := free5 hb0
      clear hm hb0 h0 h1 h2 h3 h4
      go_wp2_with fail
      refine bodyPost_ret (v := pth (mr, mc, mb, mp, mi)) (by simp [results, Try.results32, go_sem, *]) rfl ?_
      have kk : Keeps Nil w (set5 wr w.heap.size mr mc mb mp mi) := set5_keeps _ hkeep (Nat.le_refl _) _ _ _ _ _
      exact ⟨rfl, kk⟩

set_option maxHeartbeats 1600000 in
theorem least_some {w : World} (b cap : Nat) (x0 : Pth) (l : List Pth) (hb : b < w.heap.size) (hr : Row5 w b (x0 :: l)) (hl : l.length ≤ 100) :
    Calls Try.prog 29 #[.slice (some ⟨b, 0, Option.none⟩) (l.length + 1) cap] w fun e w' => e = .returned (.tuple #[pth (best x0 l), .bool true]) ∧ Keeps Nil w w' := by
  have HR := hid hr
  clear hr
  go_enter Try.func29, Try.ntmps29
  go_wp2_with fail
  refine (minfunc_any b cap x0 l (by simp; omega) (HR.out.keep ((Keeps.refl Nil w).alloc _) hb (fun e => e)) hl).mono ?_; rintro e w2 ⟨rfl, k2⟩
  have hz := (k2.block _ (by simp) (fun e => e)).trans (alloc_block w _)
  obtain ⟨c0, c1, c2, c3, c4⟩ := held5 (Keeps.refl Nil w2) (x := (0, 0, 0, 0, 0)) hz
  obtain ⟨f0, f1, f2, f3, f4⟩ := free5 hz
  obtain ⟨m, hm⟩ : ∃ m, best x0 l = m := ⟨_, rfl⟩
  rw [hm]
  obtain ⟨mr, mc, mb, mp, mi⟩ := m
  clear hz
  go_wp2_with fail
  refine bodyPost_ret (v := .tuple #[pth (mr, mc, mb, mp, mi), .bool true]) (by simp [results, Try.results29, go_sem, *]) rfl ?_
  have kk : Keeps Nil w (set5 w2 w.heap.size mr mc mb mp mi) := set5_keeps _ (((Keeps.refl Nil w).alloc _).trans k2) (Nat.le_refl _) _ _ _ _ _
  exact ⟨by rw [hm], kk⟩

set_option maxHeartbeats 1600000 in
theorem least_none {w : World} (a : Option Addr) (cap : Nat) :
    Calls Try.prog 29 #[.slice a 0 cap] w fun e w' => e = .returned (.tuple #[pth (0, 0, 0, 0, 0), .bool false]) ∧ Keeps Nil w w' := by
  go_enter Try.func29, Try.ntmps29
  go_wp2_with fail
  refine bodyPost_ret (v := .tuple #[pth (0, 0, 0, 0, 0), .bool false]) (by simp [results, Try.results29, go_sem, *]) rfl ?_
  exact ⟨rfl, by repeat' (first | exact Keeps.refl _ _ | refine Keeps.drew ?_ | refine Keeps.alloc ?_ _ | refine Keeps.setCell ?_ (fun h => absurd h (by simp)) _)⟩
end Go.Proofs.Ythnkeppkhdceoaa
