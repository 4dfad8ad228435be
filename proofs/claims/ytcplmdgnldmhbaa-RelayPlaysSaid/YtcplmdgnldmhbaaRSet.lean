/-
  Layer 8: the document's database: SetStatic. Conditions: its rows lie so; the numbers are in range.
-/
import Derived.Test.YtcplmdgnldmhbaaRLearn3
import Derived.Test.YtcplmdgnldmhbaaRLearn2
namespace Go.Proofs.Ytcplmdgnldmhbaa
open Go.RowKit
set_option linter.unusedVariables false

theorem tinfo : (Try.prog.info? 108).map (fun i => (i.zero, i.size, i.bytes)) = some (some (.agg #[.int .u16 0, .int .u8 0, .int .u8 0, .int .u8 0, .int .u8 0, .int .u8 0, .int .u8 0, .int .u8 0]), 8, 10) := by kernel_rfl
theorem others {r : List (Pl × Int)} {q : Pl} (h : q ∉ r.map (·.1)) : ∀ x ∈ r, x.1 ≠ q := fun x hx e => h (List.mem_map.2 ⟨x, hx, e⟩)
theorem sdel_cut {q : Pl} {u : Int} : ∀ {S : List (Pl × Int)} {k : Nat}, Once S → S[k]? = some (q, u) → sdel S q = S.take k ++ S.drop (k + 1)
  | [], k, _, h => by simp at h
  | x :: r, 0, ho, h => by
    simp at h
    subst h
    unfold Once at ho
    rw [List.map_cons, List.nodup_cons] at ho
    have := others ho.1
    simp only [sdel, List.filter_cons, List.take_zero, List.nil_append, List.drop_succ_cons, List.drop_zero]
    rw [if_neg (by simp)]
    exact List.filter_eq_self.2 (fun y hy => by simpa using this y hy)
  | x :: r, k + 1, ho, h => by
    unfold Once at ho
    rw [List.map_cons, List.nodup_cons] at ho
    have hr : r[k]? = some (q, u) := by simpa using h
    have hx : x.1 ≠ q := fun e => ho.1 (List.mem_map.2 ⟨(q, u), List.mem_of_getElem? hr, e.symm⟩)
    have ih := sdel_cut (S := r) (k := k) ho.2 hr
    unfold sdel at ih ⊢
    rw [List.filter_cons, if_pos (by simpa using hx), ih]
    simp
theorem smap_set {q : Pl} {u v : Int} : ∀ {S : List (Pl × Int)} {k : Nat}, Once S → S[k]? = some (q, u) → S.map (fun x => if x.1 = q then (q, v) else x) = S.set k (q, v)
  | [], k, _, h => by simp at h
  | x :: r, 0, ho, h => by
    simp at h
    subst h
    unfold Once at ho
    rw [List.map_cons, List.nodup_cons] at ho
    have := others ho.1
    simp only [List.map_cons, if_true, List.set_cons_zero]
    congr 1
    exact (List.map_congr_left (g := id) (fun y hy => by rw [if_neg (this y hy)]; rfl)).trans (List.map_id _)
  | x :: r, k + 1, ho, h => by
    unfold Once at ho
    rw [List.map_cons, List.nodup_cons] at ho
    have hr : r[k]? = some (q, u) := by simpa using h
    have hx : x.1 ≠ q := fun e => ho.1 (List.mem_map.2 ⟨(q, u), List.mem_of_getElem? hr, e.symm⟩)
    have ih := smap_set (S := r) (k := k) (v := v) ho.2 hr
    rw [List.map_cons, if_neg hx, ih]
    rfl
theorem sput_set {q : Pl} {u v : Int} {S : List (Pl × Int)} {k : Nat} (ho : Once S) (h : S[k]? = some (q, u)) (hg : sget S q = some u) : sput S q v = S.set k (q, v) := by
  unfold sput
  rw [hg]
  exact smap_set ho h
theorem sput_new {q : Pl} {v : Int} {S : List (Pl × Int)} (hg : sget S q = none) : sput S q v = S ++ [(q, v)] := by
  unfold sput
  rw [hg]
  rfl
theorem flatS_set {q : Pl} {u v : Int} : ∀ {S : List (Pl × Int)} {k : Nat}, S[k]? = some (q, u) → flatS (S.set k (q, v)) = (flatS S).set (k * 8 + 7) (.int .u8 v)
  | [], k, h => by simp at h
  | x :: r, 0, h => by
    simp at h
    subst h
    rfl
  | x :: r, k + 1, h => by
    have ih := flatS_set (S := r) (k := k) (v := v) (by simpa using h)
    rw [List.set_cons_succ, flatS_cons, ih, flatS_cons]
    have e1 : (k + 1) * 8 + 7 = (scells x).length + (k * 8 + 7) := by simp; omega
    rw [e1, List.set_append_right _ _ (by omega)]
    simp
/-- A cell of an owned row written anew. -/
theorem own_set {w : World} {base : Nat} {e : TypeId} {sz n c g j : Nat} {xs : List Value} (h : w.ownsRow base e sz (.slice (some ⟨g, 0, Option.none⟩) n c) n xs) (hj : j < n * sz) (u : Value) :
    (w.setCell ⟨g, j, Option.none⟩ u).ownsRow base e sz (.slice (some ⟨g, 0, Option.none⟩) n c) n (xs.set j u) := by
  obtain ⟨hl, ⟨hv, _⟩ | ⟨g', cap, cur, hv, hb, hg, hle, hm, hs, ht⟩⟩ := h
  · cases hv
  · injection hv with h1 h2 h3
    injection h1 with h1
    injection h1 with h1
    subst h1 h3
    refine ⟨by rw [List.length_set]; exact hl, .inr ⟨g, c, cur.setIfInBounds j u, rfl, hb, setCell_block hg j u, hle, hm, by rw [Array.size_setIfInBounds]; exact hs, ?_⟩⟩
    rw [Array.toList_setIfInBounds, List.take_set, ht]
theorem own_mono {w : World} {B B' : Nat} {e : TypeId} {sz : Nat} {v : Value} {n : Nat} {xs : List Value} (h : w.ownsRow B e sz v n xs) (hB : B' ≤ B) : w.ownsRow B' e sz v n xs := by
  refine ⟨h.1, ?_⟩
  rcases h.2 with h' | ⟨g, cap, cur, e, hb, r⟩
  · exact .inl h'
  · exact .inr ⟨g, cap, cur, e, Nat.le_trans hB hb, r⟩
theorem own_spot {w : World} {base : Nat} {e : TypeId} {sz n c : Nat} {p : Option Addr} {xs : List Value} (h : w.ownsRow base e sz (.slice p n c) n xs) (hn : 0 < n) :
    ∃ g, p = some ⟨g, 0, Option.none⟩ ∧ base ≤ g ∧ n ≤ c ∧ ∀ j, j < n * sz → (∃ v, w.cell? ⟨g, j, Option.none⟩ = some v) ∧ w.frozen? ⟨g, j, Option.none⟩ = false := by
  obtain ⟨hl, ⟨hv, h0⟩ | ⟨g', cap, cur, hv, hb, hg, hle, hm, hs, ht⟩⟩ := h
  · omega
  · injection hv with h1 h2 h3
    subst h3
    refine ⟨g', h1, hb, hle, fun j hj => ⟨?_, by simp [World.frozen?, hg]⟩⟩
    have : j < cur.size := by rw [hs]; exact Nat.lt_of_lt_of_le hj (Nat.mul_le_mul_right _ hle)
    exact ⟨cur[j], by simp [World.cell?, hg, this]⟩
abbrev AccS (w : World) (B : Nat) (p : Option Addr) (n c : Nat) (S : List (Pl × Int)) : Prop := w.ownsRow B 108 8 (.slice p n c) n (flatS S)

set_option maxHeartbeats 8000000 in
theorem rset_out (q : Pl) (ports : Int) (B : Nat) (pL : Option Addr) (cL : Nat) (pS : Option Addr) (cS : Nat) (τ : Tb) (w : World) (h : RT w B pL cL pS cS τ) (hl : τ.S.length ≤ 900) (hno : ¬ (1 ≤ q.v ∧ q.v ≤ 4094)) :
    Calls Try.prog 22 #[rtab pL τ.L.length cL pS τ.S.length cS, .int .u16 q.v, q.mac, .int .u8 ports] w fun e w' => e = .returned (.tuple #[rtab pL τ.L.length cL pS τ.S.length cS, .int .i64 2]) ∧ Keeps Nil w w' := by
  obtain ⟨hA, hB, hC⟩ := three_allocs w (.cells #[.slice pL τ.L.length cL, .slice pS τ.S.length cS] 61 (0, 0)) (.cells #[Value.int IntKind.u8 q.a, Value.int IntKind.u8 q.b, Value.int IntKind.u8 q.c, Value.int IntKind.u8 q.d, Value.int IntKind.u8 q.e, Value.int IntKind.u8 q.f] 31 (0, 0)) (.cells #[.slice Option.none 0 0, .slice Option.none 0 0] 61 (0, 0))
  have kz : Keeps Nil w (((w.alloc (.cells #[.slice pL τ.L.length cL, .slice pS τ.S.length cS] 61 (0, 0))).alloc (.cells #[Value.int IntKind.u8 q.a, Value.int IntKind.u8 q.b, Value.int IntKind.u8 q.c, Value.int IntKind.u8 q.d, Value.int IntKind.u8 q.e, Value.int IntKind.u8 q.f] 31 (0, 0))).alloc (.cells #[.slice Option.none 0 0, .slice Option.none 0 0] 61 (0, 0))) := (((Keeps.refl _ _).alloc _).alloc _).alloc _
  have HA := hid hA
  have HB := hid hB
  have HCB := hid hC
  have KZ := hid kz
  have H := hid (h.keepN kz)
  clear hA hB hC kz h
  by_cases g3 : 1 ≤ q.v
  · have g3' : decide (q.v < 1) = false := by simp; omega
    have g4' : decide (4094 < q.v) = true := by
      have : ¬ q.v ≤ 4094 := fun b => hno ⟨g3, b⟩
      simp; omega
    clear hno g3
    go_enter Try.func22, Try.ntmps22
    go_upto_region 1 with (fail)
    generalize (((w.alloc (.cells #[.slice pL τ.L.length cL, .slice pS τ.S.length cS] 61 (0, 0))).alloc (.cells #[Value.int IntKind.u8 q.a, Value.int IntKind.u8 q.b, Value.int IntKind.u8 q.c, Value.int IntKind.u8 q.d, Value.int IntKind.u8 q.e, Value.int IntKind.u8 q.f] 31 (0, 0))).alloc (.cells #[.slice Option.none 0 0, .slice Option.none 0 0] 61 (0, 0))) = W at *
    generalize hb8 : w.heap.size + 1 + 1 = b8 at *
    generalize hb6 : w.heap.size + 1 = b6 at *
    have HB8 := hid hb8
    have HB6 := hid hb6
    clear hb8 hb6
    obtain ⟨a0, a1⟩ := two_cells HA.out
    obtain ⟨m0, m1, m2, m3, m4, m5⟩ := six_of HB.out
    obtain ⟨z0, z1⟩ := two_cells HCB.out
    obtain ⟨f0, f1⟩ := two_free HCB.out
    go_wp2_with fail
    have HC9 := HCB
    have KZ9 := KZ
    clear a0 a1 m0 m1 m2 m3 m4 m5 z0 z1 f0 f1
    obtain ⟨w9, hw9, hF, k9⟩ := set2 HC9.out (.slice pL τ.L.length cL) (.slice pS τ.S.length cS)
    rw [hw9]
    obtain ⟨y0, y1⟩ := two_cells hF
    refine bodyPost_ret (v := .tuple #[rtab pL τ.L.length cL pS τ.S.length cS, .int .i64 2]) (by simp [results, Try.results22, go_sem, y0, y1]) rfl ?_
    exact ⟨rfl, (KZ9.out).thenAt k9 (by have := HB8.out; have := HB6.out; omega)⟩

  · have g3' : decide (q.v < 1) = true := by simp; omega
    clear hno g3
    go_enter Try.func22, Try.ntmps22
    go_upto_region 1 with (fail)
    generalize (((w.alloc (.cells #[.slice pL τ.L.length cL, .slice pS τ.S.length cS] 61 (0, 0))).alloc (.cells #[Value.int IntKind.u8 q.a, Value.int IntKind.u8 q.b, Value.int IntKind.u8 q.c, Value.int IntKind.u8 q.d, Value.int IntKind.u8 q.e, Value.int IntKind.u8 q.f] 31 (0, 0))).alloc (.cells #[.slice Option.none 0 0, .slice Option.none 0 0] 61 (0, 0))) = W at *
    generalize hb8 : w.heap.size + 1 + 1 = b8 at *
    generalize hb6 : w.heap.size + 1 = b6 at *
    have HB8 := hid hb8
    have HB6 := hid hb6
    clear hb8 hb6
    obtain ⟨a0, a1⟩ := two_cells HA.out
    obtain ⟨m0, m1, m2, m3, m4, m5⟩ := six_of HB.out
    obtain ⟨z0, z1⟩ := two_cells HCB.out
    obtain ⟨f0, f1⟩ := two_free HCB.out
    go_wp2_with fail
    have HC9 := HCB
    have KZ9 := KZ
    clear a0 a1 m0 m1 m2 m3 m4 m5 z0 z1 f0 f1
    obtain ⟨w9, hw9, hF, k9⟩ := set2 HC9.out (.slice pL τ.L.length cL) (.slice pS τ.S.length cS)
    rw [hw9]
    obtain ⟨y0, y1⟩ := two_cells hF
    refine bodyPost_ret (v := .tuple #[rtab pL τ.L.length cL pS τ.S.length cS, .int .i64 2]) (by simp [results, Try.results22, go_sem, y0, y1]) rfl ?_
    exact ⟨rfl, (KZ9.out).thenAt k9 (by have := HB8.out; have := HB6.out; omega)⟩


set_option maxHeartbeats 8000000 in
theorem rset_full (q : Pl) (ports : Int) (B : Nat) (pL : Option Addr) (cL : Nat) (pS : Option Addr) (cS : Nat) (τ : Tb) (w : World) (h : RT w B pL cL pS cS τ) (hl : τ.S.length ≤ 900) (hv : 1 ≤ q.v ∧ q.v ≤ 4094) (hu : sget τ.S q = Option.none) (hf : 16 ≤ τ.S.length) :
    Calls Try.prog 22 #[rtab pL τ.L.length cL pS τ.S.length cS, .int .u16 q.v, q.mac, .int .u8 ports] w fun e w' => e = .returned (.tuple #[rtab pL τ.L.length cL pS τ.S.length cS, .int .i64 6]) ∧ Keeps Nil w w' := by
  have hi := sidx_none hu
  have g3' : decide (q.v < 1) = false := by simp; omega
  have g4' : decide (4094 < q.v) = false := by simp; omega
  obtain ⟨hA, hB, hC⟩ := three_allocs w (.cells #[.slice pL τ.L.length cL, .slice pS τ.S.length cS] 61 (0, 0)) (.cells #[Value.int IntKind.u8 q.a, Value.int IntKind.u8 q.b, Value.int IntKind.u8 q.c, Value.int IntKind.u8 q.d, Value.int IntKind.u8 q.e, Value.int IntKind.u8 q.f] 31 (0, 0)) (.cells #[.slice Option.none 0 0, .slice Option.none 0 0] 61 (0, 0))
  have kz : Keeps Nil w (((w.alloc (.cells #[.slice pL τ.L.length cL, .slice pS τ.S.length cS] 61 (0, 0))).alloc (.cells #[Value.int IntKind.u8 q.a, Value.int IntKind.u8 q.b, Value.int IntKind.u8 q.c, Value.int IntKind.u8 q.d, Value.int IntKind.u8 q.e, Value.int IntKind.u8 q.f] 31 (0, 0))).alloc (.cells #[.slice Option.none 0 0, .slice Option.none 0 0] 61 (0, 0))) := (((Keeps.refl _ _).alloc _).alloc _).alloc _
  have HA := hid hA
  have HB := hid hB
  have HCB := hid hC
  have KZ := hid kz
  have H := hid (h.keepN kz)
  clear hA hB hC kz h
  have HI := hid hi
  have hge : decide ((16 : Int) ≤ (τ.S.length : Int)) = true := by simp; omega
  clear hi hu
  go_enter Try.func22, Try.ntmps22
  go_upto_region 1 with (fail)
  generalize (((w.alloc (.cells #[.slice pL τ.L.length cL, .slice pS τ.S.length cS] 61 (0, 0))).alloc (.cells #[Value.int IntKind.u8 q.a, Value.int IntKind.u8 q.b, Value.int IntKind.u8 q.c, Value.int IntKind.u8 q.d, Value.int IntKind.u8 q.e, Value.int IntKind.u8 q.f] 31 (0, 0))).alloc (.cells #[.slice Option.none 0 0, .slice Option.none 0 0] 61 (0, 0))) = W at *
  generalize hb8 : w.heap.size + 1 + 1 = b8 at *
  generalize hb6 : w.heap.size + 1 = b6 at *
  have HB8 := hid hb8
  have HB6 := hid hb6
  clear hb8 hb6
  obtain ⟨a0, a1⟩ := two_cells HA.out
  obtain ⟨m0, m1, m2, m3, m4, m5⟩ := six_of HB.out
  obtain ⟨z0, z1⟩ := two_cells HCB.out
  obtain ⟨f0, f1⟩ := two_free HCB.out
  go_wp2_with fail
  refine (static_any q B pL cL pS cS τ _ H.out (by omega)).mono ?_; rintro ee w2 ⟨rfl, k2⟩
  rw [HI.out]
  clear a0 a1 m0 m1 m2 m3 m4 m5 z0 z1 f0 f1
  obtain ⟨a0, a1⟩ := two_cells ((k2.block _ (lt_of_block HA.out) (fun e => e)).trans HA.out)
  obtain ⟨m0, m1, m2, m3, m4, m5⟩ := six_of ((k2.block _ (lt_of_block HB.out) (fun e => e)).trans HB.out)
  have HC9 := hid ((k2.block _ (lt_of_block HCB.out) (fun e => e)).trans HCB.out)
  have KZ9 := hid (KZ.out.trans k2)
  obtain ⟨z0, z1⟩ := two_cells HC9.out
  obtain ⟨f0, f1⟩ := two_free HC9.out
  have hne : b8 ≠ w.heap.size := by have := HB8.out; have := HB6.out; omega
  go_wp2_with fail
  clear a0 a1 m0 m1 m2 m3 m4 m5 z0 z1 f0 f1
  obtain ⟨w9, hw9, hF, k9⟩ := set2 HC9.out (.slice pL τ.L.length cL) (.slice pS τ.S.length cS)
  rw [hw9]
  obtain ⟨y0, y1⟩ := two_cells hF
  refine bodyPost_ret (v := .tuple #[rtab pL τ.L.length cL pS τ.S.length cS, .int .i64 6]) (by simp [results, Try.results22, go_sem, y0, y1]) rfl ?_
  exact ⟨rfl, (KZ9.out).thenAt k9 (by have := HB8.out; have := HB6.out; omega)⟩

set_option maxHeartbeats 16000000 in
theorem rset_new (q : Pl) (ports : Int) (B : Nat) (pL : Option Addr) (cL : Nat) (pS : Option Addr) (cS : Nat) (τ : Tb) (w : World) (h : RT w B pL cL pS cS τ) (hl : τ.S.length ≤ 900) (hL : τ.L.length ≤ 900) (hv : 1 ≤ q.v ∧ q.v ≤ 4094) (hu : sget τ.S q = Option.none) (hf : τ.S.length < 16) :
    Calls Try.prog 22 #[rtab pL τ.L.length cL pS τ.S.length cS, .int .u16 q.v, q.mac, .int .u8 ports] w fun e w' => (∃ p n c p2 n2 c2, e = .returned (.tuple #[rtab p n c p2 n2 c2, .int .i64 0]) ∧ Acc w' w.heap.size p n c (τ.L.filter (fun x => !(decide (q = x.p)))) ∧ AccS w' w.heap.size p2 n2 c2 (τ.S ++ [(q, ports)])) ∧ Keeps Nil w w' := by
  have hi := sidx_none hu
  have g3' : decide (q.v < 1) = false := by simp; omega
  have g4' : decide (4094 < q.v) = false := by simp; omega
  obtain ⟨hA, hB, hC⟩ := three_allocs w (.cells #[.slice pL τ.L.length cL, .slice pS τ.S.length cS] 61 (0, 0)) (.cells #[Value.int IntKind.u8 q.a, Value.int IntKind.u8 q.b, Value.int IntKind.u8 q.c, Value.int IntKind.u8 q.d, Value.int IntKind.u8 q.e, Value.int IntKind.u8 q.f] 31 (0, 0)) (.cells #[.slice Option.none 0 0, .slice Option.none 0 0] 61 (0, 0))
  have kz : Keeps Nil w (((w.alloc (.cells #[.slice pL τ.L.length cL, .slice pS τ.S.length cS] 61 (0, 0))).alloc (.cells #[Value.int IntKind.u8 q.a, Value.int IntKind.u8 q.b, Value.int IntKind.u8 q.c, Value.int IntKind.u8 q.d, Value.int IntKind.u8 q.e, Value.int IntKind.u8 q.f] 31 (0, 0))).alloc (.cells #[.slice Option.none 0 0, .slice Option.none 0 0] 61 (0, 0))) := (((Keeps.refl _ _).alloc _).alloc _).alloc _
  have HA := hid hA
  have HB := hid hB
  have HCB := hid hC
  have KZ := hid kz
  have H := hid (h.keepN kz)
  have H0 := hid h
  clear hA hB hC kz h
  have HI := hid hi
  clear hi
  go_enter Try.func22, Try.ntmps22
  have hge : decide ((16 : Int) ≤ (τ.S.length : Int)) = false := by simp; omega
  go_upto_region 1 with (fail)
  generalize (((w.alloc (.cells #[.slice pL τ.L.length cL, .slice pS τ.S.length cS] 61 (0, 0))).alloc (.cells #[Value.int IntKind.u8 q.a, Value.int IntKind.u8 q.b, Value.int IntKind.u8 q.c, Value.int IntKind.u8 q.d, Value.int IntKind.u8 q.e, Value.int IntKind.u8 q.f] 31 (0, 0))).alloc (.cells #[.slice Option.none 0 0, .slice Option.none 0 0] 61 (0, 0))) = W at *
  generalize hb8 : w.heap.size + 1 + 1 = b8 at *
  generalize hb6 : w.heap.size + 1 = b6 at *
  have HB8 := hid hb8
  have HB6 := hid hb6
  clear hb8 hb6
  obtain ⟨a0, a1⟩ := two_cells HA.out
  obtain ⟨m0, m1, m2, m3, m4, m5⟩ := six_of HB.out
  obtain ⟨z0, z1⟩ := two_cells HCB.out
  obtain ⟨f0, f1⟩ := two_free HCB.out
  go_wp2_with fail
  refine (static_any q B pL cL pS cS τ _ H.out (by omega)).mono ?_; rintro ee w2 ⟨rfl, k2⟩
  rw [HI.out]
  clear a0 a1 m0 m1 m2 m3 m4 m5 z0 z1 f0 f1
  obtain ⟨a0, a1⟩ := two_cells ((k2.block _ (lt_of_block HA.out) (fun e => e)).trans HA.out)
  obtain ⟨m0, m1, m2, m3, m4, m5⟩ := six_of ((k2.block _ (lt_of_block HB.out) (fun e => e)).trans HB.out)
  have HC9 := hid ((k2.block _ (lt_of_block HCB.out) (fun e => e)).trans HCB.out)
  have KZ9 := hid (KZ.out.trans k2)
  have HA9 := hid ((k2.block _ (lt_of_block HA.out) (fun e => e)).trans HA.out)
  have HB9 := hid ((k2.block _ (lt_of_block HB.out) (fun e => e)).trans HB.out)
  have H9 := hid (H.out.keepN k2)
  clear k2
  go_wp2_with fail
  refine (without_any q B pL cL pS cS τ _ H9.out hL).mono ?_; rintro ee w3 ⟨⟨p3, n3, c3, rfl, acc3⟩, k3⟩
  have hA3 := (k3.block _ (lt_of_block HA9.out) (fun e => e)).trans HA9.out
  have hB3 := (k3.block _ (lt_of_block HB9.out) (fun e => e)).trans HB9.out
  have hC3 := (k3.block _ (lt_of_block HC9.out) (fun e => e)).trans HC9.out
  clear a0 a1 m0 m1 m2 m3 m4 m5
  obtain ⟨a0, a1⟩ := two_cells hA3
  obtain ⟨f0, f1⟩ := two_free hA3
  have HA3 := hid hA3
  have HB3 := hid hB3
  have HC3 := hid hC3
  have ACC := hid acc3
  have K3 := hid (KZ9.out.trans k3)
  have H3 := hid (H9.out.keepN k3)
  have hw23 := k3.size
  clear hA3 hB3 hC3 acc3 k3
  go_upto_region 7 with (fail)
  obtain ⟨V, hV, hV4, kv⟩ := set2 HA3.out (.slice p3 n3 c3) (.slice pS τ.S.length cS)
  rw [hV]
  have hb86 : b8 ≠ w.heap.size ∧ b6 ≠ w.heap.size := by have := HB8.out; have := HB6.out; omega
  have HV4 := hid hV4
  have HV6 := hid ((kv.block _ (lt_of_block HB3.out) (fun e => hb86.2 e)).trans HB3.out)
  have HV8 := hid ((kv.block _ (lt_of_block HC3.out) (fun e => hb86.1 e)).trans HC3.out)
  have hlt4 := lt_of_block HA9.out
  have hACC : Acc V w2.heap.size p3 n3 c3 _ := ownsRow_keep ACC.out kv (fun g hg e => by rw [At] at e; omega)
  have ACCV := hid hACC
  have KV := hid (K3.out.thenAt kv (Nat.le_refl _))
  have HSV := hid (H0.out.2.keepN KV.out)
  have hlt8 := lt_of_block HV8.out
  have hw2 : w2.heap.size ≤ V.heap.size := by have h1 := KV.out.size; have h3 := lt_of_block HA9.out; have h4 := kv.size; have h5 : w2.heap.size ≤ w3.heap.size := hw23; omega
  clear a0 a1 f0 f1 hV hV4 kv hACC
  obtain ⟨a0, a1⟩ := two_cells HV4.out
  obtain ⟨m0, m1, m2, m3, m4, m5⟩ := six_of HV6.out
  obtain ⟨i0, hi0, hz0, hz1, hz2⟩ := info_parts tinfo
  have HIN := hid (And.intro hi0 (And.intro hz0 (And.intro hz1 hz2)))
  clear hi0 hz0 hz1 hz2
  have hb68 : b8 ≠ b6 := by have := HB8.out; omega
  go_wp2_with (first
    | (at_builtin; refine wpList_append_wv (o := ⟨some 38, _, _, _, _, _⟩) _ rfl _ _ 59 rfl V.heap.size 108 i0 (.agg #[.int .u16 0, .int .u8 0, .int .u8 0, .int .u8 0, .int .u8 0, .int .u8 0, .int .u8 0, .int .u8 0]) 8 10 Try.underlying59 HIN.out.1 HIN.out.2.1 HIN.out.2.2.1 HIN.out.2.2.2 rfl (by decide) (.slice Option.none 0 0) 0 [] rfl (World.ownsRow_nil _ _ _ _) B pS τ.S.length cS (flatS τ.S) rfl HSV.out (flatS_one _) (by unfold maxLen; omega) (by omega) (Nat.le_refl _) ?_; intro v1 w1 own1 hg1 hat1; have kw1 := hid (grown_nil hg1); clear a0 a1 m0 m1 m2 m3 m4 m5; obtain ⟨a0, a1⟩ := two_cells ((kw1.out.block _ (lt_of_block HV4.out) (fun e => e)).trans HV4.out); obtain ⟨m0, m1, m2, m3, m4, m5⟩ := six_of ((kw1.out.block _ (lt_of_block HV6.out) (fun e => e)).trans HV6.out))
    | (at_builtin; refine wpList_append_wv (o := ⟨some 47, _, _, _, _, _⟩) _ rfl _ _ 59 rfl V.heap.size 108 i0 (.agg #[.int .u16 0, .int .u8 0, .int .u8 0, .int .u8 0, .int .u8 0, .int .u8 0, .int .u8 0, .int .u8 0]) 8 10 Try.underlying59 HIN.out.1 HIN.out.2.1 HIN.out.2.2.1 HIN.out.2.2.2 rfl (by decide) v1 _ _ rfl (ownsRow_keep own1 ((Keeps.refl Nil w1).alloc _) (fun _ _ e => e)) 0 (some ⟨w1.heap.size, 0, Option.none⟩) 1 1 (scells (q, ports)) rfl (WV.new w1 #[.int .u16 q.v, .int .u8 q.a, .int .u8 q.b, .int .u8 q.c, .int .u8 q.d, .int .u8 q.e, .int .u8 q.f, .int .u8 ports] 108 8 rfl) (by simp [Value.oneCell']) (by unfold maxLen; omega) (by omega) (Nat.le_trans kw1.out.size (by simp)) ?_; intro v2 w2' own2 hg2 hat2; have kw2 := hid (grown_own own1 hg2 (Nat.le_refl _) (kw1.out.alloc _)); clear a0 a1 m0 m1 m2 m3 m4 m5; obtain ⟨a0, a1⟩ := two_cells ((kw2.out.block _ (lt_of_block HV4.out) (fun e => e)).trans HV4.out); obtain ⟨m0, m1, m2, m3, m4, m5⟩ := six_of ((kw2.out.block _ (lt_of_block HV6.out) (fun e => e)).trans HV6.out); obtain ⟨z0, z1⟩ := two_cells ((kw2.out.block _ (lt_of_block HV8.out) (fun e => e)).trans HV8.out); obtain ⟨f0, f1⟩ := two_free ((kw2.out.block _ (lt_of_block HV8.out) (fun e => e)).trans HV8.out); obtain ⟨p2, c2, hv2⟩ := own_shape own2; subst hv2))
  have ownF : AccS w2' V.heap.size p2 (τ.S.length + 1) c2 (τ.S ++ [(q, ports)]) := by
    have e1 : flatS (τ.S ++ [(q, ports)]) = [] ++ flatS τ.S ++ scells (q, ports) := by rw [flatS_append]; simp [flatS]
    unfold AccS
    rw [e1]
    simpa using own2
  have hY := (kw2.out.block _ (lt_of_block HV8.out) (fun e => e)).trans HV8.out
  have hAccV := ACCV.out.keep kw2.out
  have hF0 := set2 hY (.slice p3 n3 c3) (.slice p2 (τ.S.length + 1) c2)
  obtain ⟨w9, hw9, hF, k9⟩ := hF0
  rw [hw9]
  obtain ⟨y0, y1⟩ := two_cells hF
  have hA9 : Acc w9 w.heap.size p3 n3 c3 _ := Acc.mono (ownsRow_keep hAccV k9 (fun g hg e => by rw [At] at e; have h1 := lt_of_block HC9.out; omega)) (by omega)
  have hS9 : AccS w9 V.heap.size p2 (τ.S.length + 1) c2 _ := ownsRow_keep ownF k9 (fun g hg e => by rw [At] at e; omega)
  refine bodyPost_ret (v := .tuple #[rtab p3 n3 c3 p2 (τ.S.length + 1) c2, .int .i64 0]) (by simp [results, Try.results22, go_sem, y0, y1]) rfl ?_
  exact ⟨⟨p3, n3, c3, p2, (τ.S.length + 1), c2, rfl, hA9, own_mono hS9 (by omega)⟩, (KV.out.trans kw2.out).thenAt k9 (by have := HB8.out; have := HB6.out; omega)⟩

set_option maxHeartbeats 16000000 in
theorem rset_old (q : Pl) (ports : Int) (B : Nat) (pL : Option Addr) (cL : Nat) (pS : Option Addr) (cS : Nat) (τ : Tb) (w : World) (h : RT w B pL cL pS cS τ) (hl : τ.S.length ≤ 900) (hL : τ.L.length ≤ 900) (hv : 1 ≤ q.v ∧ q.v ≤ 4094) (u : Int) (ho : Once τ.S) (hu : sget τ.S q = some u) :
    Calls Try.prog 22 #[rtab pL τ.L.length cL pS τ.S.length cS, .int .u16 q.v, q.mac, .int .u8 ports] w fun e w' => (∃ p n c p2 n2 c2, e = .returned (.tuple #[rtab p n c p2 n2 c2, .int .i64 0]) ∧ Acc w' w.heap.size p n c (τ.L.filter (fun x => !(decide (q = x.p)))) ∧ AccS w' w.heap.size p2 n2 c2 (sput τ.S q ports)) ∧ Keeps Nil w w' := by
  obtain ⟨k, hi, hsk⟩ := sidx_some hu
  have g3' : decide (q.v < 1) = false := by simp; omega
  have g4' : decide (4094 < q.v) = false := by simp; omega
  obtain ⟨hA, hB, hC⟩ := three_allocs w (.cells #[.slice pL τ.L.length cL, .slice pS τ.S.length cS] 61 (0, 0)) (.cells #[Value.int IntKind.u8 q.a, Value.int IntKind.u8 q.b, Value.int IntKind.u8 q.c, Value.int IntKind.u8 q.d, Value.int IntKind.u8 q.e, Value.int IntKind.u8 q.f] 31 (0, 0)) (.cells #[.slice Option.none 0 0, .slice Option.none 0 0] 61 (0, 0))
  have kz : Keeps Nil w (((w.alloc (.cells #[.slice pL τ.L.length cL, .slice pS τ.S.length cS] 61 (0, 0))).alloc (.cells #[Value.int IntKind.u8 q.a, Value.int IntKind.u8 q.b, Value.int IntKind.u8 q.c, Value.int IntKind.u8 q.d, Value.int IntKind.u8 q.e, Value.int IntKind.u8 q.f] 31 (0, 0))).alloc (.cells #[.slice Option.none 0 0, .slice Option.none 0 0] 61 (0, 0))) := (((Keeps.refl _ _).alloc _).alloc _).alloc _
  have HA := hid hA
  have HB := hid hB
  have HCB := hid hC
  have KZ := hid kz
  have H := hid (h.keepN kz)
  have H0 := hid h
  clear hA hB hC kz h
  have HI := hid hi
  have HSK := hid hsk
  have hks : k < τ.S.length := (List.getElem?_eq_some_iff.1 hsk).1
  rw [sput_set (v := ports) ho hsk hu]
  clear hi hsk
  go_enter Try.func22, Try.ntmps22
  go_upto_region 1 with (fail)
  generalize (((w.alloc (.cells #[.slice pL τ.L.length cL, .slice pS τ.S.length cS] 61 (0, 0))).alloc (.cells #[Value.int IntKind.u8 q.a, Value.int IntKind.u8 q.b, Value.int IntKind.u8 q.c, Value.int IntKind.u8 q.d, Value.int IntKind.u8 q.e, Value.int IntKind.u8 q.f] 31 (0, 0))).alloc (.cells #[.slice Option.none 0 0, .slice Option.none 0 0] 61 (0, 0))) = W at *
  generalize hb8 : w.heap.size + 1 + 1 = b8 at *
  generalize hb6 : w.heap.size + 1 = b6 at *
  have HB8 := hid hb8
  have HB6 := hid hb6
  clear hb8 hb6
  obtain ⟨a0, a1⟩ := two_cells HA.out
  obtain ⟨m0, m1, m2, m3, m4, m5⟩ := six_of HB.out
  obtain ⟨z0, z1⟩ := two_cells HCB.out
  obtain ⟨f0, f1⟩ := two_free HCB.out
  go_wp2_with fail
  refine (static_any q B pL cL pS cS τ _ H.out (by omega)).mono ?_; rintro ee w2 ⟨rfl, k2⟩
  rw [HI.out]
  clear a0 a1 m0 m1 m2 m3 m4 m5 z0 z1 f0 f1
  obtain ⟨a0, a1⟩ := two_cells ((k2.block _ (lt_of_block HA.out) (fun e => e)).trans HA.out)
  obtain ⟨m0, m1, m2, m3, m4, m5⟩ := six_of ((k2.block _ (lt_of_block HB.out) (fun e => e)).trans HB.out)
  have HC9 := hid ((k2.block _ (lt_of_block HCB.out) (fun e => e)).trans HCB.out)
  have KZ9 := hid (KZ.out.trans k2)
  have HA9 := hid ((k2.block _ (lt_of_block HA.out) (fun e => e)).trans HA.out)
  have HB9 := hid ((k2.block _ (lt_of_block HB.out) (fun e => e)).trans HB.out)
  have H9 := hid (H.out.keepN k2)
  clear k2
  go_wp2_with fail
  refine (without_any q B pL cL pS cS τ _ H9.out hL).mono ?_; rintro ee w3 ⟨⟨p3, n3, c3, rfl, acc3⟩, k3⟩
  have hA3 := (k3.block _ (lt_of_block HA9.out) (fun e => e)).trans HA9.out
  have hB3 := (k3.block _ (lt_of_block HB9.out) (fun e => e)).trans HB9.out
  have hC3 := (k3.block _ (lt_of_block HC9.out) (fun e => e)).trans HC9.out
  clear a0 a1 m0 m1 m2 m3 m4 m5
  obtain ⟨a0, a1⟩ := two_cells hA3
  obtain ⟨f0, f1⟩ := two_free hA3
  have HA3 := hid hA3
  have HB3 := hid hB3
  have HC3 := hid hC3
  have ACC := hid acc3
  have K3 := hid (KZ9.out.trans k3)
  have H3 := hid (H9.out.keepN k3)
  have hw23 := k3.size
  clear hA3 hB3 hC3 acc3 k3
  go_upto_region 7 with (fail)
  obtain ⟨V, hV, hV4, kv⟩ := set2 HA3.out (.slice p3 n3 c3) (.slice pS τ.S.length cS)
  rw [hV]
  have hb86 : b8 ≠ w.heap.size ∧ b6 ≠ w.heap.size := by have := HB8.out; have := HB6.out; omega
  have HV4 := hid hV4
  have HV6 := hid ((kv.block _ (lt_of_block HB3.out) (fun e => hb86.2 e)).trans HB3.out)
  have HV8 := hid ((kv.block _ (lt_of_block HC3.out) (fun e => hb86.1 e)).trans HC3.out)
  have hlt4 := lt_of_block HA9.out
  have hACC : Acc V w2.heap.size p3 n3 c3 _ := ownsRow_keep ACC.out kv (fun g hg e => by rw [At] at e; omega)
  have ACCV := hid hACC
  have KV := hid (K3.out.thenAt kv (Nat.le_refl _))
  have HSV := hid (H0.out.2.keepN KV.out)
  have hlt8 := lt_of_block HV8.out
  have hw2 : w2.heap.size ≤ V.heap.size := by have h1 := KV.out.size; have h3 := lt_of_block HA9.out; have h4 := kv.size; have h5 : w2.heap.size ≤ w3.heap.size := hw23; omega
  clear a0 a1 f0 f1 hV hV4 kv hACC
  obtain ⟨a0, a1⟩ := two_cells HV4.out
  obtain ⟨m0, m1, m2, m3, m4, m5⟩ := six_of HV6.out
  obtain ⟨i0, hi0, hz0, hz1, hz2⟩ := info_parts tinfo
  have HIN := hid (And.intro hi0 (And.intro hz0 (And.intro hz1 hz2)))
  clear hi0 hz0 hz1 hz2
  have hb68 : b8 ≠ b6 := by have := HB8.out; omega
  go_wp2_with (
      (at_builtin; refine wpList_append_wv (o := ⟨some 38, _, _, _, _, _⟩) _ rfl _ _ 59 rfl V.heap.size 108 i0 (.agg #[.int .u16 0, .int .u8 0, .int .u8 0, .int .u8 0, .int .u8 0, .int .u8 0, .int .u8 0, .int .u8 0]) 8 10 Try.underlying59 HIN.out.1 HIN.out.2.1 HIN.out.2.2.1 HIN.out.2.2.2 rfl (by decide) (.slice Option.none 0 0) 0 [] rfl (World.ownsRow_nil _ _ _ _) B pS τ.S.length cS (flatS τ.S) rfl HSV.out (flatS_one _) (by unfold maxLen; omega) (by omega) (Nat.le_refl _) ?_; intro v1 w1 own1 hg1 hat1; have kw1 := hid (grown_nil hg1); clear a0 a1 m0 m1 m2 m3 m4 m5; obtain ⟨a0, a1⟩ := two_cells ((kw1.out.block _ (lt_of_block HV4.out) (fun e => e)).trans HV4.out); obtain ⟨m0, m1, m2, m3, m4, m5⟩ := six_of ((kw1.out.block _ (lt_of_block HV6.out) (fun e => e)).trans HV6.out); obtain ⟨z0, z1⟩ := two_cells ((kw1.out.block _ (lt_of_block HV8.out) (fun e => e)).trans HV8.out); obtain ⟨f0, f1⟩ := two_free ((kw1.out.block _ (lt_of_block HV8.out) (fun e => e)).trans HV8.out); obtain ⟨p1, c1, hv1⟩ := own_shape own1; subst hv1; simp only [Nat.zero_add, List.nil_append] at own1; obtain ⟨g1, hp1, hg1b, hnc1, hsp⟩ := own_spot own1 (by omega); subst hp1; obtain ⟨o7, ho7⟩ := (hsp (k * 8 + 7) (by omega)).1; have hf7 := (hsp (k * 8 + 7) (by omega)).2; have OWN1 := hid own1; have hgb8 : g1 ≠ b8 := (by omega); have hgb4 : g1 ≠ w.heap.size := (by have h1 := lt_of_block HV4.out; omega); clear hsp own1))
  have kw7 : Keeps (At g1) w1 (w1.setCell ⟨g1, k * 8 + 7, Option.none⟩ (.int .u8 ports)) := (Keeps.refl _ _).set _ _ (at_self _) _
  have kw2 := hid ((kw1.out).thenAt kw7 hg1b)
  have own7 := own_set OWN1.out (j := k * 8 + 7) (by omega) (.int .u8 ports)
  rw [← flatS_set (v := ports) HSK.out] at own7
  generalize w1.setCell ⟨g1, k * 8 + 7, Option.none⟩ (.int .u8 ports) = w2' at *
  have ownF : AccS w2' V.heap.size (some ⟨g1, 0, Option.none⟩) τ.S.length c1 (τ.S.set k (q, ports)) := own7
  have hY := (kw2.out.block _ (lt_of_block HV8.out) (fun e => e)).trans HV8.out
  have hAccV := ACCV.out.keep kw2.out
  have hF0 := set2 hY (.slice p3 n3 c3) (.slice (some ⟨g1, 0, Option.none⟩) τ.S.length c1)
  obtain ⟨w9, hw9, hF, k9⟩ := hF0
  rw [hw9]
  obtain ⟨y0, y1⟩ := two_cells hF
  have hA9 : Acc w9 w.heap.size p3 n3 c3 _ := Acc.mono (ownsRow_keep hAccV k9 (fun g hg e => by rw [At] at e; have h1 := lt_of_block HC9.out; omega)) (by omega)
  have hS9 : AccS w9 V.heap.size (some ⟨g1, 0, Option.none⟩) τ.S.length c1 _ := ownsRow_keep ownF k9 (fun g hg e => by rw [At] at e; omega)
  refine bodyPost_ret (v := .tuple #[rtab p3 n3 c3 (some ⟨g1, 0, Option.none⟩) τ.S.length c1, .int .i64 0]) (by simp [results, Try.results22, go_sem, y0, y1]) rfl ?_
  exact ⟨⟨p3, n3, c3, (some ⟨g1, 0, Option.none⟩), τ.S.length, c1, rfl, hA9, own_mono hS9 (by omega)⟩, (KV.out.trans kw2.out).thenAt k9 (by have := HB8.out; have := HB6.out; omega)⟩
end Go.Proofs.Ytcplmdgnldmhbaa
