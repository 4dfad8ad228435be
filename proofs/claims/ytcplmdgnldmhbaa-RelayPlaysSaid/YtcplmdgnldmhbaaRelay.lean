/-
  Layer 21: a relay; what it tells of a frame. Conditions: it lies so; the numbers are in range.
-/
import Derived.Test.YtcplmdgnldmhbaaEq
import Derived.Deep.RegionHeld3
namespace Go.Proofs.Ytcplmdgnldmhbaa
open Go.RowKit
set_option linter.unusedVariables false
set_option linter.unusedSimpArgs false
set_option maxRecDepth 8000

theorem TbIs.not_own {w : World} {B t mb n c : Nat} {p : Option Addr} {τ : Tb} (h : TbIs w B t mb p n c τ) {k : Nat} {cs : Array Value} {T : TypeId} {f : Nat × Nat} (hk : w.heap[k]? = some (.cells cs T f)) (h1 : T ≠ 91) (h2 : T ≠ 95) : ¬ TOwn t mb p k := by
  rintro (e | e | e)
  · subst e
    have := h.1
    rw [hk] at this
    injection this with this
    injection this with _ this
    exact h1 this
  · subst e
    obtain ⟨es, cl, hb⟩ := h.2.2.raw
    rw [hk] at hb
    cases hb
  · exact h.2.1.ne_cells hk h2 e
theorem TbIs.own_ge {w : World} {B t mb n c : Nat} {p : Option Addr} {τ : Tb} (h : TbIs w B t mb p n c τ) (ht : B ≤ t) (hm : B ≤ mb) : ∀ g, TOwn t mb p g → B ≤ g := by
  rintro g (e | e | e)
  · omega
  · omega
  · obtain ⟨_, ⟨h1, _⟩ | ⟨y, h1, hb, _⟩⟩ := h.2.1
    · unfold InP at e; rw [h1] at e; cases e
    · unfold InP at e
      rw [h1] at e
      injection e with e
      injection e with e
      omega

theorem TbIs.down {w : World} {B B' t mb n c : Nat} {p : Option Addr} {τ : Tb} (h : TbIs w B' t mb p n c τ) (hb : B ≤ B') : TbIs w B t mb p n c τ := by
  obtain ⟨h1, ⟨h2, h3 | ⟨g, e, hg, hr⟩⟩, h4⟩ := h
  · exact ⟨h1, ⟨h2, .inl h3⟩, h4⟩
  · exact ⟨h1, ⟨h2, .inr ⟨g, e, Nat.le_trans hb hg, hr⟩⟩, h4⟩
/-! ## Reserved addresses -/
def resvB (q : Pl) : Bool := decide (q.a = 1 ∧ q.b = 128 ∧ q.c = 194 ∧ q.d = 0 ∧ q.e = 0 ∧ bits BinOp.and .u8 q.f 240 = 0)
set_option maxHeartbeats 1000000 in
theorem own_any (w : World) : Calls Try.prog 58 #[] w fun e w' => e = .returned (.agg #[.int .u8 1, .int .u8 128, .int .u8 194, .int .u8 0, .int .u8 0, .int .u8 0]) ∧ Keeps Nil w w' := by
  go_enter Try.func58, Try.ntmps58
  go_wp2_with fail
  have hb := alloc_block w (.cells #[Value.int IntKind.u8 1, Value.int IntKind.u8 128, Value.int IntKind.u8 194, Value.int IntKind.u8 0, Value.int IntKind.u8 0, Value.int IntKind.u8 0] 31 (0, 0))
  obtain ⟨c0, c1, c2, c3, c4, c5⟩ := six_of hb
  refine bodyPost_ret (v := (.agg #[.int .u8 1, .int .u8 128, .int .u8 194, .int .u8 0, .int .u8 0, .int .u8 0])) (by simp [results, Try.results58, go_sem, c0, c1, c2, c3, c4, c5]) rfl ?_
  exact ⟨rfl, (Keeps.refl Nil w).alloc _⟩
set_option maxHeartbeats 4000000 in
theorem resv_any (q : Pl) (w : World) : Calls Try.prog 40 #[q.mac] w fun e w' => e = .returned (.bool (resvB q)) ∧ Keeps Nil w w' := by
  have hE : ∀ W, (binOp .eql 31 (.agg #[.int .u8 q.a, .int .u8 q.b, .int .u8 q.c, .int .u8 q.d, .int .u8 q.e, .int .u8 (bits BinOp.and .u8 q.f 240)]) (.agg #[.int .u8 1, .int .u8 128, .int .u8 194, .int .u8 0, .int .u8 0, .int .u8 0])).run Try.prog W = .ok (.bool (resvB q)) W := fun W => eql25 q.a q.b q.c q.d q.e (bits BinOp.and .u8 q.f 240) 1 128 194 0 0 0 (resvB q) rfl W
  have kz : Keeps Nil w (w.alloc (.cells #[Value.int IntKind.u8 q.a, Value.int IntKind.u8 q.b, Value.int IntKind.u8 q.c, Value.int IntKind.u8 q.d, Value.int IntKind.u8 q.e, Value.int IntKind.u8 q.f] 31 (0, 0))) := (Keeps.refl _ _).alloc _
  have hb := alloc_block w (.cells #[Value.int IntKind.u8 q.a, Value.int IntKind.u8 q.b, Value.int IntKind.u8 q.c, Value.int IntKind.u8 q.d, Value.int IntKind.u8 q.e, Value.int IntKind.u8 q.f] 31 (0, 0))
  go_enter Try.func40, Try.ntmps40
  go_upto_region 1 with (fail)
  generalize (w.alloc (.cells #[Value.int IntKind.u8 q.a, Value.int IntKind.u8 q.b, Value.int IntKind.u8 q.c, Value.int IntKind.u8 q.d, Value.int IntKind.u8 q.e, Value.int IntKind.u8 q.f] 31 (0, 0))) = wz at *
  have hbx : w.heap.size < wz.heap.size := lt_of_block hb
  have hbx0 : w.heap.size ≤ w.heap.size := Nat.le_refl _
  generalize hbxe : w.heap.size = bx at hb hbx hbx0 ⊢
  obtain ⟨c0, c1, c2, c3, c4, c5⟩ := six_of hb
  have hf : wz.frozen? ⟨bx, 5, Option.none⟩ = false := by simp [World.frozen?, hb]
  go_upto_region 2 with (fail)
  have ks : Keeps Nil w (wz.setCell ⟨bx, 5, Option.none⟩ (.int .u8 (bits BinOp.and .u8 q.f 240))) := kz.setCell (fun h => by have h : bx < w.heap.size := h; omega) _
  have hm := setCell_block hb 5 (.int .u8 (bits BinOp.and .u8 q.f 240))
  clear c0 c1 c2 c3 c4 c5 hf kz hb hbx
  generalize (wz.setCell ⟨bx, 5, Option.none⟩ (.int .u8 (bits BinOp.and .u8 q.f 240))) = wy at *
  have hm : wy.heap[bx]? = some (.cells #[Value.int IntKind.u8 q.a, Value.int IntKind.u8 q.b, Value.int IntKind.u8 q.c, Value.int IntKind.u8 q.d, Value.int IntKind.u8 q.e, Value.int IntKind.u8 (bits BinOp.and .u8 q.f 240)] 31 (0, 0)) := hm
  have HH : Hid (∀ X, Keeps Nil wy X → (fun X : World => X.cell? ⟨bx, 0, Option.none⟩ = some (.int .u8 q.a) ∧ X.cell? ⟨bx, 1, Option.none⟩ = some (.int .u8 q.b) ∧ X.cell? ⟨bx, 2, Option.none⟩ = some (.int .u8 q.c) ∧ X.cell? ⟨bx, 3, Option.none⟩ = some (.int .u8 q.d) ∧ X.cell? ⟨bx, 4, Option.none⟩ = some (.int .u8 q.e) ∧ X.cell? ⟨bx, 5, Option.none⟩ = some (.int .u8 (bits BinOp.and .u8 q.f 240))) X) := hid (fun X kX => six_of (kX.lies hm))
  have kk : Keeps Nil wy wy := Keeps.refl _ _
  have KS := hid ks
  clear ks hm
  go_region_held3 (fun X : World => X.cell? ⟨bx, 0, Option.none⟩ = some (.int .u8 q.a) ∧ X.cell? ⟨bx, 1, Option.none⟩ = some (.int .u8 q.b) ∧ X.cell? ⟨bx, 2, Option.none⟩ = some (.int .u8 q.c) ∧ X.cell? ⟨bx, 3, Option.none⟩ = some (.int .u8 q.d) ∧ X.cell? ⟨bx, 4, Option.none⟩ = some (.int .u8 q.e) ∧ X.cell? ⟨bx, 5, Option.none⟩ = some (.int .u8 (bits BinOp.and .u8 q.f 240))) (first | exact HH.out _ kk | exact HH.out _ kk.drew | exact HH.out _ kk.drew.drew) ((go_at_call 58; refine (own_any _).mono ?_; rintro ee wv ⟨rfl, kv⟩; have kk : Keeps Nil wy wv := by first | exact kk.trans kv | exact kk.drew.trans kv | exact kk.drew.drew.trans kv))
  all_goals go_wp2_with fail
  all_goals go_ret
  all_goals exact ⟨rfl, KS.out.trans (by first | exact kk | exact kk.drew)⟩

/-! ## The relay -/
def RIs (w : World) (B r vt vm t mb : Nat) (p : Option Addr) (m c : Nat) (n : Int) (V : List (Pl × Int)) (τ : Tb) : Prop :=
  w.heap[r]? = some (.cells #[Value.pointer (some ⟨vt, 0, Option.none⟩), Value.pointer (some ⟨t, 0, Option.none⟩)] 78 (0, 0)) ∧ VIs w vt vm n V ∧ TbIs w B t mb p m c τ ∧ vm ≠ mb ∧ B ≤ vm ∧ B ≤ t ∧ B ≤ mb
theorem RIs.keepN {w : World} {B r vt vm t mb m c : Nat} {p : Option Addr} {n : Int} {V : List (Pl × Int)} {τ : Tb} {w' : World} (h : RIs w B r vt vm t mb p m c n V τ) (k : Keeps Nil w w') : RIs w' B r vt vm t mb p m c n V τ :=
  ⟨k.lies h.1, h.2.1.keepN k, h.2.2.1.keepN k, h.2.2.2⟩
theorem RIs.not_v {w : World} {B r vt vm t mb m c : Nat} {p : Option Addr} {n : Int} {V : List (Pl × Int)} {τ : Tb} (h : RIs w B r vt vm t mb p m c n V τ) : ¬ TOwn t mb p vt ∧ ¬ TOwn t mb p vm ∧ ¬ TOwn t mb p r := by
  refine ⟨h.2.2.1.not_own h.2.1.1 (by decide) (by decide), ?_, h.2.2.1.not_own h.1 (by decide) (by decide)⟩
  obtain ⟨es, cl, hb⟩ := h.2.1.2.raw
  rintro (e | e | e)
  · have h1 := h.2.2.1.1
    rw [← e, hb] at h1
    cases h1
  · exact h.2.2.2.1 e
  · exact h.2.2.1.2.1.ne_map hb e
/-- Behind a turn of the database. -/
theorem RIs.turn {w : World} {B r vt vm t mb m c : Nat} {p : Option Addr} {n : Int} {V : List (Pl × Int)} {τ : Tb} {w' : World} {p' : Option Addr} {m' c' : Nat} {τ' : Tb} (h : RIs w B r vt vm t mb p m c n V τ) (k : Keeps (TOwn t mb p) w w') (i : TbIs w' B t mb p' m' c' τ') : RIs w' B r vt vm t mb p' m' c' n V τ' :=
  ⟨k.lies h.1 h.not_v.2.2, h.2.1.keep k h.not_v.1 h.not_v.2.1, i, h.2.2.2⟩
theorem vlans_any {B r vt vm t mb m c : Nat} {p : Option Addr} {n : Int} {V : List (Pl × Int)} {τ : Tb} (w : World) (h : RIs w B r vt vm t mb p m c n V τ) : Calls Try.prog 9 #[.pointer (some ⟨r, 0, Option.none⟩)] w fun e w' => e = .returned (.pointer (some ⟨vt, 0, Option.none⟩)) ∧ w = w' := by
  obtain ⟨a0, a1⟩ := two_cells h.1
  clear h
  go_enter Try.func9, Try.ntmps9
  go_wp2
  go_ret
  exact ⟨rfl, rfl⟩
theorem base_any {B r vt vm t mb m c : Nat} {p : Option Addr} {n : Int} {V : List (Pl × Int)} {τ : Tb} (w : World) (h : RIs w B r vt vm t mb p m c n V τ) : Calls Try.prog 11 #[.pointer (some ⟨r, 0, Option.none⟩)] w fun e w' => e = .returned (.pointer (some ⟨t, 0, Option.none⟩)) ∧ w = w' := by
  obtain ⟨a0, a1⟩ := two_cells h.1
  clear h
  go_enter Try.func11, Try.ntmps11
  go_wp2
  go_ret
  exact ⟨rfl, rfl⟩
set_option maxHeartbeats 4000000 in
theorem rnew_any (n : Int) (h1 : 1 ≤ n) (h8 : n ≤ 8) (w : World) : Calls Try.prog 8 #[.int .i64 n] w fun e w' => ∃ r vt vm t mb, e = .returned (.tuple #[.pointer (some ⟨r, 0, Option.none⟩), .int .i64 0]) ∧ RIs w' w.heap.size r vt vm t mb Option.none 0 0 n [] ⟨[], []⟩ ∧ Keeps Nil w w' := by
  go_enter Try.func8, Try.ntmps8
  go_wp2_with fail
  refine (vnew_any n h1 h8 w).mono ?_; rintro e w1 ⟨vt, vm, rfl, hv, hvt, hvm, k1⟩
  have HV := hid hv
  have K1 := hid k1
  have hs1 := k1.size
  have hvl := hv.2.lt
  clear hv k1
  go_wp2_with fail
  refine (new_any w1).mono ?_; rintro ee w2 ⟨t, mb, rfl, i2, ht, hmb, k2⟩
  have I2 := hid i2
  have K2 := hid k2
  clear i2 k2
  go_wp2_with fail
  go_ret2
  have kx : Keeps Nil w2 (w2.alloc (.cells #[Value.pointer (some ⟨vt, 0, Option.none⟩), Value.pointer (some ⟨t, 0, Option.none⟩)] 78 (0, 0))) := (Keeps.refl _ _).alloc _
  exact ⟨_, vt, vm, t, mb, rfl, ⟨alloc_block w2 (.cells #[Value.pointer (some ⟨vt, 0, Option.none⟩), Value.pointer (some ⟨t, 0, Option.none⟩)] 78 (0, 0)), (HV.out.keepN K2.out).keepN kx, (TbIs.down I2.out hs1).keepN kx, by omega, hvm, by omega, by omega⟩, (K1.out.trans K2.out).trans kx⟩
theorem f17_of {w : World} {b : Nat} {T : TypeId} {v0 v1 v2 v3 v4 v5 v6 v7 v8 v9 v10 v11 v12 v13 v14 v15 v16 : Value} (h : w.heap[b]? = some (.cells #[v0, v1, v2, v3, v4, v5, v6, v7, v8, v9, v10, v11, v12, v13, v14, v15, v16] T (0, 0))) :
    w.cell? ⟨b, 0, Option.none⟩ = some v0 ∧ w.cell? ⟨b, 1, Option.none⟩ = some v1 ∧ w.cell? ⟨b, 2, Option.none⟩ = some v2 ∧ w.cell? ⟨b, 3, Option.none⟩ = some v3 ∧ w.cell? ⟨b, 4, Option.none⟩ = some v4 ∧ w.cell? ⟨b, 5, Option.none⟩ = some v5 ∧ w.cell? ⟨b, 6, Option.none⟩ = some v6 ∧ w.cell? ⟨b, 7, Option.none⟩ = some v7 ∧ w.cell? ⟨b, 8, Option.none⟩ = some v8 ∧ w.cell? ⟨b, 9, Option.none⟩ = some v9 ∧ w.cell? ⟨b, 10, Option.none⟩ = some v10 ∧ w.cell? ⟨b, 11, Option.none⟩ = some v11 ∧ w.cell? ⟨b, 12, Option.none⟩ = some v12 ∧ w.cell? ⟨b, 13, Option.none⟩ = some v13 ∧ w.cell? ⟨b, 14, Option.none⟩ = some v14 ∧ w.cell? ⟨b, 15, Option.none⟩ = some v15 ∧ w.cell? ⟨b, 16, Option.none⟩ = some v16 := by
  simp [World.cell?, h]

theorem pow_wrap {p : Int} (h0 : 0 ≤ p) (h8 : p < 8) : IntKind.u8.wrap ((2 : Int) ^ p.toNat) = 2 ^ p.toNat := by
  have key : ∀ n : Fin 8, IntKind.u8.wrap ((2 : Int) ^ (n : Nat)) = 2 ^ (n : Nat) := by decide +kernel
  exact key ⟨p.toNat, by omega⟩
open Classical in
/-- What a relay tells of a frame, and its database behind it. -/
noncomputable def goesP (V : List (Pl × Int)) (τ : Tb) (inn : Int) (dst src : Pl) (set : Int) : Int × Tb :=
  if resvB dst = true then (0, τ)
  else if 0 ≤ inn then
    if 8 ≤ inn ∨ (bits BinOp.and .u8 (bits BinOp.and .u8 (vcode V dst.v / 256) set / 2 ^ inn.toNat) 1 == 0) = true then (0, τ)
    else match (τ.learn src inn).look dst with
      | (u, z) => (if z then bits BinOp.and .u8 (bits BinOp.andNot .u8 (bits BinOp.and .u8 (vcode V dst.v / 256) set) (2 ^ inn.toNat)) u else bits BinOp.andNot .u8 (bits BinOp.and .u8 (vcode V dst.v / 256) set) (2 ^ inn.toNat), τ.learn src inn)
  else match τ.look dst with
    | (u, z) => (if z then bits BinOp.and .u8 (bits BinOp.and .u8 (vcode V dst.v / 256) set) u else bits BinOp.and .u8 (vcode V dst.v / 256) set, τ)

set_option maxHeartbeats 16000000 in
theorem goes_any {B r vt vm t mb m c : Nat} {p : Option Addr} {n : Int} {V : List (Pl × Int)} {τ : Tb} {k : Nat} (w : World) (h : RIs w B r vt vm t mb p m c n V τ) (g : τ.Good k) (hB : B ≤ w.heap.size) (inn : Int) (dst src : Pl) (hd : dst.Ok) (hs : src.Ok) (hsv : src.v = dst.v) (set : Int) (hset : 0 ≤ set ∧ set < 256) (z0 z1 z2 z3 z4 : Value) :
    Calls Try.prog 16 #[.pointer (some ⟨r, 0, Option.none⟩), .int .i64 inn, .int .u16 dst.v, .agg #[Value.int IntKind.u8 dst.a, Value.int IntKind.u8 dst.b, Value.int IntKind.u8 dst.c, Value.int IntKind.u8 dst.d, Value.int IntKind.u8 dst.e, Value.int IntKind.u8 dst.f, Value.int IntKind.u8 src.a, Value.int IntKind.u8 src.b, Value.int IntKind.u8 src.c, Value.int IntKind.u8 src.d, Value.int IntKind.u8 src.e, Value.int IntKind.u8 src.f, z0, z1, z2, z3, z4], .int .u8 set] w fun e w' => e = .returned (.int .u8 (goesP V τ inn dst src set).1) ∧ (∃ p' m' c', RIs w' B r vt vm t mb p' m' c' n V (goesP V τ inn dst src set).2) ∧ Keeps (TOwn t mb p) w w' := by
  obtain ⟨⟨res, τ'⟩, hP⟩ : ∃ x, goesP V τ inn dst src set = x := ⟨_, rfl⟩
  rw [hP]
  unfold goesP at hP
  have kz : Keeps Nil w (w.alloc (.cells #[Value.int IntKind.u8 dst.a, Value.int IntKind.u8 dst.b, Value.int IntKind.u8 dst.c, Value.int IntKind.u8 dst.d, Value.int IntKind.u8 dst.e, Value.int IntKind.u8 dst.f, Value.int IntKind.u8 src.a, Value.int IntKind.u8 src.b, Value.int IntKind.u8 src.c, Value.int IntKind.u8 src.d, Value.int IntKind.u8 src.e, Value.int IntKind.u8 src.f, z0, z1, z2, z3, z4] 33 (0, 0))) := (Keeps.refl _ _).alloc _
  have hb := alloc_block w (.cells #[Value.int IntKind.u8 dst.a, Value.int IntKind.u8 dst.b, Value.int IntKind.u8 dst.c, Value.int IntKind.u8 dst.d, Value.int IntKind.u8 dst.e, Value.int IntKind.u8 dst.f, Value.int IntKind.u8 src.a, Value.int IntKind.u8 src.b, Value.int IntKind.u8 src.c, Value.int IntKind.u8 src.d, Value.int IntKind.u8 src.e, Value.int IntKind.u8 src.f, z0, z1, z2, z3, z4] 33 (0, 0))
  have R1 := hid (h.keepN kz)
  have HDO := hid hd
  have HSO := hid hs
  have HSV := hid hsv
  have HG := hid g
  have HBS := hid (Nat.le_trans hB kz.size)
  have HPP := hid hP
  clear h g hP hB hs hsv
  go_enter Try.func16, Try.ntmps16
  go_upto_region 1 with (fail)
  generalize (w.alloc (.cells #[Value.int IntKind.u8 dst.a, Value.int IntKind.u8 dst.b, Value.int IntKind.u8 dst.c, Value.int IntKind.u8 dst.d, Value.int IntKind.u8 dst.e, Value.int IntKind.u8 dst.f, Value.int IntKind.u8 src.a, Value.int IntKind.u8 src.b, Value.int IntKind.u8 src.c, Value.int IntKind.u8 src.d, Value.int IntKind.u8 src.e, Value.int IntKind.u8 src.f, z0, z1, z2, z3, z4] 33 (0, 0))) = wz at *
  generalize w.heap.size = bF at *
  obtain ⟨f0, f1, f2, f3, f4, f5, f6, f7, f8, f9, f10, f11, f12, f13, f14, f15, f16⟩ := f17_of hb
  have F1 := hid hb
  have K1 := hid kz
  clear hb kz
  go_wp2_with (first | (go_at_call 9; refine (vlans_any _ R1.out).mono ?_; rintro ee wq ⟨rfl, rfl⟩) | (go_at_call 11; refine (base_any _ R1.out).mono ?_; rintro ee wq ⟨rfl, rfl⟩))
  refine (resv_any dst wz).mono ?_; rintro ee w2 ⟨rfl, k2⟩
  clear f0 f1 f2 f3 f4 f5 f6 f7 f8 f9 f10 f11 f12 f13 f14 f15 f16
  have hB2 := Nat.le_trans HBS.out k2.size
  have R2 := hid (R1.out.keepN k2)
  have F2 := hid (k2.lies F1.out)
  have K2 := hid (K1.out.trans k2.ofNil)
  clear k2
  have hP := HPP.out
  clear HPP
  cases hr : resvB dst with
  | true =>
    rw [if_pos hr] at hP
    injection hP with e1 e2
    subst e1 e2
    go_wp2_with fail
    go_ret
    exact ⟨rfl, ⟨_, _, _, R2.out⟩, K2.out.ofNil⟩
  | false =>
    rw [if_neg (by rw [hr]; simp)] at hP
    have HMEM := hid (members_any w2 R2.out.2.1 hd.1)
    clear hr hd
    obtain ⟨f0, f1, f2, f3, f4, f5, f6, f7, f8, f9, f10, f11, f12, f13, f14, f15, f16⟩ := f17_of F2.out
    by_cases h0 : 0 ≤ inn
    · rw [if_pos h0] at hP
      by_cases h8 : 8 ≤ inn
      · rw [if_pos (.inl h8)] at hP
        injection hP with e1 e2
        subst e1 e2
        go_wp2_with (go_at_call 17; refine HMEM.out.mono ?_; rintro ee wq ⟨rfl, rfl⟩)
        go_ret
        exact ⟨rfl, ⟨_, _, _, R2.out⟩, K2.out.ofNil⟩
      · cases hbt : (bits BinOp.and .u8 (bits BinOp.and .u8 (vcode V dst.v / 256) set / 2 ^ inn.toNat) 1 == 0) with
        | true =>
          rw [if_pos (.inr hbt)] at hP
          injection hP with e1 e2
          subst e1 e2
          go_wp2_with (go_at_call 17; refine HMEM.out.mono ?_; rintro ee wq ⟨rfl, rfl⟩)
          go_ret
          exact ⟨rfl, ⟨_, _, _, R2.out⟩, K2.out.ofNil⟩
        | false =>
          rw [if_neg (by rw [hbt]; rintro (h | h); exact h8 h; cases h)] at hP
          have hsh : IntKind.u8.wrap ((2 : Int) ^ inn.toNat) = 2 ^ inn.toNat := pow_wrap h0 (by omega)
          have hcv : IntKind.u8.wrap inn = inn := by rw [IntKind.wrap_u8]; omega
          go_wp2_with (go_at_call 17; refine HMEM.out.mono ?_; rintro ee wq ⟨rfl, rfl⟩)
          have hpl := p_learn R2.out.2.2.1 HG.out hB2 src HSO.out inn
          rw [HSV.out] at hpl
          refine hpl.mono ?_
          rintro ee w4 ⟨rfl, ⟨p4, m4, c4, i4, _⟩, k4⟩
          have hG1 := HG.out.learn src inn h0
          have HG1 := hid hG1
          have R4 := hid (R2.out.turn k4 i4)
          have F4 := hid (k4.lies F2.out (R2.out.2.2.1.not_own F2.out (by decide) (by decide)))
          have K4 := hid (K2.out.ofNil.trans' k4 (fun x hx e => e))
          clear i4 k4 hG1 f0 f1 f2 f3 f4 f5 f6 f7 f8 f9 f10 f11 f12 f13 f14 f15 f16
          rcases hlk : (τ.learn src inn).look dst with ⟨u, z⟩
          rw [hlk] at hP
          have HLK := hid hlk
          clear hlk
          obtain ⟨f0, f1, f2, f3, f4, f5, f6, f7, f8, f9, f10, f11, f12, f13, f14, f15, f16⟩ := f17_of F4.out
          go_wp2_with fail
          have hpl := p_look R4.out.2.2.1 HG1.out dst HDO.out
          rw [HLK.out] at hpl
          refine hpl.mono ?_
          rintro ee w5 ⟨rfl, k5⟩
          cases z with
          | true =>
            injection hP with e1 e2
            subst e1 e2
            go_wp2_with fail
            go_ret
            exact ⟨rfl, ⟨_, _, _, R4.out.keepN k5⟩, K4.out.thenNil k5⟩
          | false =>
            injection hP with e1 e2
            subst e1 e2
            go_wp2_with fail
            go_ret
            exact ⟨rfl, ⟨_, _, _, R4.out.keepN k5⟩, K4.out.thenNil k5⟩
    · rw [if_neg h0] at hP
      rcases hlk : (τ).look dst with ⟨u, z⟩
      rw [hlk] at hP
      have HLK := hid hlk
      clear hlk
      go_wp2_with (go_at_call 17; refine HMEM.out.mono ?_; rintro ee wq ⟨rfl, rfl⟩)
      have hpl := p_look R2.out.2.2.1 HG.out dst HDO.out
      rw [HLK.out] at hpl
      refine hpl.mono ?_
      rintro ee w5 ⟨rfl, k5⟩
      cases z with
      | true =>
        injection hP with e1 e2
        subst e1 e2
        go_wp2_with fail
        go_ret
        exact ⟨rfl, ⟨_, _, _, R2.out.keepN k5⟩, K2.out.ofNil.thenNil k5⟩
      | false =>
        injection hP with e1 e2
        subst e1 e2
        go_wp2_with fail
        go_ret
        exact ⟨rfl, ⟨_, _, _, R2.out.keepN k5⟩, K2.out.ofNil.thenNil k5⟩
end Go.Proofs.Ytcplmdgnldmhbaa
