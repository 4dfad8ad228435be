/-
  Acts on a relay, and frames, opened (layer 21). No condition.
-/
import Derived.Test.YtcplmdgnldmhbaaRWakes
import Derived.Test.YtcplmdgnldmhbaaRows
import Derived.WideKeyPair
import Derived.ProofKit
import Derived.OpenShut
import Derived.Deep.Slices
import Derived.Deep.Fields
import Derived.ChangeSame
import Derived.ChangeArms
namespace Go.Proofs.Ytcplmdgnldmhbaa
open Go.ChangeShapes Go.WideShapes Go.Deep Go.RowKit Go.WideMaps
set_option linter.unusedVariables false
set_option linter.unusedSimpArgs false
set_option maxRecDepth 8000

theorem arr31 : ArrKey Try.prog 31 5 6 := ⟨Try.underlying31, by kernel_rfl, by kernel_rfl, by kernel_rfl⟩
theorem of_wf8 {n : Int} (h : (Lit.int .u8 n).wf = true) : 0 ≤ n ∧ n < 256 := by
  have e1 : IntKind.u8.min = 0 := by decide
  have e2 : IntKind.u8.max = 255 := by decide
  simp [Lit.wf, e1, e2] at h; omega
theorem of_wf16 {n : Int} (h : (Lit.int .u16 n).wf = true) : 0 ≤ n ∧ n < 65536 := by
  have e1 : IntKind.u16.min = 0 := by decide
  have e2 : IntKind.u16.max = 65535 := by decide
  simp [Lit.wf, e1, e2] at h; omega

theorem open_mac {H : Type} {enc : TypeId × Value → H} {W : World} {r : Reach} {b0 : Nat} {v : Value} {d : DataW H} {ps : List MemPlace}
    (hval : Value.okWide Try.prog W r b0 31 v) (hd : DataW.Trod enc Try.prog W 0 (fun _ => true) true 31 v d ps) :
    ∃ a b c d e f : Int, v = .agg #[.int .u8 a, .int .u8 b, .int .u8 c, .int .u8 d, .int .u8 e, .int .u8 f] ∧ (0 ≤ a ∧ a < 256) ∧ (0 ≤ b ∧ b < 256) ∧ (0 ≤ c ∧ c < 256) ∧ (0 ≤ d ∧ d < 256) ∧ (0 ≤ e ∧ e < 256) ∧ (0 ≤ f ∧ f < 256) := by
  have A := arr31
  simp only [Value.okWide, A.hu] at hval
  obtain ⟨cs, rfl, h2, _⟩ := hval
  rw [A.size] at h2
  obtain ⟨fuel, hf⟩ := hd
  cases fuel with
  | zero => simp [DataW.trod] at hf
  | succ n =>
    rw [DataW.trod_step] at hf
    unfold DataW.trodStep at hf
    simp only [A.hu, Value.cells] at hf
    rw [if_pos (by rw [A.size]; simpa using h2)] at hf
    simp only [Option.map_eq_some_iff] at hf
    obtain ⟨xs, hx, e1⟩ := hf
    rw [show List.range 6 = [0, 1, 2, 3, 4, 5] from rfl] at hx
    simp only [List.mapM_cons, List.mapM_nil, bind, Option.bind_eq_some_iff, pure, Option.some.injEq, A.one] at hx
    obtain ⟨y0, h0, _, ⟨y1, h1, _, ⟨y2, h2', _, ⟨y3, h3, _, ⟨y4, h4, _, ⟨y5, h5, _, rfl, rfl⟩, rfl⟩, rfl⟩, rfl⟩, rfl⟩, rfl⟩ := hx
    obtain ⟨l⟩ := cs
    match l, h2 with
    | [c0, c1, c2, c3, c4, c5], _ =>
      obtain ⟨z0, g0, _, w0⟩ := DataW.trod_int Try.underlying5 h0
      obtain ⟨z1, g1, _, w1⟩ := DataW.trod_int Try.underlying5 h1
      obtain ⟨z2, g2, _, w2⟩ := DataW.trod_int Try.underlying5 h2'
      obtain ⟨z3, g3, _, w3⟩ := DataW.trod_int Try.underlying5 h3
      obtain ⟨z4, g4, _, w4⟩ := DataW.trod_int Try.underlying5 h4
      obtain ⟨z5, g5, _, w5⟩ := DataW.trod_int Try.underlying5 h5
      simp at g0 g1 g2 g3 g4 g5
      subst g0 g1 g2 g3 g4 g5
      exact ⟨z0, z1, z2, z3, z4, z5, rfl, of_wf8 w0, of_wf8 w1, of_wf8 w2, of_wf8 w3, of_wf8 w4, of_wf8 w5⟩

theorem exists_list {α : Type} {R : Nat → α → Prop} : ∀ n, (∀ i, i < n → ∃ p, R i p) → ∃ l : List α, l.length = n ∧ ∀ i p, l[i]? = some p → R i p
  | 0, _ => ⟨[], rfl, fun i p h => by simp at h⟩
  | n + 1, h => by
    obtain ⟨l, hl, hr⟩ := exists_list n (fun i hi => h i (by omega))
    obtain ⟨p, hp⟩ := h n (by omega)
    refine ⟨l ++ [p], by simp [hl], fun i q hq => ?_⟩
    by_cases hi : i < l.length
    · rw [List.getElem?_append_left hi] at hq; exact hr i q hq
    · rw [List.getElem?_append_right (by omega)] at hq
      have : i - l.length = 0 := by
        rcases Nat.eq_zero_or_pos (i - l.length) with h | h
        · exact h
        · rw [List.getElem?_eq_none (by simp; omega)] at hq; cases hq
      rw [this] at hq
      obtain rfl : p = q := by simpa using hq
      rw [show i = n from by omega]; exact hp

theorem spotless {w : World} {a : Addr} {v : Value} (h : w.cell? (a.add 0) = some v) : a = ⟨a.block, a.off, Option.none⟩ := by
  obtain ⟨b, off, spot⟩ := a
  have : spot = Option.none := World.cell?_spot h
  subst this; rfl
theorem block_lt {w : World} {b o : Nat} {v : Value} (h : w.cell? ⟨b, o, Option.none⟩ = some v) : b < w.heap.size := by
  rcases Nat.lt_or_ge b w.heap.size with h' | h'
  · exact h'
  · simp [World.cell?, Array.getElem?_eq_none h'] at h
theorem add_plain' (b off n : Nat) : (⟨b, off, Option.none⟩ : Addr).add n = ⟨b, off + n, Option.none⟩ := Go.WideShapes.add_plain _ _ _

theorem mac_trod {H : Type} {enc : TypeId × Value → H} {W : World} {b0 : Nat} {sp : Nat → Bool} {held : Bool} {fuel : Nat} {l : List Value} {y : DataW H × List MemPlace} (hf : DataW.trod enc Try.prog W b0 sp held fuel 31 l = some y) :
    ∃ a b c d e f : Int, l = [.int .u8 a, .int .u8 b, .int .u8 c, .int .u8 d, .int .u8 e, .int .u8 f] ∧ (0 ≤ a ∧ a < 256) ∧ (0 ≤ b ∧ b < 256) ∧ (0 ≤ c ∧ c < 256) ∧ (0 ≤ d ∧ d < 256) ∧ (0 ≤ e ∧ e < 256) ∧ (0 ≤ f ∧ f < 256) := by
  have A := arr31
  cases fuel with
  | zero => simp [DataW.trod] at hf
  | succ n =>
    rw [DataW.trod_step] at hf
    unfold DataW.trodStep at hf
    simp only [A.hu] at hf
    split at hf
    · rename_i hlen
      rw [A.size] at hlen
      simp only [Option.map_eq_some_iff] at hf
      obtain ⟨xs, hx, e1⟩ := hf
      rw [show List.range 6 = [0, 1, 2, 3, 4, 5] from rfl] at hx
      simp only [List.mapM_cons, List.mapM_nil, bind, Option.bind_eq_some_iff, pure, Option.some.injEq, A.one] at hx
      obtain ⟨y0, h0, _, ⟨y1, h1, _, ⟨y2, h2', _, ⟨y3, h3, _, ⟨y4, h4, _, ⟨y5, h5, _, rfl, rfl⟩, rfl⟩, rfl⟩, rfl⟩, rfl⟩, rfl⟩ := hx
      match l, hlen with
      | [c0, c1, c2, c3, c4, c5], _ =>
        obtain ⟨z0, g0, _, w0⟩ := DataW.trod_int Try.underlying5 h0
        obtain ⟨z1, g1, _, w1⟩ := DataW.trod_int Try.underlying5 h1
        obtain ⟨z2, g2, _, w2⟩ := DataW.trod_int Try.underlying5 h2'
        obtain ⟨z3, g3, _, w3⟩ := DataW.trod_int Try.underlying5 h3
        obtain ⟨z4, g4, _, w4⟩ := DataW.trod_int Try.underlying5 h4
        obtain ⟨z5, g5, _, w5⟩ := DataW.trod_int Try.underlying5 h5
        simp at g0 g1 g2 g3 g4 g5
        subst g0 g1 g2 g3 g4 g5
        exact ⟨z0, z1, z2, z3, z4, z5, rfl, of_wf8 w0, of_wf8 w1, of_wf8 w2, of_wf8 w3, of_wf8 w4, of_wf8 w5⟩
    · cases hf


/-- A frame. -/
structure Frm where
  dst : Pl
  src : Pl
  tag : Bool
  pri : Int
  fvid : Int
  ty : Int
  data : ByteArray
abbrev Frm.cells (x : Frm) : List Value := [.int .u8 x.dst.a, .int .u8 x.dst.b, .int .u8 x.dst.c, .int .u8 x.dst.d, .int .u8 x.dst.e, .int .u8 x.dst.f, .int .u8 x.src.a, .int .u8 x.src.b, .int .u8 x.src.c, .int .u8 x.src.d, .int .u8 x.src.e, .int .u8 x.src.f, .bool x.tag, .int .u8 x.pri, .int .u16 x.fvid, .int .u16 x.ty, .string x.data]
abbrev Frm.val (x : Frm) : Value := .agg #[.int .u8 x.dst.a, .int .u8 x.dst.b, .int .u8 x.dst.c, .int .u8 x.dst.d, .int .u8 x.dst.e, .int .u8 x.dst.f, .int .u8 x.src.a, .int .u8 x.src.b, .int .u8 x.src.c, .int .u8 x.src.d, .int .u8 x.src.e, .int .u8 x.src.f, .bool x.tag, .int .u8 x.pri, .int .u16 x.fvid, .int .u16 x.ty, .string x.data]
def Frm.Ok (x : Frm) : Prop := x.dst.Ok ∧ x.src.Ok ∧ (0 ≤ x.pri ∧ x.pri < 256) ∧ (0 ≤ x.fvid ∧ x.fvid < 65536) ∧ (0 ≤ x.ty ∧ x.ty < 65536) ∧ x.data.size ≤ maxLen
/-- A frame, of a VLAN. -/
def Frm.at (x : Frm) (v : Int) : Frm := { x with dst := { x.dst with v := v }, src := { x.src with v := v } }
theorem frame_trod {H : Type} {enc : TypeId × Value → H} {W : World} {b0 : Nat} {sp : Nat → Bool} {held : Bool} {fuel : Nat} {l : List Value} {y : DataW H × List MemPlace} (hf : DataW.trod enc Try.prog W b0 sp held fuel 33 l = some y) (v : Int) (hv : 0 ≤ v ∧ v < 65536) :
    ∃ x : Frm, l = x.cells ∧ x.Ok ∧ x.dst.v = v ∧ x.src.v = v := by
  have C31 : Try.prog.cellsOf 31 = 6 := by kernel_rfl
  have C29 : Try.prog.cellsOf 29 = 1 := by kernel_rfl
  have C5 : Try.prog.cellsOf 5 = 1 := by kernel_rfl
  have C4 : Try.prog.cellsOf 4 = 1 := by kernel_rfl
  have C3 : Try.prog.cellsOf 3 = 1 := by kernel_rfl
  have C9 : Try.prog.cellsOf 9 = 1 := by kernel_rfl
  have C33 : Try.prog.cellsOf 33 = 17 := by kernel_rfl
  have C35 : Try.prog.cellsOf 35 = 28 := by kernel_rfl
  obtain ⟨ys, n'', hn', hy, hlen, hyl, hfld⟩ := DataW.trod_struct Try.underlying33 hf
  rw [C33] at hlen
  have f0 : DataW.trod enc Try.prog W b0 sp held n'' 31 (List.take (Try.prog.cellsOf 31) (List.drop 0 l)) = ys[0]? := hfld 0 _ rfl
  have f1 : DataW.trod enc Try.prog W b0 sp held n'' 31 (List.take (Try.prog.cellsOf 31) (List.drop 6 l)) = ys[1]? := hfld 1 _ rfl
  have f2 : DataW.trod enc Try.prog W b0 sp held n'' 4 (List.take (Try.prog.cellsOf 4) (List.drop 12 l)) = ys[2]? := hfld 2 _ rfl
  have f3 : DataW.trod enc Try.prog W b0 sp held n'' 5 (List.take (Try.prog.cellsOf 5) (List.drop 13 l)) = ys[3]? := hfld 3 _ rfl
  have f4 : DataW.trod enc Try.prog W b0 sp held n'' 29 (List.take (Try.prog.cellsOf 29) (List.drop 14 l)) = ys[4]? := hfld 4 _ rfl
  have f5 : DataW.trod enc Try.prog W b0 sp held n'' 29 (List.take (Try.prog.cellsOf 29) (List.drop 15 l)) = ys[5]? := hfld 5 _ rfl
  have f6 : DataW.trod enc Try.prog W b0 sp held n'' 9 (List.take (Try.prog.cellsOf 9) (List.drop 16 l)) = ys[6]? := hfld 6 _ rfl
  have hys : ys.length = 7 := by simpa using hyl
  have gy : ∀ j, j < 7 → ∃ y, ys[j]? = some y := fun j hj => ⟨_, List.getElem?_eq_getElem (by omega)⟩
  rw [C31] at f0
  rw [C31] at f1
  rw [C4] at f2
  rw [C5] at f3
  rw [C29] at f4
  rw [C29] at f5
  rw [C9] at f6
  obtain ⟨y0, e0⟩ := gy 0 (by omega)
  obtain ⟨y1, e1⟩ := gy 1 (by omega)
  obtain ⟨y2, e2⟩ := gy 2 (by omega)
  obtain ⟨y3, e3⟩ := gy 3 (by omega)
  obtain ⟨y4, e4⟩ := gy 4 (by omega)
  obtain ⟨y5, e5⟩ := gy 5 (by omega)
  obtain ⟨y6, e6⟩ := gy 6 (by omega)
  rw [e0] at f0; rw [e1] at f1; rw [e2] at f2; rw [e3] at f3; rw [e4] at f4; rw [e5] at f5; rw [e6] at f6
  match l, hlen with
  | [c0, c1, c2, c3, c4, c5, c6, c7, c8, c9, c10, c11, c12, c13, c14, c15, c16], _ =>
    obtain ⟨p0, p1, p2, p3, p4, p5, g0, r0, r1, r2, r3, r4, r5⟩ := mac_trod f0
    obtain ⟨q0, q1, q2, q3, q4, q5, g1, s0, s1, s2, s3, s4, s5⟩ := mac_trod f1
    obtain ⟨z2, g2, _⟩ := DataW.trod_bool Try.underlying4 f2
    obtain ⟨z3, g3, _, w3⟩ := DataW.trod_int Try.underlying5 f3
    obtain ⟨z4, g4, _, w4⟩ := DataW.trod_int Try.underlying29 f4
    obtain ⟨z5, g5, _, w5⟩ := DataW.trod_int Try.underlying29 f5
    obtain ⟨z6, g6, _, w6⟩ := DataW.trod_string Try.underlying9 f6
    simp at g0 g1 g2 g3 g4 g5 g6
    obtain ⟨rfl, rfl, rfl, rfl, rfl, rfl⟩ := g0
    obtain ⟨rfl, rfl, rfl, rfl, rfl, rfl⟩ := g1
    subst g2 g3 g4 g5 g6
    exact ⟨⟨⟨v, p0, p1, p2, p3, p4, p5⟩, ⟨v, q0, q1, q2, q3, q4, q5⟩, z2, z3, z4, z5, z6⟩, rfl, ⟨⟨hv, r0, r1, r2, r3, r4, r5⟩, ⟨hv, s0, s1, s2, s3, s4, s5⟩, of_wf8 w3, of_wf16 w4, of_wf16 w5, w6⟩, rfl, rfl⟩
theorem open_frame {H : Type} {enc : TypeId × Value → H} {W : World} {r : Reach} {b0 : Nat} {v : Value} {d : DataW H} {ps : List MemPlace}
    (hval : Value.okWide Try.prog W r b0 33 v) (hd : DataW.Trod enc Try.prog W 0 (fun _ => true) true 33 v d ps) (n : Int) (hn : 0 ≤ n ∧ n < 65536) : ∃ x : Frm, v = x.val ∧ x.Ok ∧ x.dst.v = n ∧ x.src.v = n := by
  simp only [Value.okWide, Try.underlying33] at hval
  obtain ⟨cs, rfl, _⟩ := hval
  obtain ⟨fuel, hf⟩ := hd
  simp only [Value.cells] at hf
  obtain ⟨x, hx, h1, h2, h3⟩ := frame_trod hf n hn
  refine ⟨x, ?_, h1, h2, h3⟩
  obtain ⟨l⟩ := cs
  simp at hx
  subst hx
  rfl

/-- An act on a relay. -/
structure RAct where
  d : Int
  m : Pl
  set : Int
  som : Int
  inn : Int
  f : Frm
abbrev RAct.cells (a : RAct) : List Value := [.int .u8 a.d, .int .u16 a.m.v, .int .u8 a.set, .int .u8 a.som, .int .u8 a.m.a, .int .u8 a.m.b, .int .u8 a.m.c, .int .u8 a.m.d, .int .u8 a.m.e, .int .u8 a.m.f, .int .i64 a.inn] ++ a.f.cells
def RAct.Ok (a : RAct) : Prop := 0 ≤ a.d ∧ a.m.Ok ∧ (0 ≤ a.set ∧ a.set < 256) ∧ (0 ≤ a.som ∧ a.som < 256) ∧ (Lit.int .i64 a.inn).wf = true ∧ a.f.Ok ∧ a.f.dst.v = a.m.v ∧ a.f.src.v = a.m.v
/-- Acts in their cells. -/
def RActs (w : World) (b o n : Nat) (l : List RAct) : Prop :=
  l.length = n ∧ ∀ (i : Nat) (a : RAct), l[i]? = some a → (∀ q u, a.cells[q]? = some u → w.cell? ⟨b, o + i * 28 + q, Option.none⟩ = some u) ∧ a.Ok
theorem RActs.keepN {w w' : World} {b o n : Nat} {l : List RAct} (h : RActs w b o n l) (k : Keeps Nil w w') (hb : b < w.heap.size) : RActs w' b o n l :=
  ⟨h.1, fun i a ha => ⟨fun q u hu => (k.cell (p := ⟨b, o + i * 28 + q, Option.none⟩) hb (fun e => e)).trans ((h.2 i a ha).1 q u hu), (h.2 i a ha).2⟩⟩
def IsRActs (w : World) (a : Option Addr) (n c : Nat) : Prop :=
  n ≤ c ∧ n ≤ maxLen ∧ ∃ l, l.length = n ∧ (0 < n → ∃ b o, a = some ⟨b, o, Option.none⟩ ∧ b < w.heap.size ∧ RActs w b o n l)
theorem open_racts {H : Type} {enc : TypeId × Value → H} {W : World} {a : Option Addr} {n c : Nat} {d : DataW H} {p : List MemPlace}
    (h : DataW.Trod enc Try.prog W 0 (fun _ => true) true 22 (.slice a n c) d p) : IsRActs W a n c := by
  obtain ⟨fuel, hf⟩ := h
  have C31 : Try.prog.cellsOf 31 = 6 := by kernel_rfl
  have C29 : Try.prog.cellsOf 29 = 1 := by kernel_rfl
  have C5 : Try.prog.cellsOf 5 = 1 := by kernel_rfl
  have C4 : Try.prog.cellsOf 4 = 1 := by kernel_rfl
  have C3 : Try.prog.cellsOf 3 = 1 := by kernel_rfl
  have C9 : Try.prog.cellsOf 9 = 1 := by kernel_rfl
  have C33 : Try.prog.cellsOf 33 = 17 := by kernel_rfl
  have C35 : Try.prog.cellsOf 35 = 28 := by kernel_rfl
  rcases open_slice Try.underlying22 hf with h0 | ⟨x, len, cap, m, n', D, Pl', hcs, hb, hl, hm, hmm, hx, hi⟩
  · have hcs := h0.1
    simp [Value.cells] at hcs
    obtain ⟨rfl, rfl, rfl⟩ := hcs
    exact ⟨Nat.le_refl _, Nat.zero_le _, [], rfl, fun h => by omega⟩
  · simp [Value.cells] at hcs
    obtain ⟨rfl, rfl, rfl⟩ := hcs
    simp only [if_true] at hmm
    subst hmm
    have he : ∀ i, i < n → ∃ z : RAct, (∀ q u, z.cells[q]? = some u → W.cell? (x.add (i * 28 + q)) = some u) ∧ z.Ok := by
      intro i hin
      obtain ⟨cs', hc, ht'⟩ := hi i (by omega)
      rw [C35] at hc
      obtain ⟨ys, n'', hn', hy, hlen, hyl, hfld⟩ := DataW.trod_struct Try.underlying35 ht'
      obtain ⟨_, hcl, hat⟩ := World.cells?_some hc
      rw [C35] at hlen
      have f0 : DataW.trod enc Try.prog W 0 (fun _ => true) true n'' 5 (List.take (Try.prog.cellsOf 5) (List.drop 0 cs')) = ys[0]? := hfld 0 _ rfl
      have f1 : DataW.trod enc Try.prog W 0 (fun _ => true) true n'' 29 (List.take (Try.prog.cellsOf 29) (List.drop 1 cs')) = ys[1]? := hfld 1 _ rfl
      have f2 : DataW.trod enc Try.prog W 0 (fun _ => true) true n'' 5 (List.take (Try.prog.cellsOf 5) (List.drop 2 cs')) = ys[2]? := hfld 2 _ rfl
      have f3 : DataW.trod enc Try.prog W 0 (fun _ => true) true n'' 5 (List.take (Try.prog.cellsOf 5) (List.drop 3 cs')) = ys[3]? := hfld 3 _ rfl
      have f4 : DataW.trod enc Try.prog W 0 (fun _ => true) true n'' 31 (List.take (Try.prog.cellsOf 31) (List.drop 4 cs')) = ys[4]? := hfld 4 _ rfl
      have f5 : DataW.trod enc Try.prog W 0 (fun _ => true) true n'' 3 (List.take (Try.prog.cellsOf 3) (List.drop 10 cs')) = ys[5]? := hfld 5 _ rfl
      have f6 : DataW.trod enc Try.prog W 0 (fun _ => true) true n'' 33 (List.take (Try.prog.cellsOf 33) (List.drop 11 cs')) = ys[6]? := hfld 6 _ rfl
      have hys : ys.length = 7 := by simpa using hyl
      have gy : ∀ j, j < 7 → ∃ y, ys[j]? = some y := fun j hj => ⟨_, List.getElem?_eq_getElem (by omega)⟩
      rw [C5] at f0
      rw [C29] at f1
      rw [C5] at f2
      rw [C5] at f3
      rw [C31] at f4
      rw [C3] at f5
      rw [C33] at f6
      obtain ⟨y0, e0⟩ := gy 0 (by omega)
      obtain ⟨y1, e1⟩ := gy 1 (by omega)
      obtain ⟨y2, e2⟩ := gy 2 (by omega)
      obtain ⟨y3, e3⟩ := gy 3 (by omega)
      obtain ⟨y4, e4⟩ := gy 4 (by omega)
      obtain ⟨y5, e5⟩ := gy 5 (by omega)
      obtain ⟨y6, e6⟩ := gy 6 (by omega)
      rw [e0] at f0; rw [e1] at f1; rw [e2] at f2; rw [e3] at f3; rw [e4] at f4; rw [e5] at f5; rw [e6] at f6
      match cs', hlen, hat with
      | [c0, c1, c2, c3, c4, c5, c6, c7, c8, c9, c10, c11, c12, c13, c14, c15, c16, c17, c18, c19, c20, c21, c22, c23, c24, c25, c26, c27], _, hat =>
        obtain ⟨z0, g0, _, w0⟩ := DataW.trod_int Try.underlying5 f0
        obtain ⟨z1, g1, _, w1⟩ := DataW.trod_int Try.underlying29 f1
        obtain ⟨z2, g2, _, w2⟩ := DataW.trod_int Try.underlying5 f2
        obtain ⟨z3, g3, _, w3⟩ := DataW.trod_int Try.underlying5 f3
        obtain ⟨m0, m1, m2, m3, m4, m5, g4, r0, r1, r2, r3, r4, r5⟩ := mac_trod f4
        obtain ⟨z5, g5, _, w5⟩ := DataW.trod_int Try.underlying3 f5
        obtain ⟨fr, g6, hfo, hfd, hfs⟩ := frame_trod f6 z1 (of_wf16 w1)
        simp at g0 g1 g2 g3 g4 g5
        obtain ⟨rfl, rfl, rfl, rfl, rfl, rfl⟩ := g4
        subst g0 g1 g2 g3 g5
        refine ⟨⟨z0, ⟨z1, m0, m1, m2, m3, m4, m5⟩, z2, z3, z5, fr⟩, fun q u hu => ?_, (of_wf8 w0).1, ⟨of_wf16 w1, r0, r1, r2, r3, r4, r5⟩, of_wf8 w2, of_wf8 w3, w5, hfo, hfd, hfs⟩
        have hq : q < 28 := by have := (List.getElem?_eq_some_iff.1 hu).1; simpa using this
        have := hat q hq
        rw [← Go.Deep.add_add, this]
        have h6 : [c11, c12, c13, c14, c15, c16, c17, c18, c19, c20, c21, c22, c23, c24, c25, c26, c27] = fr.cells := by simpa using g6
        have hu' : ([Value.int .u8 z0, .int .u16 z1, .int .u8 z2, .int .u8 z3, .int .u8 m0, .int .u8 m1, .int .u8 m2, .int .u8 m3, .int .u8 m4, .int .u8 m5, .int .i64 z5] ++ fr.cells)[q]? = some u := hu
        rw [← h6] at hu'
        exact hu'
    obtain ⟨l, hll, hl'⟩ := exists_list n he
    refine ⟨hl, Nat.le_trans hl hm, l, hll, fun hn => ?_⟩
    obtain ⟨z, hz⟩ : ∃ z, l[0]? = some z := ⟨_, List.getElem?_eq_getElem (by omega)⟩
    have h0 := (hl' 0 z hz).1 0 _ rfl
    have hx' := spotless h0
    obtain ⟨b, off, spot⟩ := x
    simp at hx'
    subst hx'
    simp only [add_plain'] at hl' h0
    exact ⟨b, off, rfl, block_lt h0, hll, fun i a ha => ⟨fun q u hu => by rw [Nat.add_assoc]; exact (hl' i a ha).1 q u hu, (hl' i a ha).2⟩⟩
end Go.Proofs.Ytcplmdgnldmhbaa
