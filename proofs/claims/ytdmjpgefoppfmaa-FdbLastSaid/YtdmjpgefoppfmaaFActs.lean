/-
  FdbPlays' acts in their cells, opened (layer 8). No condition.
-/
import Derived.Test.YtdmjpgefoppfmaaFSame
import Derived.Test.YtdmjpgefoppfmaaFArgs
import Derived.Test.YtdmjpgefoppfmaaRows
import Derived.ProofKit
import Derived.OpenShut
import Derived.Deep.Slices
import Derived.Deep.Fields
import Derived.ChangeSame
namespace Go.Proofs.Ytdmjpgefoppfmaa
open Go.ChangeShapes Go.WideShapes Go.Deep Go.RowKit Go.WideMaps
set_option linter.unusedVariables false

theorem exists_list {α : Type} {R : Nat → α → Prop} : ∀ n, (∀ i, i < n → ∃ p, R i p) → ∃ l : List α, l.length = n ∧ ∀ i p, l[i]? = some p → R i p
  | 0, _ => ⟨[], rfl, fun i p h => by simp at h⟩
  | n + 1, h => by
    obtain ⟨l, hl, hr⟩ := exists_list n (fun i hi => h i (by omega))
    obtain ⟨p, hp⟩ := h n (by omega)
    refine ⟨l ++ [p], by simp [hl], fun i q hq => ?_⟩
    by_cases hi : i < l.length
    · rw [List.getElem?_append_left hi] at hq; exact hr i q hq
    · rw [List.getElem?_append_right (by omega)] at hq
      have : i - l.length = 0 := by
        rcases Nat.eq_zero_or_pos (i - l.length) with h | h
        · exact h
        · rw [List.getElem?_eq_none (by simp; omega)] at hq; cases hq
      rw [this] at hq
      obtain rfl : p = q := by simpa using hq
      rw [show i = n from by omega]; exact hp

theorem spotless {w : World} {a : Addr} {v : Value} (h : w.cell? (a.add 0) = some v) : a = ⟨a.block, a.off, Option.none⟩ := by
  obtain ⟨b, off, spot⟩ := a
  have : spot = Option.none := World.cell?_spot h
  subst this; rfl
theorem block_lt {w : World} {b o : Nat} {v : Value} (h : w.cell? ⟨b, o, Option.none⟩ = some v) : b < w.heap.size := by
  rcases Nat.lt_or_ge b w.heap.size with h' | h'
  · exact h'
  · simp [World.cell?, Array.getElem?_eq_none h'] at h
theorem add_plain' (b off n : Nat) : (⟨b, off, Option.none⟩ : Addr).add n = ⟨b, off + n, Option.none⟩ := Go.WideShapes.add_plain _ _ _
structure FAct where
  d : Int
  q : Pl
  port : Int
  ports : Int
abbrev FAct.cells (a : FAct) : List Value := [.int .u8 a.d, .int .u16 a.q.v, .int .u8 a.q.a, .int .u8 a.q.b, .int .u8 a.q.c, .int .u8 a.q.d, .int .u8 a.q.e, .int .u8 a.q.f, .int .u8 a.port, .int .u8 a.ports]
def FAct.Ok (a : FAct) : Prop := 0 ≤ a.d ∧ a.q.Ok ∧ (0 ≤ a.port ∧ a.port < 256) ∧ (0 ≤ a.ports ∧ a.ports < 256)
/-- Acts in their cells. -/
def FActs (w : World) (b o n : Nat) (l : List FAct) : Prop :=
  l.length = n ∧ ∀ (i : Nat) (a : FAct), l[i]? = some a → (∀ q u, a.cells[q]? = some u → w.cell? ⟨b, o + i * 10 + q, Option.none⟩ = some u) ∧ a.Ok
theorem FActs.keepN {w w' : World} {b o n : Nat} {l : List FAct} (h : FActs w b o n l) (k : Keeps Nil w w') (hb : b < w.heap.size) : FActs w' b o n l :=
  ⟨h.1, fun i a ha => ⟨fun q u hu => (k.cell (p := ⟨b, o + i * 10 + q, Option.none⟩) hb (fun e => e)).trans ((h.2 i a ha).1 q u hu), (h.2 i a ha).2⟩⟩
def IsFActs (w : World) (a : Option Addr) (n c : Nat) : Prop :=
  n ≤ c ∧ n ≤ maxLen ∧ ∃ l, l.length = n ∧ (0 < n → ∃ b o, a = some ⟨b, o, Option.none⟩ ∧ b < w.heap.size ∧ FActs w b o n l)

theorem mac_trod {H : Type} {enc : TypeId × Value → H} {W : World} {sp : Nat → Bool} {held : Bool} {fuel : Nat} {l : List Value} {y : DataW H × List MemPlace} (hf : DataW.trod enc Try.prog W 0 sp held fuel 25 l = some y) :
    ∃ a b c d e f : Int, l = [.int .u8 a, .int .u8 b, .int .u8 c, .int .u8 d, .int .u8 e, .int .u8 f] ∧ (0 ≤ a ∧ a < 256) ∧ (0 ≤ b ∧ b < 256) ∧ (0 ≤ c ∧ c < 256) ∧ (0 ≤ d ∧ d < 256) ∧ (0 ≤ e ∧ e < 256) ∧ (0 ≤ f ∧ f < 256) := by
  have A := arr25
  cases fuel with
  | zero => simp [DataW.trod] at hf
  | succ n =>
    rw [DataW.trod_step] at hf
    unfold DataW.trodStep at hf
    simp only [A.hu] at hf
    split at hf
    · rename_i hlen
      rw [A.size] at hlen
      simp only [Option.map_eq_some_iff] at hf
      obtain ⟨xs, hx, e1⟩ := hf
      rw [show List.range 6 = [0, 1, 2, 3, 4, 5] from rfl] at hx
      simp only [List.mapM_cons, List.mapM_nil, bind, Option.bind_eq_some_iff, pure, Option.some.injEq, A.one] at hx
      obtain ⟨y0, h0, _, ⟨y1, h1, _, ⟨y2, h2', _, ⟨y3, h3, _, ⟨y4, h4, _, ⟨y5, h5, _, rfl, rfl⟩, rfl⟩, rfl⟩, rfl⟩, rfl⟩, rfl⟩ := hx
      match l, hlen with
      | [c0, c1, c2, c3, c4, c5], _ =>
        obtain ⟨z0, g0, _, w0⟩ := DataW.trod_int Try.underlying5 h0
        obtain ⟨z1, g1, _, w1⟩ := DataW.trod_int Try.underlying5 h1
        obtain ⟨z2, g2, _, w2⟩ := DataW.trod_int Try.underlying5 h2'
        obtain ⟨z3, g3, _, w3⟩ := DataW.trod_int Try.underlying5 h3
        obtain ⟨z4, g4, _, w4⟩ := DataW.trod_int Try.underlying5 h4
        obtain ⟨z5, g5, _, w5⟩ := DataW.trod_int Try.underlying5 h5
        simp at g0 g1 g2 g3 g4 g5
        subst g0 g1 g2 g3 g4 g5
        exact ⟨z0, z1, z2, z3, z4, z5, rfl, of_wf8 w0, of_wf8 w1, of_wf8 w2, of_wf8 w3, of_wf8 w4, of_wf8 w5⟩
    · cases hf

theorem open_facts {H : Type} {enc : TypeId × Value → H} {W : World} {a : Option Addr} {n c : Nat} {d : DataW H} {p : List MemPlace}
    (h : DataW.Trod enc Try.prog W 0 (fun _ => true) true 22 (.slice a n c) d p) : IsFActs W a n c := by
  obtain ⟨fuel, hf⟩ := h
  have C34 : Try.prog.cellsOf 34 = 10 := by kernel_rfl
  have C25 : Try.prog.cellsOf 25 = 6 := by kernel_rfl
  have C23 : Try.prog.cellsOf 23 = 1 := by kernel_rfl
  have C5 : Try.prog.cellsOf 5 = 1 := by kernel_rfl
  rcases open_slice Try.underlying22 hf with h0 | ⟨x, len, cap, m, n', D, Pl', hcs, hb, hl, hm, hmm, hx, hi⟩
  · have hcs := h0.1
    simp [Value.cells] at hcs
    obtain ⟨rfl, rfl, rfl⟩ := hcs
    exact ⟨Nat.le_refl _, Nat.zero_le _, [], rfl, fun h => by omega⟩
  · simp [Value.cells] at hcs
    obtain ⟨rfl, rfl, rfl⟩ := hcs
    simp only [if_true] at hmm
    subst hmm
    have he : ∀ i, i < n → ∃ z : FAct, (∀ q u, z.cells[q]? = some u → W.cell? (x.add (i * 10 + q)) = some u) ∧ z.Ok := by
      intro i hin
      obtain ⟨cs', hc, ht'⟩ := hi i (by omega)
      rw [C34] at hc
      obtain ⟨ys, n'', hn', hy, hlen, hyl, hfld⟩ := DataW.trod_struct Try.underlying34 ht'
      obtain ⟨_, hcl, hat⟩ := World.cells?_some hc
      rw [C34] at hlen
      have f0 : DataW.trod enc Try.prog W 0 (fun _ => true) true n'' 5 (List.take (Try.prog.cellsOf 5) (List.drop 0 cs')) = ys[0]? := hfld 0 _ rfl
      have f1 : DataW.trod enc Try.prog W 0 (fun _ => true) true n'' 23 (List.take (Try.prog.cellsOf 23) (List.drop 1 cs')) = ys[1]? := hfld 1 _ rfl
      have f2 : DataW.trod enc Try.prog W 0 (fun _ => true) true n'' 25 (List.take (Try.prog.cellsOf 25) (List.drop 2 cs')) = ys[2]? := hfld 2 _ rfl
      have f3 : DataW.trod enc Try.prog W 0 (fun _ => true) true n'' 5 (List.take (Try.prog.cellsOf 5) (List.drop 8 cs')) = ys[3]? := hfld 3 _ rfl
      have f4 : DataW.trod enc Try.prog W 0 (fun _ => true) true n'' 5 (List.take (Try.prog.cellsOf 5) (List.drop 9 cs')) = ys[4]? := hfld 4 _ rfl
      have hys : ys.length = 5 := by simpa using hyl
      rw [C5] at f0 f3 f4
      rw [C23] at f1
      rw [C25] at f2
      have gy : ∀ j, j < 5 → ∃ y, ys[j]? = some y := fun j hj => ⟨_, List.getElem?_eq_getElem (by omega)⟩
      obtain ⟨y0, e0⟩ := gy 0 (by omega)
      obtain ⟨y1, e1⟩ := gy 1 (by omega)
      obtain ⟨y2, e2⟩ := gy 2 (by omega)
      obtain ⟨y3, e3⟩ := gy 3 (by omega)
      obtain ⟨y4, e4⟩ := gy 4 (by omega)
      rw [e0] at f0; rw [e1] at f1; rw [e2] at f2; rw [e3] at f3; rw [e4] at f4
      match cs', hlen, hat with
      | [c0, c1, c2, c3, c4, c5, c6, c7, c8, c9], _, hat =>
        obtain ⟨z0, g0, _, w0⟩ := DataW.trod_int Try.underlying5 f0
        obtain ⟨z1, g1, _, w1⟩ := DataW.trod_int Try.underlying23 f1
        obtain ⟨m0, m1, m2, m3, m4, m5, g2, r0, r1, r2, r3, r4, r5⟩ := mac_trod f2
        obtain ⟨z3, g3, _, w3⟩ := DataW.trod_int Try.underlying5 f3
        obtain ⟨z4, g4, _, w4⟩ := DataW.trod_int Try.underlying5 f4
        simp at g0 g1 g2 g3 g4
        obtain ⟨rfl, rfl, rfl, rfl, rfl, rfl⟩ := g2
        subst g0 g1 g3 g4
        refine ⟨⟨z0, ⟨z1, m0, m1, m2, m3, m4, m5⟩, z3, z4⟩, fun q u hu => ?_, (of_wf8 w0).1, ⟨of_wf16 w1, r0, r1, r2, r3, r4, r5⟩, of_wf8 w3, of_wf8 w4⟩
        have hq : q < 10 := by have := (List.getElem?_eq_some_iff.1 hu).1; simpa using this
        have := hat q hq
        rw [← Go.Deep.add_add, this]
        exact hu
    obtain ⟨l, hll, hl'⟩ := exists_list n he
    refine ⟨hl, Nat.le_trans hl hm, l, hll, fun hn => ?_⟩
    obtain ⟨z, hz⟩ : ∃ z, l[0]? = some z := ⟨_, List.getElem?_eq_getElem (by omega)⟩
    have h0 := (hl' 0 z hz).1 0 _ rfl
    have hx' := spotless h0
    obtain ⟨b, off, spot⟩ := x
    simp at hx'
    subst hx'
    simp only [add_plain'] at hl' h0
    exact ⟨b, off, rfl, block_lt h0, hll, fun i a ha => ⟨fun q u hu => by rw [Nat.add_assoc]; exact (hl' i a ha).1 q u hu, (hl' i a ha).2⟩⟩
end Go.Proofs.Ytdmjpgefoppfmaa
