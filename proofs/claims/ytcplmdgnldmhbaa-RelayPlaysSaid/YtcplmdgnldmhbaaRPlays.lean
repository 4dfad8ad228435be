/-
  The statement RelayPlays: both sides turn by turn, and the walk. Condition: the acts lie in their cells; the numbers are in range.
-/
import Derived.Test.YtcplmdgnldmhbaaRGoes
import Derived.Test.YtcplmdgnldmhbaaD7Set
import Derived.Test.YtcplmdgnldmhbaaROut
import Derived.Deep.DeepCutAuto
import Derived.Deep.CutBlock
namespace Go.Proofs.Ytcplmdgnldmhbaa
open Go.RowKit
set_option linter.unusedVariables false
set_option linter.unusedSimpArgs false

theorem RIs.keepT {S : Nat → Prop} {w : World} {B r vt vm t mb m c : Nat} {p : Option Addr} {n : Int} {V : List (Pl × Int)} {τ : Tb} {w' : World} (h : RIs w B r vt vm t mb p m c n V τ) (k : Keeps S w w') (hS : ∀ g, S g → ∃ cs T, w.heap[g]? = some (.cells cs T (0, 0)) ∧ (T = 57 ∨ T = 61)) : RIs w' B r vt vm t mb p m c n V τ := by
  have key : ∀ g cs (T : TypeId), w.heap[g]? = some (.cells cs T (0, 0)) → T ≠ 57 → T ≠ 61 → ¬ S g := fun g cs T hg h1 h2 hs => by
    obtain ⟨cs', T', hb, hT⟩ := hS g hs
    rw [hg] at hb
    injection hb with hb
    injection hb with e1 e2
    subst e2
    rcases hT with hT | hT
    · exact h1 hT
    · exact h2 hT
  have keyM : ∀ g es cl, w.heap[g]? = some (.map es cl) → ¬ S g := fun g es cl hg hs => by
    obtain ⟨cs', T', hb, _⟩ := hS g hs
    rw [hg] at hb
    cases hb
  obtain ⟨h1, h2, h3, h4, h5⟩ := h
  refine ⟨k.lies h1 (key _ _ 78 h1 (by decide) (by decide)), h2.keep k (key _ _ 81 h2.1 (by decide) (by decide)) ?_, h3.keep k (key _ _ _ h3.1 (by decide) (by decide)) ?_ (fun g hg _ hs => ?_), h4, h5⟩
  · obtain ⟨es, cl, hb⟩ := h2.2.raw
    exact keyM _ _ _ hb
  · obtain ⟨es, cl, hb⟩ := h3.2.2.raw
    exact keyM _ _ _ hb
  · obtain ⟨cs, T, hb, hT⟩ := hS g hs
    exact h3.2.1.ne_cells hb (by rcases hT with rfl | rfl <;> decide) hg
theorem acc_keepT {S : Nat → Prop} {w w' : World} {B m c : Nat} {p : Option Addr} {L : List (Pl × Int)} (h : Acc7 w B p m c L) (k : Keeps S w w') (hS : ∀ g cs, w.heap[g]? = some (.cells cs 104 (0, 0)) → ¬ S g) : Acc7 w' B p m c L := own_keepT h k hS
theorem ro_keepS {S : Nat → Prop} {w w' : World} {B nL cL nS cS : Nat} {pL pS : Option Addr} {τ : Tb} (h : RO w B pL nL cL pS nS cS τ) (k : Keeps S w w') (hS : ∀ (e : TypeId) g cs, (e = 109 ∨ e = 108) → w.heap[g]? = some (.cells cs e (0, 0)) → ¬ S g) : RO w' B pL nL cL pS nS cS τ :=
  ⟨own_keepT h.1 k (fun g cs => hS 109 g cs (.inl rfl)), own_keepT h.2 k (fun g cs => hS 108 g cs (.inr rfl))⟩
/-- The relay (program) and the document's tables. -/
structure PI (w0 w : World) (B r vt vm t mb bV bD : Nat) (n : Int) (k : Nat) (p : Option Addr) (m c : Nat) (V L : List (Pl × Int)) (τ : Tb) (P : Option Addr) (C : Nat) (pL : Option Addr) (nL cL : Nat) (pS : Option Addr) (nS cS : Nat) : Prop where
  R : RIs w B r vt vm t mb p m c n V τ
  G : τ.Good k
  so : SOk τ
  s : SameV V L
  l8 : V.length ≤ 8
  key : KeyV L
  ok : VOk L
  bv : w.heap[bV]? = some (.cells #[Value.int IntKind.i64 n, Value.slice P L.length C, Value.int IntKind.u16 0, Value.int IntKind.u16 0, Value.int IntKind.u16 0, Value.int IntKind.u16 0, Value.int IntKind.u16 0, Value.int IntKind.u16 0, Value.int IntKind.u16 0, Value.int IntKind.u16 0] 57 (0, 0))
  ac : Acc7 w B P L.length C L
  bd : w.heap[bD]? = some (.cells #[Value.slice pL nL cL, Value.slice pS nS cS] 61 (0, 0))
  ro : RO w B pL nL cL pS nS cS τ
  K : Keeps Nil w0 w
  zB : B ≤ w.heap.size
  zV : w0.heap.size ≤ bV
  zD : w0.heap.size ≤ bD
  zG : ∀ g, TOwn t mb p g → w0.heap.size ≤ g
  zM : w0.heap.size ≤ vm
section
variable {w0 w w' : World} {B r vt vm t mb bV bD : Nat} {n : Int} {k : Nat} {p : Option Addr} {m c : Nat} {V L : List (Pl × Int)} {τ : Tb} {P : Option Addr} {C : Nat} {pL : Option Addr} {nL cL : Nat} {pS : Option Addr} {nS cS : Nat}
theorem PI.keepN (h : PI w0 w B r vt vm t mb bV bD n k p m c V L τ P C pL nL cL pS nS cS) (x : Keeps Nil w w') : PI w0 w' B r vt vm t mb bV bD n k p m c V L τ P C pL nL cL pS nS cS :=
  ⟨h.R.keepN x, h.G, h.so, h.s, h.l8, h.key, h.ok, x.lies h.bv, ownsRow_keep h.ac x (fun _ _ e => e), x.lies h.bd, h.ro.keepN x, h.K.trans x, Nat.le_trans h.zB x.size, h.zV, h.zD, h.zG, h.zM⟩
theorem PI.more (h : PI w0 w B r vt vm t mb bV bD n k p m c V L τ P C pL nL cL pS nS cS) : PI w0 w B r vt vm t mb bV bD n (k + 1) p m c V L τ P C pL nL cL pS nS cS :=
  { h with G := h.G.more }
theorem PI.l8L (h : PI w0 w B r vt vm t mb bV bD n k p m c V L τ P C pL nL cL pS nS cS) : L.length ≤ 8 := by have := h.s.2.1; have := h.l8; omega
theorem PI.wv (h : PI w0 w B r vt vm t mb bV bD n k p m c V L τ P C pL nL cL pS nS cS) : WV w 0 3 P L.length C (flatV L) := (WV.of_own h.ac).mono (Nat.zero_le _)
/-- What the program's table of VLANs and the document's have become; the document's box still to be stored. -/
theorem not_vm (h : RIs w B r vt vm t mb p m c n V τ) {k : Nat} {cs : Array Value} {T : TypeId} {f : Nat × Nat} (hk : w.heap[k]? = some (.cells cs T f)) : ¬ At vm k := fun e => by
  obtain ⟨es, cl, hb⟩ := h.2.1.2.raw
  rw [At] at e
  subst e
  rw [hk] at hb
  cases hb
/-- Behind the program's Set: all but the document's own. -/
structure PH (w0 w : World) (B r vt vm t mb bV bD : Nat) (n : Int) (k : Nat) (p : Option Addr) (m c : Nat) (V L : List (Pl × Int)) (τ τ' : Tb) (P : Option Addr) (C : Nat) (pL : Option Addr) (nL cL : Nat) (pS : Option Addr) (nS cS : Nat) : Prop where
  R : RIs w B r vt vm t mb p m c n V τ
  G : τ'.Good k
  so : SOk τ'
  key : KeyV L
  ok : VOk L
  bv : w.heap[bV]? = some (.cells #[Value.int IntKind.i64 n, Value.slice P L.length C, Value.int IntKind.u16 0, Value.int IntKind.u16 0, Value.int IntKind.u16 0, Value.int IntKind.u16 0, Value.int IntKind.u16 0, Value.int IntKind.u16 0, Value.int IntKind.u16 0, Value.int IntKind.u16 0] 57 (0, 0))
  ac : Acc7 w B P L.length C L
  bd : w.heap[bD]? = some (.cells #[Value.slice pL nL cL, Value.slice pS nS cS] 61 (0, 0))
  ro : RO w B pL nL cL pS nS cS τ'
  K : Keeps Nil w0 w
  zB : B ≤ w.heap.size
  zV : w0.heap.size ≤ bV
  zD : w0.heap.size ≤ bD
  zG : ∀ g, TOwn t mb p g → w0.heap.size ≤ g
  zM : w0.heap.size ≤ vm
theorem PH.keepN {τ' : Tb} (h : PH w0 w B r vt vm t mb bV bD n k p m c V L τ τ' P C pL nL cL pS nS cS) (x : Keeps Nil w w') : PH w0 w' B r vt vm t mb bV bD n k p m c V L τ τ' P C pL nL cL pS nS cS :=
  ⟨h.R.keepN x, h.G, h.so, h.key, h.ok, x.lies h.bv, ownsRow_keep h.ac x (fun _ _ e => e), x.lies h.bd, h.ro.keepN x, h.K.trans x, Nat.le_trans h.zB x.size, h.zV, h.zD, h.zG, h.zM⟩
/-- The program's table of VLANs turns. -/
theorem PI.vset (h : PI w0 w B r vt vm t mb bV bD n k p m c V L τ P C pL nL cL pS nS cS) {V' : List (Pl × Int)} (x : Keeps (At vm) w w') (i : VIs w' vt vm n V') :
    PH w0 w' B r vt vm t mb bV bD n k p m c V' L τ τ P C pL nL cL pS nS cS :=
  ⟨h.R.vset x i, h.G, h.so, h.key, h.ok, x.lies h.bv (not_vm h.R h.bv), acc_keepT h.ac x (fun g cs hg => not_vm h.R hg), x.lies h.bd (not_vm h.R h.bd), ro_keepS h.ro x (fun e g cs _ hg => not_vm h.R hg), h.K.thenAt x h.zM, Nat.le_trans h.zB x.size, h.zV, h.zD, h.zG, h.zM⟩
/-- The program's database turns. -/
theorem PI.turn (h : PI w0 w B r vt vm t mb bV bD n k p m c V L τ P C pL nL cL pS nS cS) {τ1 : Tb} (hz : w0.heap.size ≤ B) (x : Keeps (TOwn t mb p) w w') {p' : Option Addr} {m' c' : Nat} (i : TbIs w' B t mb p' m' c' τ1) :
    PH w0 w' B r vt vm t mb bV bD n k p' m' c' V L τ1 τ P C pL nL cL pS nS cS :=
  have nt : ∀ {g : Nat} {cs : Array Value} {T : TypeId} {f : Nat × Nat}, w.heap[g]? = some (.cells cs T f) → T ≠ 91 → T ≠ 95 → ¬ TOwn t mb p g := fun hk h1 h2 => h.R.2.2.1.not_own hk h1 h2
  have hR := h.R.turn x i
  ⟨hR, h.G, h.so, h.key, h.ok, x.lies h.bv (nt h.bv (by decide) (by decide)), acc_keepT h.ac x (fun g cs hg => nt hg (by decide) (by decide)), x.lies h.bd (nt h.bd (by decide) (by decide)), ro_keepS h.ro x (fun e g cs he hg => nt hg (by rcases he with rfl | rfl <;> decide) (by rcases he with rfl | rfl <;> decide)), h.K.thenOwn x h.zG, Nat.le_trans h.zB x.size, h.zV, h.zD, fun g hg => Nat.le_trans hz (hR.2.2.1.own_ge hR.2.2.2.2.2.1 hR.2.2.2.2.2.2 g hg), h.zM⟩
/-- The document's row of VLANs is stored. -/
theorem PH.storeV (h : PH w0 w B r vt vm t mb bV bD n k p m c V L τ τ P C pL nL cL pS nS cS) (hne : bV ≠ bD) {L' : List (Pl × Int)} {P' : Option Addr} {C' : Nat} (ac : Acc7 w B P' L'.length C' L') (hs : SameV V L') (hl : V.length ≤ 8) (hk : KeyV L') (ho : VOk L') (x : Keeps (At bV) w w')
    (hb : w'.heap[bV]? = some (.cells #[Value.int IntKind.i64 n, Value.slice P' L'.length C', Value.int IntKind.u16 0, Value.int IntKind.u16 0, Value.int IntKind.u16 0, Value.int IntKind.u16 0, Value.int IntKind.u16 0, Value.int IntKind.u16 0, Value.int IntKind.u16 0, Value.int IntKind.u16 0] 57 (0, 0))) :
    PI w0 w' B r vt vm t mb bV bD n k p m c V L' τ P' C' pL nL cL pS nS cS := by
  have hT : ∀ g, At bV g → ∃ cs T, w.heap[g]? = some (.cells cs T (0, 0)) ∧ (T = 57 ∨ T = 61) := fun g e => by
    have e : g = bV := e
    rw [e]
    exact ⟨_, 57, h.bv, .inl rfl⟩
  have nt : ∀ {g : Nat} {cs : Array Value} {T : TypeId}, w.heap[g]? = some (.cells cs T (0, 0)) → T ≠ 57 → ¬ At bV g := fun {g cs T} hg h1 e => by
    have e : g = bV := e
    rw [e, h.bv] at hg
    injection hg with hg
    injection hg with e1 e2
    exact h1 e2.symm
  exact ⟨h.R.keepT x hT, h.G, h.so, hs, hl, hk, ho, hb, acc_keepT ac x (fun g cs hg => nt hg (by decide)), x.lies h.bd (fun e => hne (by rw [At] at e; omega)), ro_keepS h.ro x (fun e g cs he hg => nt hg (by rcases he with rfl | rfl <;> decide)), h.K.thenAt x h.zV, Nat.le_trans h.zB x.size, h.zV, h.zD, h.zG, h.zM⟩
/-- The document's database is stored. -/
theorem PH.storeD {τ0 : Tb} (h : PH w0 w B r vt vm t mb bV bD n k p m c V L τ τ0 P C pL nL cL pS nS cS) (hne : bV ≠ bD) (hs : SameV V L) (hl : V.length ≤ 8) {k' : Nat} (hG : τ.Good k') (hso : SOk τ) {qL : Option Addr} {mL dL : Nat} {qS : Option Addr} {mS dS : Nat} (ro : RO w B qL mL dL qS mS dS τ) (x : Keeps (At bD) w w')
    (hb : w'.heap[bD]? = some (.cells #[Value.slice qL mL dL, Value.slice qS mS dS] 61 (0, 0))) :
    PI w0 w' B r vt vm t mb bV bD n k' p m c V L τ P C qL mL dL qS mS dS := by
  have hT : ∀ g, At bD g → ∃ cs T, w.heap[g]? = some (.cells cs T (0, 0)) ∧ (T = 57 ∨ T = 61) := fun g e => by
    have e : g = bD := e
    rw [e]
    exact ⟨_, 61, h.bd, .inr rfl⟩
  have nt : ∀ {g : Nat} {cs : Array Value} {T : TypeId}, w.heap[g]? = some (.cells cs T (0, 0)) → T ≠ 61 → ¬ At bD g := fun {g cs T} hg h1 e => by
    have e : g = bD := e
    rw [e, h.bd] at hg
    injection hg with hg
    injection hg with e1 e2
    exact h1 e2.symm
  exact ⟨h.R.keepT x hT, hG, hso, hs, hl, h.key, h.ok, x.lies h.bv (fun e => hne (by rw [At] at e; omega)), acc_keepT h.ac x (fun g cs hg => nt hg (by decide)), hb, ro_keepS ro x (fun e g cs he hg => nt hg (by rcases he with rfl | rfl <;> decide)), h.K.thenAt x h.zD, Nat.le_trans h.zB x.size, h.zV, h.zD, h.zG, h.zM⟩
end
theorem SOk.tick {τ : Tb} (h : SOk τ) : SOk τ.tick := h
theorem SOk.flush {τ : Tb} (h : SOk τ) (q : Int) : SOk (τ.flush q) := h
theorem mem_sput {S : List (Pl × Int)} {q : Pl} {v : Int} {x : Pl × Int} (h : x ∈ sput S q v) : x = (q, v) ∨ x ∈ S := by
  unfold sput at h
  split at h
  · obtain ⟨y, hy, e⟩ := List.mem_map.1 h
    split at e
    · left; exact e.symm
    · right; rw [← e]; exact hy
  · rcases List.mem_append.1 h with h | h
    · exact .inr h
    · left; simpa using h
theorem SOk.set {τ : Tb} (h : SOk τ) (q : Pl) {ports : Int} (hp : 0 ≤ ports ∧ ports < 256) : SOk (τ.set q ports).1 := by
  unfold Tb.set
  split
  · split
    · exact h
    · intro x hx
      have hx : x ∈ sput τ.S q ports := hx
      rcases mem_sput hx with e | hx
      · rw [e]; exact hp
      · exact h x hx
  · exact h
end Go.Proofs.Ytcplmdgnldmhbaa

namespace Go.Proofs.Ytcplmdgnldmhbaa
open Go.RowKit
set_option linter.unusedVariables false
set_option linter.unusedSimpArgs false
set_option maxRecDepth 8000

theorem eq33 (y : Frm) (W : World) : (Op.equalIn 10000 33 y.val y.val).run Try.prog W = .ok true W := by
  have h := fun (q : Pl) (W : World) => eq25g 9997 q.a q.b q.c q.d q.e q.f q.a q.b q.c q.d q.e q.f W
  simp [go_sem, h]
theorem neq33 (y : Frm) (W : World) : (binOp .neq 33 y.val y.val).run Try.prog W = .ok (.bool false) W := by
  rw [run_neq_struct, eq33]; rfl
theorem rnew_no (n : Int) (h : n < 1 ∨ 8 < n) (w : World) : Calls Try.prog 8 #[.int .i64 n] w fun e w' => e = .returned (.tuple #[.pointer Option.none, .int .i64 2]) ∧ Keeps Nil w w' := by
  have H := fun W => hid (vnew_no n h W)
  go_enter Try.func8, Try.ntmps8
  go_wp2_with (go_at_call 29; refine (H _).out.mono ?_; rintro ee wv ⟨rfl, kv⟩)
  go_ret2
  exact ⟨rfl, kv⟩
set_option maxHeartbeats 4000000 in
theorem great2_any (a : Option Addr) (n cap : Nat) (acts : List RAct) (w : World) (hm : n ≤ maxLen) (hll : acts.length = n) (h : 0 < n → ∃ b o, a = some ⟨b, o, Option.none⟩ ∧ b < w.heap.size ∧ RActs w b o n acts) :
    Calls Try.prog 6 #[.slice a n cap] w fun e w' => ∃ g : Bool, e = .returned (.bool g) ∧ (g = false → n ≤ 150 ∧ ∀ (i : Nat) (x : RAct), acts[i]? = some x → x.f.data.size ≤ 2000) ∧ Keeps Nil w w' := by
  have HH := hid h
  have HN := hid hll
  clear h hll
  by_cases hn : 150 < n
  · unfold maxLen at hm
    go_enter Try.func6, Try.ntmps6
    go_wp2_with fail
    go_ret
    exact ⟨true, rfl, (fun h => by cases h), Keeps.refl _ _⟩
  clear hm
  go_enter Try.func6, Try.ntmps6
  go_wp2_with fail
  go_loopw [3] (fun v wr => ∃ k : Nat, k ≤ n ∧ v = .int .i64 k ∧ Hid (∀ (i : Nat) (x : RAct), i < k → acts[i]? = some x → x.f.data.size ≤ 2000) ∧ wr = w) (fun v _ => n - (intOf v).toNat)
  case atStart => exact ⟨0, Nat.zero_le _, rfl, hid (fun i x h => absurd h (Nat.not_lt_zero _)), rfl⟩
  case round =>
    obtain ⟨k, hk, rfl, HD, rfl⟩ := hrel
    by_cases hlt : k < n
    · obtain ⟨b, o, rfl, hb, hr⟩ := HH.out (by omega)
      obtain ⟨x, ha⟩ : ∃ x, acts[k]? = some x := ⟨_, List.getElem?_eq_getElem (by have := hr.1; omega)⟩
      have hs := (hr.2 k x ha).1 27 _ rfl
      have hsz := (hr.2 k x ha).2.2.2.2.2.2.1.2.2.2.2.2
      unfold maxLen at hsz
      have HX := hid ha
      clear hr ha
      by_cases hg : 2000 < x.f.data.size
      · have hg' : decide ((2000 : Int) < (x.f.data.size : Int)) = true := by simp; omega
        go_wp2_with fail
        go_ret
        exact ⟨true, rfl, (fun h => by cases h), Keeps.refl _ _⟩
      · have hg' : decide ((2000 : Int) < (x.f.data.size : Int)) = false := by simp; omega
        go_wp2_with fail
        go_roundw
        case rel => exact ⟨k + 1, by omega, by go_num, hid (fun i y hi hy => by
          by_cases e : i = k
          · subst e
            rw [HX.out] at hy
            injection hy with hy
            subst hy
            omega
          · exact HD.out i y (by omega) hy), by first | rfl | trivial⟩
        case measure => simp only [intOf]; omega
    · obtain rfl : k = n := by omega
      go_wp2_with fail
      go_ret
      exact ⟨false, rfl, fun _ => ⟨by omega, fun i x hx => HD.out i x (by have := (List.getElem?_eq_some_iff.1 hx).1; have := HN.out; omega) hx⟩, Keeps.refl _ _⟩
end Go.Proofs.Ytcplmdgnldmhbaa

namespace Go.Proofs.Ytcplmdgnldmhbaa
open Go.RowKit
set_option linter.unusedVariables false
set_option linter.unusedSimpArgs false
set_option maxRecDepth 8000

theorem act_cell {w : World} {b : Nat} {x : RAct} (h : w.heap[b]? = some (.cells #[Value.int IntKind.u8 x.d, Value.int IntKind.u16 x.m.v, Value.int IntKind.u8 x.set, Value.int IntKind.u8 x.som, Value.int IntKind.u8 x.m.a, Value.int IntKind.u8 x.m.b, Value.int IntKind.u8 x.m.c, Value.int IntKind.u8 x.m.d, Value.int IntKind.u8 x.m.e, Value.int IntKind.u8 x.m.f, Value.int IntKind.i64 x.inn, Value.int IntKind.u8 x.f.dst.a, Value.int IntKind.u8 x.f.dst.b, Value.int IntKind.u8 x.f.dst.c, Value.int IntKind.u8 x.f.dst.d, Value.int IntKind.u8 x.f.dst.e, Value.int IntKind.u8 x.f.dst.f, Value.int IntKind.u8 x.f.src.a, Value.int IntKind.u8 x.f.src.b, Value.int IntKind.u8 x.f.src.c, Value.int IntKind.u8 x.f.src.d, Value.int IntKind.u8 x.f.src.e, Value.int IntKind.u8 x.f.src.f, Value.bool x.f.tag, Value.int IntKind.u8 x.f.pri, Value.int IntKind.u16 x.f.fvid, Value.int IntKind.u16 x.f.ty, Value.string x.f.data] 35 (0, 0))) (i : Nat) (v : Value) (hv : x.vals.toArray[i]? = some v) : w.cell? ⟨b, i, Option.none⟩ = some v := by
  have h : w.heap[b]? = some (.cells x.vals.toArray 35 (0, 0)) := h
  simp only [World.cell?, h]
  exact hv
theorem memB_same {V L : List (Pl × Int)} (h : ∀ v, vcode V v = vcode L v) (p v : Int) : memB V p v = memB L p v := by unfold memB; rw [h]
theorem vid_same {V L : List (Pl × Int)} (h : ∀ v, vcode V v = vcode L v) {n p : Int} {x : Frm} : vidP n V p x = vidP n L p x := by
  unfold vidP vinP
  rw [memB_same h]
theorem vout_same {V L : List (Pl × Int)} (h : ∀ v, vcode V v = vcode L v) {p v : Int} {x : Frm} : voutP V p v x = voutP L p v x := by
  unfold voutP untB
  rw [memB_same h, h]
theorem SOk.goes7 {τ : Tb} (h : SOk τ) (M inn : Int) (dst src : Pl) (set : Int) : SOk (goes7 M τ inn dst src set).2 := by
  by_cases h1 : resvB dst = true ∨ 7 < inn
  · unfold Go.Proofs.Ytcplmdgnldmhbaa.goes7
    rw [if_pos h1]
    exact h
  · rw [goes7_in h1]
    unfold goesIn
    split
    · exact h
    · unfold goesLk
      split
      · exact h.learn _ _
      · exact h
set_option maxHeartbeats 60000000 in
theorem plays_any (ports : Int) (a : Option Addr) (n cap : Nat) (acts : List RAct) (w : World) (hm : n ≤ maxLen) (hll : acts.length = n) (h : 0 < n → ∃ b o, a = some ⟨b, o, Option.none⟩ ∧ b < w.heap.size ∧ RActs w b o n acts) :
    Calls Try.prog 5 #[.int .i64 ports, .slice a n cap] w fun e w' => e = .returned (.bool true) ∧ Keeps Nil w w' := by
  have HW : ∀ W, Hid (Calls Try.prog 7 #[] W fun e w' => e = .returned (.bool true) ∧ Keeps Nil W w') := fun W => hid (wakes_any W)
  have HGR := hid (great2_any a n cap acts w hm hll h)
  have HH := hid h
  have HN := hid hll
  clear h hll hm
  go_enter Try.func5, Try.ntmps5
  go_wp2_with fail
  refine HGR.out.mono ?_; rintro e w0 ⟨g, rfl, hg, k0⟩
  have HH := hid (fun h0 => by
    obtain ⟨b, o, e, hlt, hr⟩ := HH.out h0
    exact (⟨b, o, e, Nat.lt_of_lt_of_le hlt k0.size, hr.keepN k0 hlt⟩ : ∃ b o, a = some ⟨b, o, Option.none⟩ ∧ b < w0.heap.size ∧ RActs w0 b o n acts))
  have K0 := hid k0
  clear k0 HGR
  cases g with
  | true =>
    go_wp2_with (go_at_call 7; refine (HW _).out.mono ?_; rintro ee w4 ⟨rfl, k4⟩)
    go_ret
    exact ⟨rfl, K0.out.trans k4⟩
  | false =>
  have hn150 := (hg rfl).1
  have HDA := hid (hg rfl).2
  clear hg
  by_cases hpo : ports < 1 ∨ 8 < ports
  · have hd : decide (ports < 1) = true ∨ (decide (ports < 1) = false ∧ decide (8 < ports) = true) := by
      rcases hpo with h | h
      · exact .inl (decide_eq_true h)
      · by_cases h2 : ports < 1
        · exact .inl (decide_eq_true h2)
        · exact .inr ⟨decide_eq_false h2, decide_eq_true h⟩
    have HNO := fun W => hid (rnew_no ports hpo W)
    clear hpo
    rcases hd with hd | ⟨hd, hd2⟩
    all_goals
      go_wp2_with (first | (go_at_call 8; refine (HNO _).out.mono ?_; rintro ee w3 ⟨rfl, k3⟩) | (go_at_call 7; refine (HW _).out.mono ?_; rintro ee w4 ⟨rfl, k4⟩))
      go_ret
      exact ⟨rfl, (K0.out.trans k3).trans k4⟩
  have h1 : 1 ≤ ports := by omega
  have h8 : ports ≤ 8 := by omega
  have hd : decide (ports < 1) = false := by simp; omega
  have hd2 : decide (8 < ports) = false := by simp; omega
  clear hpo
  go_wp2_with fail
  refine (rnew_any ports h1 h8 w0).mono ?_; rintro e w1 ⟨r, vt, vm, t, mb, rfl, i1, k1⟩
  have R1 := hid i1
  have K1 := hid k1
  clear i1 k1
  go_upto_region 10 with (fail)
  have kz : Keeps Nil w1 ((w1.alloc (.cells #[Value.int IntKind.i64 ports, Value.slice Option.none 0 0, Value.int IntKind.u16 0, Value.int IntKind.u16 0, Value.int IntKind.u16 0, Value.int IntKind.u16 0, Value.int IntKind.u16 0, Value.int IntKind.u16 0, Value.int IntKind.u16 0, Value.int IntKind.u16 0] 57 (0, 0))).alloc (.cells #[Value.slice Option.none 0 0, Value.slice Option.none 0 0] 61 (0, 0))) := ((Keeps.refl _ _).alloc _).alloc _
  obtain ⟨hV, hD⟩ := two_allocs w1 (.cells #[Value.int IntKind.i64 ports, Value.slice Option.none 0 0, Value.int IntKind.u16 0, Value.int IntKind.u16 0, Value.int IntKind.u16 0, Value.int IntKind.u16 0, Value.int IntKind.u16 0, Value.int IntKind.u16 0, Value.int IntKind.u16 0, Value.int IntKind.u16 0] 57 (0, 0)) (.cells #[Value.slice Option.none 0 0, Value.slice Option.none 0 0] 61 (0, 0))
  have hs0 : w0.heap.size ≤ w1.heap.size := K1.out.size
  have HP0 : Hid (PI w0 ((w1.alloc (.cells #[Value.int IntKind.i64 ports, Value.slice Option.none 0 0, Value.int IntKind.u16 0, Value.int IntKind.u16 0, Value.int IntKind.u16 0, Value.int IntKind.u16 0, Value.int IntKind.u16 0, Value.int IntKind.u16 0, Value.int IntKind.u16 0, Value.int IntKind.u16 0] 57 (0, 0))).alloc (.cells #[Value.slice Option.none 0 0, Value.slice Option.none 0 0] 61 (0, 0))) w0.heap.size r vt vm t mb w1.heap.size (w1.heap.size + 1) ports 0 Option.none 0 0 [] [] ⟨[], []⟩ Option.none 0 Option.none 0 0 Option.none 0 0) := hid
    ⟨R1.out.keepN kz, Tb.Good.start, (fun x hx => by cases hx), ⟨fun q => rfl, rfl, by simp [Once], by simp [Once]⟩, by simp, (fun x hx => by cases hx), (fun x hx => by cases hx), hV, World.ownsRow_nil _ _ _ _, hD, RO.nil _ _, K1.out.trans kz, Nat.le_trans hs0 kz.size, hs0, by omega, R1.out.2.2.1.own_ge R1.out.2.2.2.2.2.1 R1.out.2.2.2.2.2.2, R1.out.2.2.2.2.1⟩
  generalize ((w1.alloc (.cells #[Value.int IntKind.i64 ports, Value.slice Option.none 0 0, Value.int IntKind.u16 0, Value.int IntKind.u16 0, Value.int IntKind.u16 0, Value.int IntKind.u16 0, Value.int IntKind.u16 0, Value.int IntKind.u16 0, Value.int IntKind.u16 0, Value.int IntKind.u16 0] 57 (0, 0))).alloc (.cells #[Value.slice Option.none 0 0, Value.slice Option.none 0 0] 61 (0, 0))) = wz at *
  generalize hbD : w1.heap.size + 1 = bD at *
  generalize hbV : w1.heap.size = bV at *
  have HNE := hid (show bV ≠ bD by omega)
  clear kz hV hD hs0 hbD hbV R1 K1
  go_wp2_with fail
  go_loopw [9] (fun v wr => ∃ k : Nat, k ≤ n ∧ v = .int .i64 k ∧ Hid (∃ p m c V L τ P C pL nL cL pS nS cS, PI w0 wr w0.heap.size r vt vm t mb bV bD ports k p m c V L τ P C pL nL cL pS nS cS)) (fun v _ => n - (intOf v).toNat)
  case atStart => exact ⟨0, Nat.zero_le _, rfl, hid ⟨_, _, _, _, _, _, _, _, _, _, _, _, _, _, HP0.out⟩⟩
  case round =>
    obtain ⟨k, hk, rfl, hh⟩ := hrel
    by_cases hlt : k < n
    · obtain ⟨b, o, rfl, hb, hr⟩ := HH.out (by omega)
      obtain ⟨x, ha⟩ : ∃ x, acts[k]? = some x := ⟨_, List.getElem?_eq_getElem (by have := hr.1; omega)⟩
      obtain ⟨p, m, c, V, L, τ, P, C, pL, nL, cL, pS, nS, cS, hP⟩ := hh.out
      have HXO := hid (hr.2 k x ha).2
      have HRG := hid ((hr.keepN hP.K hb).range ha)
      have HD2 := hid (HDA.out k x ha)
      have P1 := hid hP
      clear hr ha hh hP hb
      go_upto_region 14 with (first
        | (refine wpList_load_mid rfl 35 _ rfl b (o + k * 28) rfl x.vals _ HRG.out Try.underlying35 rfl (vals_size x) ?_)
        | (refine wpList_store_mid rfl 35 _ _ rfl wr.heap.size 0 x.vals.toArray rfl rfl ?_ (vals_size' x) (vals_one x) ?_; exact vals_there x (alloc_block wr (.cells #[Value.int IntKind.u8 0, Value.int IntKind.u16 0, Value.int IntKind.u8 0, Value.int IntKind.u8 0, Value.int IntKind.u8 0, Value.int IntKind.u8 0, Value.int IntKind.u8 0, Value.int IntKind.u8 0, Value.int IntKind.u8 0, Value.int IntKind.u8 0, Value.int IntKind.i64 0, Value.int IntKind.u8 0, Value.int IntKind.u8 0, Value.int IntKind.u8 0, Value.int IntKind.u8 0, Value.int IntKind.u8 0, Value.int IntKind.u8 0, Value.int IntKind.u8 0, Value.int IntKind.u8 0, Value.int IntKind.u8 0, Value.int IntKind.u8 0, Value.int IntKind.u8 0, Value.int IntKind.u8 0, Value.bool false, Value.int IntKind.u8 0, Value.int IntKind.u16 0, Value.int IntKind.u16 0, Value.string ⟨#[]⟩] 35 (0, 0))) rfl))
      generalize hWz : World.setCells _ _ _ _ = wa
      try simp only [List.toList_toArray] at hWz
      have hA := setCells_block (b := wr.heap.size) x.vals 0 _ _ (alloc_block wr (.cells #[Value.int IntKind.u8 0, Value.int IntKind.u16 0, Value.int IntKind.u8 0, Value.int IntKind.u8 0, Value.int IntKind.u8 0, Value.int IntKind.u8 0, Value.int IntKind.u8 0, Value.int IntKind.u8 0, Value.int IntKind.u8 0, Value.int IntKind.u8 0, Value.int IntKind.i64 0, Value.int IntKind.u8 0, Value.int IntKind.u8 0, Value.int IntKind.u8 0, Value.int IntKind.u8 0, Value.int IntKind.u8 0, Value.int IntKind.u8 0, Value.int IntKind.u8 0, Value.int IntKind.u8 0, Value.int IntKind.u8 0, Value.int IntKind.u8 0, Value.int IntKind.u8 0, Value.int IntKind.u8 0, Value.bool false, Value.int IntKind.u8 0, Value.int IntKind.u16 0, Value.int IntKind.u16 0, Value.string ⟨#[]⟩] 35 (0, 0)))
      have kz : Keeps Nil wr ((wr.alloc (.cells #[Value.int IntKind.u8 0, Value.int IntKind.u16 0, Value.int IntKind.u8 0, Value.int IntKind.u8 0, Value.int IntKind.u8 0, Value.int IntKind.u8 0, Value.int IntKind.u8 0, Value.int IntKind.u8 0, Value.int IntKind.u8 0, Value.int IntKind.u8 0, Value.int IntKind.i64 0, Value.int IntKind.u8 0, Value.int IntKind.u8 0, Value.int IntKind.u8 0, Value.int IntKind.u8 0, Value.int IntKind.u8 0, Value.int IntKind.u8 0, Value.int IntKind.u8 0, Value.int IntKind.u8 0, Value.int IntKind.u8 0, Value.int IntKind.u8 0, Value.int IntKind.u8 0, Value.int IntKind.u8 0, Value.bool false, Value.int IntKind.u8 0, Value.int IntKind.u16 0, Value.int IntKind.u16 0, Value.string ⟨#[]⟩] 35 (0, 0))).setCells wr.heap.size 0 x.vals) := Keeps.setCells (fun h => absurd h (Nat.lt_irrefl _)) _ _ _ ((Keeps.refl _ _).alloc _)
      rw [hWz] at hA kz
      clear hWz
      rw [setAll_all _ _ _ rfl] at hA
      have hA : wa.heap[wr.heap.size]? = some (.cells #[Value.int IntKind.u8 x.d, Value.int IntKind.u16 x.m.v, Value.int IntKind.u8 x.set, Value.int IntKind.u8 x.som, Value.int IntKind.u8 x.m.a, Value.int IntKind.u8 x.m.b, Value.int IntKind.u8 x.m.c, Value.int IntKind.u8 x.m.d, Value.int IntKind.u8 x.m.e, Value.int IntKind.u8 x.m.f, Value.int IntKind.i64 x.inn, Value.int IntKind.u8 x.f.dst.a, Value.int IntKind.u8 x.f.dst.b, Value.int IntKind.u8 x.f.dst.c, Value.int IntKind.u8 x.f.dst.d, Value.int IntKind.u8 x.f.dst.e, Value.int IntKind.u8 x.f.dst.f, Value.int IntKind.u8 x.f.src.a, Value.int IntKind.u8 x.f.src.b, Value.int IntKind.u8 x.f.src.c, Value.int IntKind.u8 x.f.src.d, Value.int IntKind.u8 x.f.src.e, Value.int IntKind.u8 x.f.src.f, Value.bool x.f.tag, Value.int IntKind.u8 x.f.pri, Value.int IntKind.u16 x.f.fvid, Value.int IntKind.u16 x.f.ty, Value.string x.f.data] 35 (0, 0)) := hA
      have PA := hid (P1.out.keepN kz)
      generalize wr.heap.size = bA at *
      have HA := hid hA
      clear hA kz P1 HRG
      have HDV := hid HXO.out.2.2.2.2.2.2.1
      have HSV := hid HXO.out.2.2.2.2.2.2.2
      have g0 := act_cell HA.out 0 (.int .u8 x.d) rfl
      go_upto_block 2 with (fail)
      clear g0
      go_cut [11, 12] (fun s11 s12 wx => ∃ er : Int, s11 = .int .i64 er ∧ s12 = .int .i64 er ∧ Hid (∃ p m c V L τ P C pL nL cL pS nS cS, PI w0 wx w0.heap.size r vt vm t mb bV bD ports (k + 1) p m c V L τ P C pL nL cL pS nS cS ∧ wx.heap[bA]? = some (.cells #[Value.int IntKind.u8 x.d, Value.int IntKind.u16 x.m.v, Value.int IntKind.u8 x.set, Value.int IntKind.u8 x.som, Value.int IntKind.u8 x.m.a, Value.int IntKind.u8 x.m.b, Value.int IntKind.u8 x.m.c, Value.int IntKind.u8 x.m.d, Value.int IntKind.u8 x.m.e, Value.int IntKind.u8 x.m.f, Value.int IntKind.i64 x.inn, Value.int IntKind.u8 x.f.dst.a, Value.int IntKind.u8 x.f.dst.b, Value.int IntKind.u8 x.f.dst.c, Value.int IntKind.u8 x.f.dst.d, Value.int IntKind.u8 x.f.dst.e, Value.int IntKind.u8 x.f.dst.f, Value.int IntKind.u8 x.f.src.a, Value.int IntKind.u8 x.f.src.b, Value.int IntKind.u8 x.f.src.c, Value.int IntKind.u8 x.f.src.d, Value.int IntKind.u8 x.f.src.e, Value.int IntKind.u8 x.f.src.f, Value.bool x.f.tag, Value.int IntKind.u8 x.f.pri, Value.int IntKind.u16 x.f.fvid, Value.int IntKind.u16 x.f.ty, Value.string x.f.data] 35 (0, 0))))
      case first =>
        by_cases d0 : x.d = 0
        · have hd0 : (x.d == 0) = true := by simpa using d0
          clear d0
          have kk : Keeps Nil wa wa := Keeps.refl _ _
          have HA9 := hid (show ∀ X, Keeps Nil wa X → (fun X : World => (X.cell? ⟨bA, 1, Option.none⟩ = some (.int .u16 x.m.v) ∧ X.cell? ⟨bA, 2, Option.none⟩ = some (.int .u8 x.set) ∧ X.cell? ⟨bA, 3, Option.none⟩ = some (.int .u8 x.som))) X from fun X kX => ⟨act_cell (kX.lies HA.out) 1 (.int .u16 x.m.v) rfl, act_cell (kX.lies HA.out) 2 (.int .u8 x.set) rfl, act_cell (kX.lies HA.out) 3 (.int .u8 x.som) rfl⟩)
          have PD := hid (PA.out.keepN kk.drew)
          have AD := hid (kk.drew.lies HA.out)
          go_wp2_with fail
          refine wp_region_held_drew (S := (fun X : World => (X.cell? ⟨bA, 1, Option.none⟩ = some (.int .u16 x.m.v) ∧ X.cell? ⟨bA, 2, Option.none⟩ = some (.int .u8 x.set) ∧ X.cell? ⟨bA, 3, Option.none⟩ = some (.int .u8 x.som)))) (by kernel_rfl) ?_ (fun hHeld => ?_)
          · (try dsimp only); (first | exact HS9 | exact HA9.out _ kk | exact HA9.out _ kk.drew)
          refine wpAnyH_take (i := 0) (v := ?_) rfl (by kernel_rfl) (by kernel_rfl) (by kernel_rfl) (fun _ _ _ h => h) (Or.inl ⟨by rfl, ?_⟩) (by assumption) ?_
          rotate_left
          · (intro W hSw; (try dsimp only at hSw); go_simp <;> with_reducible rfl)
          try simp only [Act.put, List.setIfInBounds_toArray, List.set_cons_zero, List.set_cons_succ, List.getElem_toArray, List.getElem_cons_zero, List.getElem_cons_succ]
          refine wpAnyH_take (i := 2) (v := ?_) rfl (by kernel_rfl) (by kernel_rfl) (by kernel_rfl) (fun _ _ _ h => h) (Or.inl ⟨by rfl, ?_⟩) (by assumption) ?_
          rotate_left
          · (intro W hSw; (try dsimp only at hSw); go_simp <;> with_reducible rfl)
          try simp only [Act.put, List.setIfInBounds_toArray, List.set_cons_zero, List.set_cons_succ, List.getElem_toArray, List.getElem_cons_zero, List.getElem_cons_succ]
          refine wpAnyH_take (i := 3) (v := ?_) rfl (by kernel_rfl) (by kernel_rfl) (by kernel_rfl) (fun _ _ _ h => h) (Or.inl ⟨by rfl, ?_⟩) (by assumption) ?_
          rotate_left
          · (intro W hSw; (try dsimp only at hSw); go_simp <;> with_reducible rfl)
          try simp only [Act.put, List.setIfInBounds_toArray, List.set_cons_zero, List.set_cons_succ, List.getElem_toArray, List.getElem_cons_zero, List.getElem_cons_succ]
          refine wpAnyH_take (i := 4) (v := ?_) rfl (by kernel_rfl) (by kernel_rfl) (by kernel_rfl) (fun _ _ _ h => h) (Or.inl ⟨by rfl, ?_⟩) (by assumption) ?_
          rotate_left
          · (intro W hSw; (try dsimp only at hSw); go_simp <;> with_reducible rfl)
          try simp only [Act.put, List.setIfInBounds_toArray, List.set_cons_zero, List.set_cons_succ, List.getElem_toArray, List.getElem_cons_zero, List.getElem_cons_succ]
          refine wpAnyH_take (i := 5) (v := ?_) rfl (by kernel_rfl) (by kernel_rfl) (by kernel_rfl) (fun _ _ _ h => h) (Or.inl ⟨by rfl, ?_⟩) (by assumption) ?_
          rotate_left
          · (intro W hSw; (try dsimp only at hSw); go_simp <;> with_reducible rfl)
          try simp only [Act.put, List.setIfInBounds_toArray, List.set_cons_zero, List.set_cons_succ, List.getElem_toArray, List.getElem_cons_zero, List.getElem_cons_succ]
          refine wpAnyH_take (i := 6) (v := ?_) rfl (by kernel_rfl) (by kernel_rfl) (by kernel_rfl) (fun _ _ _ h => h) (Or.inl ⟨by rfl, ?_⟩) (by assumption) ?_
          rotate_left
          · (intro W hSw; (try dsimp only at hSw); go_simp <;> with_reducible rfl)
          try simp only [Act.put, List.setIfInBounds_toArray, List.set_cons_zero, List.set_cons_succ, List.getElem_toArray, List.getElem_cons_zero, List.getElem_cons_succ]
          refine wpAnyH_take (i := 7) (v := ?_) rfl (by kernel_rfl) (by kernel_rfl) (by kernel_rfl) (fun _ _ _ h => h) (Or.inl ⟨by rfl, ?_⟩) (by assumption) ?_
          rotate_left
          · (intro W hSw; (try dsimp only at hSw); go_simp <;> with_reducible rfl)
          try simp only [Act.put, List.setIfInBounds_toArray, List.set_cons_zero, List.set_cons_succ, List.getElem_toArray, List.getElem_cons_zero, List.getElem_cons_succ]
          refine wpAnyH_ready (rs := [1]) (by kernel_rfl) (by simp) ?_
          refine AllReadyH.cons rfl (fun K hK => ?_) AllReadyH.nil
          try simp only [Act.put, List.setIfInBounds_toArray, List.set_cons_zero, List.set_cons_succ, List.getElem_toArray, List.getElem_cons_zero, List.getElem_cons_succ]
          go_simp
          (go_at_call 9; refine (vlans_any _ PD.out.R).mono ?_; rintro ee wq ⟨rfl, rfl⟩)
          (try go_wp2_with fail)
          refine hK.out _ _ ?_ (fun hHeld => ?_)
          · (try dsimp only); (first | exact HS9 | exact HA9.out _ kk | exact HA9.out _ kk.drew)
          clear hK K
          try simp only [Act.put, List.setIfInBounds_toArray, List.set_cons_zero, List.set_cons_succ, List.getElem_toArray, List.getElem_cons_zero, List.getElem_cons_succ]
          refine wpAnyH_ready (rs := [8]) (by kernel_rfl) (by simp) ?_
          refine AllReadyH.cons rfl (fun K hK => ?_) AllReadyH.nil
          try simp only [Act.put, List.setIfInBounds_toArray, List.set_cons_zero, List.set_cons_succ, List.getElem_toArray, List.getElem_cons_zero, List.getElem_cons_succ]
          go_simp
          (go_at_call 10; refine (vset_any _ PD.out.R.2.1 PD.out.l8 HXO.out.2.1.1 HXO.out.2.2.1 HXO.out.2.2.2.1 h1 h8).mono ?_; rintro ee wv ⟨rfl, v5, k5⟩; have A5 := hid (k5.lies AD.out (not_vm PD.out.R AD.out)); have P5 := hid (PD.out.vset k5 v5); have HS9 := (And.intro (act_cell A5.out 1 (.int .u16 x.m.v) rfl) (And.intro (act_cell A5.out 2 (.int .u8 x.set) rfl) (act_cell A5.out 3 (.int .u8 x.som) rfl))))
          (try go_wp2_with fail)
          refine hK.out _ _ ?_ (fun hHeld => ?_)
          · (try dsimp only); (first | exact HS9 | exact HA9.out _ kk | exact HA9.out _ kk.drew)
          clear hK K
          try simp only [Act.put, List.setIfInBounds_toArray, List.set_cons_zero, List.set_cons_succ, List.getElem_toArray, List.getElem_cons_zero, List.getElem_cons_succ]
          refine wpAnyH_take (i := 9) (v := ?_) rfl (by kernel_rfl) (by kernel_rfl) (by kernel_rfl) (fun _ _ _ h => h) (Or.inl ⟨by rfl, ?_⟩) (by assumption) ?_
          rotate_left
          · (intro W hSw; (try dsimp only at hSw); go_simp <;> with_reducible rfl)
          try simp only [Act.put, List.setIfInBounds_toArray, List.set_cons_zero, List.set_cons_succ, List.getElem_toArray, List.getElem_cons_zero, List.getElem_cons_succ]
          refine wpAnyH_done (by kernel_rfl) ?_ _
          have P5s := PD.out
          clear v5 k5 HS9 kk HA9 hHeld
          have g1 := act_cell A5.out 1 (.int .u16 x.m.v) rfl
          have g2 := act_cell A5.out 2 (.int .u8 x.set) rfl
          have g3 := act_cell A5.out 3 (.int .u8 x.som) rfl
          obtain ⟨c0, c1, c2, c3, c4, c5, c6, c7, c8, c9⟩ := ten_of P5.out.bv
          have HSS := PD.out.s.set HXO.out.2.2.1 HXO.out.2.2.2.1 ⟨h1, h8⟩ (v := x.m.v)
          rw [HSS.1]
          have HSS2 := hid HSS.2
          have HVL := hid (vset_len (n := ports) (v := x.m.v) (a := x.set) (b := x.som) PD.out.l8)
          have HRK := hid (rset_keeps (n := ports) (v := x.m.v) PD.out.key PD.out.ok HXO.out.2.2.1 HXO.out.2.2.2.1)
          have HCL := hid (rvset_any ports P L.length C L wv w0.heap.size rfl P5.out.ac P5.out.zB P5.out.key PD.out.l8L h1 h8 HXO.out.2.1.1 HXO.out.2.2.1 HXO.out.2.2.2.1)
          clear HSS P5s
          go_wp2_with fail
          refine HCL.out.mono ?_
          rintro ee w6 ⟨P', C', rfl, ac6, k6⟩
          have P6 := hid (P5.out.keepN k6)
          have A6 := hid (k6.lies A5.out)
          have AC6 := hid ac6
          clear ac6 k6 HCL g1 g2 g3 c0 c1 c2 c3 c4 c5 c6 c7 c8 c9
          obtain ⟨c0, c1, c2, c3, c4, c5, c6, c7, c8, c9⟩ := ten_of P6.out.bv
          obtain ⟨f0, f1, f2, f3, f4, f5, f6, f7, f8, f9⟩ := ten_free P6.out.bv
          have lV := lt_of_block P6.out.bv
          go_wp2_with fail
          go_meet
          obtain ⟨w7, hw7, hb7, k7⟩ := set10 P6.out.bv (Value.int IntKind.i64 ports) (Value.slice P' (rsetP ports L x.m.v x.set x.som).1.length C') (Value.int IntKind.u16 0) (Value.int IntKind.u16 0) (Value.int IntKind.u16 0) (Value.int IntKind.u16 0) (Value.int IntKind.u16 0) (Value.int IntKind.u16 0) (Value.int IntKind.u16 0) (Value.int IntKind.u16 0)
          rw [hw7]
          have hPI := (P6.out.storeV HNE.out AC6.out HSS2.out HVL.out HRK.out.1 HRK.out.2 k7 hb7).more
          have hAct := k7.lies A6.out (fun e => by
              have e : bA = bV := e
              have h := A6.out
              rw [e, P6.out.bv] at h
              cases h)
          exact ⟨_, rfl, rfl, hid ⟨_, _, _, _, _, _, _, _, _, _, _, _, _, _, hPI, hAct⟩⟩
        have hd0 : (x.d == 0) = false := by simpa using d0
        by_cases d1 : x.d = 1
        · have hd1 : (x.d == 1) = true := by simpa using d1
          clear d0 d1
          have kk : Keeps Nil wa wa := Keeps.refl _ _
          have HA9 := hid (show ∀ X, Keeps Nil wa X → (fun X : World => (X.cell? ⟨bA, 1, Option.none⟩ = some (.int .u16 x.m.v) ∧ X.cell? ⟨bA, 2, Option.none⟩ = some (.int .u8 x.set) ∧ X.cell? ⟨bA, 4, Option.none⟩ = some (.int .u8 x.m.a) ∧ X.cell? ⟨bA, 5, Option.none⟩ = some (.int .u8 x.m.b) ∧ X.cell? ⟨bA, 6, Option.none⟩ = some (.int .u8 x.m.c) ∧ X.cell? ⟨bA, 7, Option.none⟩ = some (.int .u8 x.m.d) ∧ X.cell? ⟨bA, 8, Option.none⟩ = some (.int .u8 x.m.e) ∧ X.cell? ⟨bA, 9, Option.none⟩ = some (.int .u8 x.m.f))) X from fun X kX => ⟨act_cell (kX.lies HA.out) 1 (.int .u16 x.m.v) rfl, act_cell (kX.lies HA.out) 2 (.int .u8 x.set) rfl, act_cell (kX.lies HA.out) 4 (.int .u8 x.m.a) rfl, act_cell (kX.lies HA.out) 5 (.int .u8 x.m.b) rfl, act_cell (kX.lies HA.out) 6 (.int .u8 x.m.c) rfl, act_cell (kX.lies HA.out) 7 (.int .u8 x.m.d) rfl, act_cell (kX.lies HA.out) 8 (.int .u8 x.m.e) rfl, act_cell (kX.lies HA.out) 9 (.int .u8 x.m.f) rfl⟩)
          have PD := hid (PA.out.keepN kk.drew)
          have AD := hid (kk.drew.lies HA.out)
          go_wp2_with fail
          refine wp_region_held_drew (S := (fun X : World => (X.cell? ⟨bA, 1, Option.none⟩ = some (.int .u16 x.m.v) ∧ X.cell? ⟨bA, 2, Option.none⟩ = some (.int .u8 x.set) ∧ X.cell? ⟨bA, 4, Option.none⟩ = some (.int .u8 x.m.a) ∧ X.cell? ⟨bA, 5, Option.none⟩ = some (.int .u8 x.m.b) ∧ X.cell? ⟨bA, 6, Option.none⟩ = some (.int .u8 x.m.c) ∧ X.cell? ⟨bA, 7, Option.none⟩ = some (.int .u8 x.m.d) ∧ X.cell? ⟨bA, 8, Option.none⟩ = some (.int .u8 x.m.e) ∧ X.cell? ⟨bA, 9, Option.none⟩ = some (.int .u8 x.m.f)))) (by kernel_rfl) ?_ (fun hHeld => ?_)
          · (try dsimp only); (first | exact HS9 | exact HA9.out _ kk | exact HA9.out _ kk.drew)
          refine wpAnyH_take (i := 0) (v := ?_) rfl (by kernel_rfl) (by kernel_rfl) (by kernel_rfl) (fun _ _ _ h => h) (Or.inl ⟨by rfl, ?_⟩) (by assumption) ?_
          rotate_left
          · (intro W hSw; (try dsimp only at hSw); go_simp <;> with_reducible rfl)
          try simp only [Act.put, List.setIfInBounds_toArray, List.set_cons_zero, List.set_cons_succ, List.getElem_toArray, List.getElem_cons_zero, List.getElem_cons_succ]
          refine wpAnyH_take (i := 2) (v := ?_) rfl (by kernel_rfl) (by kernel_rfl) (by kernel_rfl) (fun _ _ _ h => h) (Or.inl ⟨by rfl, ?_⟩) (by assumption) ?_
          rotate_left
          · (intro W hSw; (try dsimp only at hSw); go_simp <;> with_reducible rfl)
          try simp only [Act.put, List.setIfInBounds_toArray, List.set_cons_zero, List.set_cons_succ, List.getElem_toArray, List.getElem_cons_zero, List.getElem_cons_succ]
          refine wpAnyH_take (i := 3) (v := ?_) rfl (by kernel_rfl) (by kernel_rfl) (by kernel_rfl) (fun _ _ _ h => h) (Or.inl ⟨by rfl, ?_⟩) (by assumption) ?_
          rotate_left
          · (intro W hSw; (try dsimp only at hSw); go_simp <;> with_reducible rfl)
          try simp only [Act.put, List.setIfInBounds_toArray, List.set_cons_zero, List.set_cons_succ, List.getElem_toArray, List.getElem_cons_zero, List.getElem_cons_succ]
          refine wpAnyH_take (i := 4) (v := ?_) rfl (by kernel_rfl) (by kernel_rfl) (by kernel_rfl) (fun _ _ _ h => h) (Or.inl ⟨by rfl, ?_⟩) (by assumption) ?_
          rotate_left
          · (intro W hSw; (try dsimp only at hSw); go_simp <;> with_reducible rfl)
          try simp only [Act.put, List.setIfInBounds_toArray, List.set_cons_zero, List.set_cons_succ, List.getElem_toArray, List.getElem_cons_zero, List.getElem_cons_succ]
          refine wpAnyH_take (i := 5) (v := ?_) rfl (by kernel_rfl) (by kernel_rfl) (by kernel_rfl) (fun _ _ _ h => h) (Or.inl ⟨by rfl, ?_⟩) (by assumption) ?_
          rotate_left
          · (intro W hSw; (try dsimp only at hSw); go_simp <;> with_reducible rfl)
          try simp only [Act.put, List.setIfInBounds_toArray, List.set_cons_zero, List.set_cons_succ, List.getElem_toArray, List.getElem_cons_zero, List.getElem_cons_succ]
          refine wpAnyH_take (i := 6) (v := ?_) rfl (by kernel_rfl) (by kernel_rfl) (by kernel_rfl) (fun _ _ _ h => h) (Or.inl ⟨by rfl, ?_⟩) (by assumption) ?_
          rotate_left
          · (intro W hSw; (try dsimp only at hSw); go_simp <;> with_reducible rfl)
          try simp only [Act.put, List.setIfInBounds_toArray, List.set_cons_zero, List.set_cons_succ, List.getElem_toArray, List.getElem_cons_zero, List.getElem_cons_succ]
          refine wpAnyH_take (i := 7) (v := ?_) rfl (by kernel_rfl) (by kernel_rfl) (by kernel_rfl) (fun _ _ _ h => h) (Or.inl ⟨by rfl, ?_⟩) (by assumption) ?_
          rotate_left
          · (intro W hSw; (try dsimp only at hSw); go_simp <;> with_reducible rfl)
          try simp only [Act.put, List.setIfInBounds_toArray, List.set_cons_zero, List.set_cons_succ, List.getElem_toArray, List.getElem_cons_zero, List.getElem_cons_succ]
          refine wpAnyH_ready (rs := [1]) (by kernel_rfl) (by simp) ?_
          refine AllReadyH.cons rfl (fun K hK => ?_) AllReadyH.nil
          try simp only [Act.put, List.setIfInBounds_toArray, List.set_cons_zero, List.set_cons_succ, List.getElem_toArray, List.getElem_cons_zero, List.getElem_cons_succ]
          go_simp
          (go_at_call 11; refine (base_any _ PD.out.R).mono ?_; rintro ee wq ⟨rfl, rfl⟩)
          (try go_wp2_with fail)
          refine hK.out _ _ ?_ (fun hHeld => ?_)
          · (try dsimp only); (first | exact HS9 | exact HA9.out _ kk | exact HA9.out _ kk.drew)
          clear hK K
          try simp only [Act.put, List.setIfInBounds_toArray, List.set_cons_zero, List.set_cons_succ, List.getElem_toArray, List.getElem_cons_zero, List.getElem_cons_succ]
          refine wpAnyH_ready (rs := [8]) (by kernel_rfl) (by simp) ?_
          refine AllReadyH.cons rfl (fun K hK => ?_) AllReadyH.nil
          try simp only [Act.put, List.setIfInBounds_toArray, List.set_cons_zero, List.set_cons_succ, List.getElem_toArray, List.getElem_cons_zero, List.getElem_cons_succ]
          go_simp
          (go_at_call 12; refine (p_set PD.out.R.2.2.1 PD.out.G x.m HXO.out.2.1 x.set HXO.out.2.2.1).mono ?_; rintro ee wv ⟨rfl, ⟨p5, m5, c5, i5, _⟩, k5⟩; have P5 := hid (PD.out.turn (Nat.le_refl _) k5 i5); have A5 := hid (k5.lies AD.out (PD.out.R.2.2.1.not_own AD.out (by decide) (by decide))); have HS9 := (And.intro (act_cell A5.out 1 (.int .u16 x.m.v) rfl) (And.intro (act_cell A5.out 2 (.int .u8 x.set) rfl) (And.intro (act_cell A5.out 4 (.int .u8 x.m.a) rfl) (And.intro (act_cell A5.out 5 (.int .u8 x.m.b) rfl) (And.intro (act_cell A5.out 6 (.int .u8 x.m.c) rfl) (And.intro (act_cell A5.out 7 (.int .u8 x.m.d) rfl) (And.intro (act_cell A5.out 8 (.int .u8 x.m.e) rfl) (act_cell A5.out 9 (.int .u8 x.m.f) rfl)))))))))
          (try go_wp2_with fail)
          refine hK.out _ _ ?_ (fun hHeld => ?_)
          · (try dsimp only); (first | exact HS9 | exact HA9.out _ kk | exact HA9.out _ kk.drew)
          clear hK K
          try simp only [Act.put, List.setIfInBounds_toArray, List.set_cons_zero, List.set_cons_succ, List.getElem_toArray, List.getElem_cons_zero, List.getElem_cons_succ]
          refine wpAnyH_take (i := 9) (v := ?_) rfl (by kernel_rfl) (by kernel_rfl) (by kernel_rfl) (fun _ _ _ h => h) (Or.inl ⟨by rfl, ?_⟩) (by assumption) ?_
          rotate_left
          · (intro W hSw; (try dsimp only at hSw); go_simp <;> with_reducible rfl)
          try simp only [Act.put, List.setIfInBounds_toArray, List.set_cons_zero, List.set_cons_succ, List.getElem_toArray, List.getElem_cons_zero, List.getElem_cons_succ]
          refine wpAnyH_done (by kernel_rfl) ?_ _
          clear k5 i5 HS9 kk HA9 hHeld
          have g1 := act_cell A5.out 1 (.int .u16 x.m.v) rfl
          have g2 := act_cell A5.out 2 (.int .u8 x.set) rfl
          have g4 := act_cell A5.out 4 (.int .u8 x.m.a) rfl
          have g5 := act_cell A5.out 5 (.int .u8 x.m.b) rfl
          have g6 := act_cell A5.out 6 (.int .u8 x.m.c) rfl
          have g7 := act_cell A5.out 7 (.int .u8 x.m.d) rfl
          have g8 := act_cell A5.out 8 (.int .u8 x.m.e) rfl
          have g9 := act_cell A5.out 9 (.int .u8 x.m.f) rfl
          obtain ⟨d0, d1⟩ := two_of P5.out.bd
          have HCL := hid (r_set P5.out.ro P5.out.zB PD.out.G x.m x.set)
          go_wp2_with fail
          refine HCL.out.mono ?_
          rintro ee w6 ⟨⟨qL, mL, dL, qS, mS, dS, rfl, ro6⟩, k6⟩
          have P6 := hid (P5.out.keepN k6)
          have A6 := hid (k6.lies A5.out)
          have RO6 := hid ro6
          have HGX := hid (PD.out.G.set x.m x.set)
          have HSX := hid (PD.out.so.set x.m HXO.out.2.2.1)
          clear ro6 k6 HCL g1 g2 g4 g5 g6 g7 g8 g9 d0 d1
          obtain ⟨d0, d1⟩ := two_of P6.out.bd
          obtain ⟨e0, e1⟩ := two_free P6.out.bd
          have lD := lt_of_block P6.out.bd
          go_wp2_with fail
          go_meet
          obtain ⟨hb7, k7⟩ := gset2 P6.out.bd (.slice qL mL dL) (.slice qS mS dS)
          have hPI := P6.out.storeD HNE.out PD.out.s PD.out.l8 HGX.out HSX.out RO6.out k7 hb7
          have hAct := k7.lies A6.out (fun e => by
              have e : bA = bD := e
              have h := A6.out
              rw [e, P6.out.bd] at h
              cases h)
          exact ⟨_, rfl, rfl, hid ⟨_, _, _, _, _, _, _, _, _, _, _, _, _, _, hPI, hAct⟩⟩
        have hd1 : (x.d == 1) = false := by simpa using d1
        by_cases d2 : x.d = 2
        · have hd2 : (x.d == 2) = true := by simpa using d2
          clear d0 d1 d2
          have PD := PA
          have AD := HA
          go_wp2_with (go_at_call 11; refine (base_any _ PA.out.R).mono ?_; rintro ee wq ⟨rfl, rfl⟩)
          refine (p_tick PA.out.R.2.2.1 PA.out.G (by omega)).mono ?_
          rintro ee wv ⟨rfl, ⟨p5, m5, c5, i5, _⟩, k5⟩
          have P5 := hid (PD.out.turn (Nat.le_refl _) k5 i5); have A5 := hid (k5.lies AD.out (PD.out.R.2.2.1.not_own AD.out (by decide) (by decide)))
          clear k5 i5

          obtain ⟨d0, d1⟩ := two_of P5.out.bd
          have HCL := hid (r_tick P5.out.ro P5.out.zB PD.out.G (by omega))
          go_wp2_with fail
          refine HCL.out.mono ?_
          rintro ee w6 ⟨⟨qL, mL, dL, qS, mS, dS, rfl, ro6⟩, k6⟩
          have P6 := hid (P5.out.keepN k6)
          have A6 := hid (k6.lies A5.out)
          have RO6 := hid ro6
          have HGX := hid (PD.out.G.tick)
          have HSX := hid (PD.out.so.tick)
          clear ro6 k6 HCL  d0 d1
          obtain ⟨d0, d1⟩ := two_of P6.out.bd
          obtain ⟨e0, e1⟩ := two_free P6.out.bd
          have lD := lt_of_block P6.out.bd
          go_wp2_with fail
          go_meet
          obtain ⟨hb7, k7⟩ := gset2 P6.out.bd (.slice qL mL dL) (.slice qS mS dS)
          have hPI := P6.out.storeD HNE.out PD.out.s PD.out.l8 HGX.out HSX.out RO6.out k7 hb7
          have hAct := k7.lies A6.out (fun e => by
              have e : bA = bD := e
              have h := A6.out
              rw [e, P6.out.bd] at h
              cases h)
          exact ⟨_, rfl, rfl, hid ⟨_, _, _, _, _, _, _, _, _, _, _, _, _, _, hPI, hAct⟩⟩
        have hd2 : (x.d == 2) = false := by simpa using d2
        by_cases d3 : x.d = 3
        · have hd3 : (x.d == 3) = true := by simpa using d3
          clear d0 d1 d2 d3
          have kk : Keeps Nil wa wa := Keeps.refl _ _
          have HA9 := hid (show ∀ X, Keeps Nil wa X → (fun X : World => (X.cell? ⟨bA, 2, Option.none⟩ = some (.int .u8 x.set))) X from fun X kX => act_cell (kX.lies HA.out) 2 (.int .u8 x.set) rfl)
          have PD := hid (PA.out.keepN kk.drew)
          have AD := hid (kk.drew.lies HA.out)
          go_wp2_with fail
          refine wp_region_held_drew (S := (fun X : World => (X.cell? ⟨bA, 2, Option.none⟩ = some (.int .u8 x.set)))) (by kernel_rfl) ?_ (fun hHeld => ?_)
          · (try dsimp only); (first | exact HS9 | exact HA9.out _ kk | exact HA9.out _ kk.drew)
          refine wpAnyH_take (i := 0) (v := ?_) rfl (by kernel_rfl) (by kernel_rfl) (by kernel_rfl) (fun _ _ _ h => h) (Or.inl ⟨by rfl, ?_⟩) (by assumption) ?_
          rotate_left
          · (intro W hSw; (try dsimp only at hSw); go_simp <;> with_reducible rfl)
          try simp only [Act.put, List.setIfInBounds_toArray, List.set_cons_zero, List.set_cons_succ, List.getElem_toArray, List.getElem_cons_zero, List.getElem_cons_succ]
          refine wpAnyH_take (i := 2) (v := ?_) rfl (by kernel_rfl) (by kernel_rfl) (by kernel_rfl) (fun _ _ _ h => h) (Or.inl ⟨by rfl, ?_⟩) (by assumption) ?_
          rotate_left
          · (intro W hSw; (try dsimp only at hSw); go_simp <;> with_reducible rfl)
          try simp only [Act.put, List.setIfInBounds_toArray, List.set_cons_zero, List.set_cons_succ, List.getElem_toArray, List.getElem_cons_zero, List.getElem_cons_succ]
          refine wpAnyH_take (i := 3) (v := ?_) rfl (by kernel_rfl) (by kernel_rfl) (by kernel_rfl) (fun _ _ _ h => h) (Or.inl ⟨by rfl, ?_⟩) (by assumption) ?_
          rotate_left
          · (intro W hSw; (try dsimp only at hSw); go_simp <;> with_reducible rfl)
          try simp only [Act.put, List.setIfInBounds_toArray, List.set_cons_zero, List.set_cons_succ, List.getElem_toArray, List.getElem_cons_zero, List.getElem_cons_succ]
          refine wpAnyH_ready (rs := [1]) (by kernel_rfl) (by simp) ?_
          refine AllReadyH.cons rfl (fun K hK => ?_) AllReadyH.nil
          try simp only [Act.put, List.setIfInBounds_toArray, List.set_cons_zero, List.set_cons_succ, List.getElem_toArray, List.getElem_cons_zero, List.getElem_cons_succ]
          go_simp
          (go_at_call 11; refine (base_any _ PD.out.R).mono ?_; rintro ee wq ⟨rfl, rfl⟩)
          (try go_wp2_with fail)
          refine hK.out _ _ ?_ (fun hHeld => ?_)
          · (try dsimp only); (first | exact HS9 | exact HA9.out _ kk | exact HA9.out _ kk.drew)
          clear hK K
          try simp only [Act.put, List.setIfInBounds_toArray, List.set_cons_zero, List.set_cons_succ, List.getElem_toArray, List.getElem_cons_zero, List.getElem_cons_succ]
          refine wpAnyH_ready (rs := [4]) (by kernel_rfl) (by simp) ?_
          refine AllReadyH.cons rfl (fun K hK => ?_) AllReadyH.nil
          try simp only [Act.put, List.setIfInBounds_toArray, List.set_cons_zero, List.set_cons_succ, List.getElem_toArray, List.getElem_cons_zero, List.getElem_cons_succ]
          go_simp
          (go_at_call 14; refine (p_flush PD.out.R.2.2.1 PD.out.G x.set HXO.out.2.2.1).mono ?_; rintro ee wv ⟨rfl, ⟨p5, m5, c5, i5, _⟩, k5⟩; have P5 := hid (PD.out.turn (Nat.le_refl _) k5 i5); have A5 := hid (k5.lies AD.out (PD.out.R.2.2.1.not_own AD.out (by decide) (by decide))); have HS9 := (act_cell A5.out 2 (.int .u8 x.set) rfl))
          (try go_wp2_with fail)
          refine hK.out _ _ ?_ (fun hHeld => ?_)
          · (try dsimp only); (first | exact HS9 | exact HA9.out _ kk | exact HA9.out _ kk.drew)
          clear hK K
          try simp only [Act.put, List.setIfInBounds_toArray, List.set_cons_zero, List.set_cons_succ, List.getElem_toArray, List.getElem_cons_zero, List.getElem_cons_succ]
          refine wpAnyH_done (by kernel_rfl) ?_ _
          clear k5 i5 HS9 kk HA9 hHeld
          have g2 := act_cell A5.out 2 (.int .u8 x.set) rfl
          obtain ⟨d0, d1⟩ := two_of P5.out.bd
          have HCL := hid (r_flush P5.out.ro P5.out.zB PD.out.G x.set HXO.out.2.2.1)
          go_wp2_with fail
          refine HCL.out.mono ?_
          rintro ee w6 ⟨⟨qL, mL, dL, qS, mS, dS, rfl, ro6⟩, k6⟩
          have P6 := hid (P5.out.keepN k6)
          have A6 := hid (k6.lies A5.out)
          have RO6 := hid ro6
          have HGX := hid (PD.out.G.flush x.set)
          have HSX := hid (PD.out.so.flush x.set)
          clear ro6 k6 HCL g2 d0 d1
          obtain ⟨d0, d1⟩ := two_of P6.out.bd
          obtain ⟨e0, e1⟩ := two_free P6.out.bd
          have lD := lt_of_block P6.out.bd
          go_wp2_with fail
          go_meet
          obtain ⟨hb7, k7⟩ := gset2 P6.out.bd (.slice qL mL dL) (.slice qS mS dS)
          have hPI := P6.out.storeD HNE.out PD.out.s PD.out.l8 HGX.out HSX.out RO6.out k7 hb7
          have hAct := k7.lies A6.out (fun e => by
              have e : bA = bD := e
              have h := A6.out
              rw [e, P6.out.bd] at h
              cases h)
          exact ⟨_, rfl, rfl, hid ⟨_, _, _, _, _, _, _, _, _, _, _, _, _, _, hPI, hAct⟩⟩
        have hd3 : (x.d == 3) = false := by simpa using d3
        clear d0 d1 d2 d3
        as_aux_lemma =>
          rcases hg7 : goes7 (vcode L x.f.dst.v / 256) τ x.inn x.f.dst x.f.src x.set with ⟨F, τ7⟩
          have hgs := goes_same V τ x.inn x.f.dst x.f.src x.set
          rw [PA.out.s.code, hg7] at hgs
          have hgg := goes_good V PA.out.G x.inn x.f.dst x.f.src x.set
          rw [hgs] at hgg
          have hso := PA.out.so.goes7 (vcode L x.f.dst.v / 256) x.inn x.f.dst x.f.src x.set
          rw [hg7] at hso
          have C16 := goes_any _ PA.out.R PA.out.G PA.out.zB x.inn x.f.dst x.f.src HXO.out.2.2.2.2.2.1.1 HXO.out.2.2.2.2.2.1.2.1 (HSV.out.trans HDV.out.symm) x.set HXO.out.2.2.1 (.bool x.f.tag) (.int .u8 x.f.pri) (.int .u16 x.f.fvid) (.int .u16 x.f.ty) (.string x.f.data)
          rw [hgs, HDV.out] at C16
          have C16 := hid C16
          have HG7 := hid hg7
          have HGG := hid hgg
          have HS7 := hid hso
          clear hg7 hgs hgg hso
          have g1 := act_cell HA.out 1 (.int .u16 x.m.v) rfl
          have g2 := act_cell HA.out 2 (.int .u8 x.set) rfl
          have g10 := act_cell HA.out 10 (.int .i64 x.inn) rfl
          go_wp2_with (refine wpList_load_mid rfl 33 _ rfl bA 11 rfl x.f.cells _ (act_frame HA.out) Try.underlying33 rfl (by kernel_rfl) ?_)
          refine C16.out.mono ?_
          rintro ee w5 ⟨rfl, ⟨p6, m6, c6, i6⟩, k6⟩
          have A5 := hid (k6.lies HA.out (PA.out.R.2.2.1.not_own HA.out (by decide) (by decide)))
          have P5 := hid (PA.out.turn (Nat.le_refl _) k6 i6.2.2.1)
          clear i6 k6 C16 g1 g2 g10
          have g1 := act_cell A5.out 1 (.int .u16 x.m.v) rfl
          have g2 := act_cell A5.out 2 (.int .u8 x.set) rfl
          have g10 := act_cell A5.out 10 (.int .i64 x.inn) rfl
          obtain ⟨c0, c1, c2, c3, c4, c5, c6, c7, c8, c9⟩ := ten_of P5.out.bv
          obtain ⟨d0, d1⟩ := two_of P5.out.bd
          have C25 := rgoes_any ports P C L w0.heap.size pL nL cL pS nS cS τ k w5 ((WV.of_own P5.out.ac).mono (Nat.zero_le _)) PA.out.key PA.out.ok (by have := PA.out.l8L; omega) P5.out.ro P5.out.zB PA.out.G PA.out.so x.inn x.f HXO.out.2.2.2.2.2.1.1 HXO.out.2.2.2.2.2.1.2.1 (HSV.out.trans HDV.out.symm) x.set HXO.out.2.2.1
          rw [HG7.out, HDV.out] at C25
          have C25 := hid C25
          go_wp2_with (refine wpList_load_mid rfl 33 _ rfl bA 11 rfl x.f.cells _ (act_frame A5.out) Try.underlying33 rfl (by kernel_rfl) ?_)
          refine C25.out.mono ?_
          rintro ee w6 ⟨⟨qL, mL, dL, qS, mS, dS, rfl, ro6⟩, k6⟩
          have P6 := hid (P5.out.keepN k6)
          have A6 := hid (k6.lies A5.out)
          have RO6 := hid ro6
          clear ro6 k6 C25 g1 g2 g10 c0 c1 c2 c3 c4 c5 c6 c7 c8 c9 d0 d1
          go_upto_region 18 with (fail)
          have k7 : Keeps Nil w6 ((w6.alloc (.cells #[Value.bool (F 0), Value.bool (F 1), Value.bool (F 2), Value.bool (F 3), Value.bool (F 4), Value.bool (F 5), Value.bool (F 6), Value.bool (F 7)] 69 (0, 0))).alloc (.cells #[Value.slice qL mL dL, Value.slice qS mS dS] 61 (0, 0))) := ((Keeps.refl _ _).alloc _).alloc _
          obtain ⟨hO, hR⟩ := two_allocs w6 (.cells #[Value.bool (F 0), Value.bool (F 1), Value.bool (F 2), Value.bool (F 3), Value.bool (F 4), Value.bool (F 5), Value.bool (F 6), Value.bool (F 7)] 69 (0, 0)) (.cells #[Value.slice qL mL dL, Value.slice qS mS dS] 61 (0, 0))
          generalize ((w6.alloc (.cells #[Value.bool (F 0), Value.bool (F 1), Value.bool (F 2), Value.bool (F 3), Value.bool (F 4), Value.bool (F 5), Value.bool (F 6), Value.bool (F 7)] 69 (0, 0))).alloc (.cells #[Value.slice qL mL dL, Value.slice qS mS dS] 61 (0, 0))) = w7 at *
          generalize hbO : w6.heap.size = bO at *
          have HBO := hid hbO
          have P7 := hid (P6.out.keepN k7)
          have A7 := hid (k7.lies A6.out)
          have RO7 := hid (RO6.out.keepN k7)
          have lD6 := lt_of_block P6.out.bd
          have hneO : bO ≠ bD := by omega
          have HO := hid hO
          clear k7 hO hbO RO6
          obtain ⟨r0, r1⟩ := two_of hR
          obtain ⟨d0, d1⟩ := two_of P7.out.bd
          obtain ⟨e0, e1⟩ := two_free P7.out.bd
          have lD := lt_of_block P7.out.bd
          clear hR
          go_upto_region 19 with (fail)
          obtain ⟨hb8, k8⟩ := gset2 P7.out.bd (.slice qL mL dL) (.slice qS mS dS)
          generalize ((w7.setCell ⟨bD, 0, Option.none⟩ (.slice qL mL dL)).setCell ⟨bD, 1, Option.none⟩ (.slice qS mS dS)) = w8 at *
          have P8 := hid (P7.out.storeD HNE.out PA.out.s PA.out.l8 HGG.out HS7.out RO7.out k8 hb8)
          have A8 := hid (k8.lies A7.out (fun e => by
              have e : bA = bD := e
              have h := A7.out
              rw [e, P7.out.bd] at h
              cases h))
          have HO8 := hid (k8.lies HO.out (fun e => hneO e))
          clear r0 r1 d0 d1 e0 e1 lD k8 hb8 hneO lD6
          have HSF := hid (fun W => set_any F W)
          generalize hOF : setOf F = OF at *
          clear hOF
          go_wp2_with (first | (refine wpList_load_mid rfl 69 _ rfl bO 0 rfl [Value.bool (F 0), Value.bool (F 1), Value.bool (F 2), Value.bool (F 3), Value.bool (F 4), Value.bool (F 5), Value.bool (F 6), Value.bool (F 7)] _ (range_block HO8.out _ 0 (fun j v hv => by simpa using hv)) Try.underlying69 rfl (by kernel_rfl) ?_) | (go_at_call 26; refine (HSF.out _).mono ?_; rintro ee w9 ⟨rfl, k9⟩))
          go_meet
          exact ⟨_, rfl, rfl, hid ⟨_, _, _, _, _, _, _, _, _, _, _, _, _, _, P8.out.keepN k9, k9.lies A8.out⟩⟩
      case rest =>
        obtain ⟨er, rfl, rfl, HC⟩ := hcut
        clear PA HA
        clear p m c V L τ P C pL nL cL pS nS cS
        obtain ⟨p, m, c, V, L, τ, P, C, pL, nL, cL, pS, nS, cS, hP, hA⟩ := HC.out
        have P2 := hid hP
        have A2 := hid hA
        clear HC hP hA
        obtain ⟨pt, hpt, hpt2⟩ : ∃ pt, IntKind.u8.wrap x.inn = pt ∧ (0 ≤ pt ∧ pt < 256) := ⟨_, rfl, by simp [IntKind.wrap, IntKind.bits, IntKind.signed]; omega⟩
        have hL8 := P2.out.l8L
        have C19 := vid_any _ P2.out.R h1 h8 hpt2 x.f HXO.out.2.2.2.2.2.1.2.2.2.1
        have C27 := fun (W : World) (kW : Keeps Nil wc W) => rvid_any ports 0 P C L W (P2.out.wv.keepN kW) P2.out.key P2.out.ok (by omega) h1 h8 hpt2 x.f HXO.out.2.2.2.2.2.1.2.2.2.1 HXO.out.2.2.2.2.2.1.1.2.2.2.2.2.2
        have C20 := fun (W : World) (kW : Keeps Nil wc W) => out_any W (P2.out.R.keepN kW) hpt2 HXO.out.2.1.1 x.f HD2.out HXO.out.2.2.2.2.2.1.2.2.1 HXO.out.2.2.2.2.2.1.2.2.2.1 HXO.out.2.2.2.2.2.1.2.2.2.2.1
        have C28 := fun (W : World) (kW : Keeps Nil wc W) => rout_any ports 0 P C L W (P2.out.wv.keepN kW) P2.out.key P2.out.ok (by omega) hpt2 HXO.out.2.1.1 x.f HD2.out HXO.out.2.2.2.2.2.1.2.2.1 HXO.out.2.2.2.2.2.1.2.2.2.1 HXO.out.2.2.2.2.2.1.2.2.2.2.1
        rw [vid_same P2.out.s.code] at C19
        simp only [vout_same P2.out.s.code] at C20
        rcases hvd : vidP ports L pt x.f with ⟨vv, vb⟩
        rw [hvd] at C19
        simp only [hvd] at C27
        generalize voutP L pt x.m.v x.f = r0 at *
        obtain ⟨y, hy⟩ : ∃ y : Frm, frmO r0 = y.val := by
          cases r0 with
          | some y => exact ⟨y, rfl⟩
          | none => exact ⟨⟨⟨0, 0, 0, 0, 0, 0, 0⟩, ⟨0, 0, 0, 0, 0, 0, 0⟩, false, 0, 0, 0, ⟨#[]⟩⟩, rfl⟩
        obtain ⟨zb, hzb⟩ : ∃ zb, r0.isSome = zb := ⟨_, rfl⟩
        have C20 := fun (W : World) (kW : Keeps Nil wc W) => hid (show Calls Try.prog 20 _ W fun e w' => e = .returned (.tuple #[y.val, .bool zb]) ∧ Keeps Nil W w' from (C20 W kW).mono fun e w' he => by
          obtain ⟨e1, k⟩ := he
          exact ⟨by rw [e1, hy, hzb], k⟩)
        have C28 := fun (W : World) (kW : Keeps Nil wc W) => hid (show Calls Try.prog 28 _ W fun e w' => e = .returned (.tuple #[y.val, .bool zb]) ∧ Keeps Nil W w' from (C28 W kW).mono fun e w' he => by
          obtain ⟨e1, k⟩ := he
          exact ⟨by rw [e1, hy, hzb], k⟩)
        have C27 := fun (W : World) (kW : Keeps Nil wc W) => hid (C27 W kW)
        have C19 := hid C19
        have HE33 := hid (fun W => neq33 y W)
        have hML : m = nL := by
          have h1 := P2.out.R.2.2.1.2.1.1
          have h2 := P2.out.ro.1.len
          omega
        subst hML
        have hM10 : m ≤ 1000 := P2.out.R.2.2.1.n_le P2.out.G
        have HM10 := hid hM10
        clear hvd hy hzb hL8 hM10
        have g1 := act_cell A2.out 1 (.int .u16 x.m.v) rfl
        have g10 := act_cell A2.out 10 (.int .i64 x.inn) rfl
        go_wp2_with (refine wpList_load_mid rfl 33 _ rfl bA 11 rfl x.f.cells _ (act_frame A2.out) Try.underlying33 rfl (by kernel_rfl) ?_)
        refine C19.out.mono ?_
        rintro ee w3 ⟨rfl, k3⟩
        have P3 := hid (P2.out.keepN k3)
        have A3 := hid (k3.lies A2.out)
        have K3 := hid k3
        clear k3 C19 g1 g10
        have g1 := act_cell A3.out 1 (.int .u16 x.m.v) rfl
        have g10 := act_cell A3.out 10 (.int .i64 x.inn) rfl
        obtain ⟨c0, c1, c2, c3, c4, c5, c6, c7, c8, c9⟩ := ten_of P3.out.bv
        go_wp2_with (refine wpList_load_mid rfl 33 _ rfl bA 11 rfl x.f.cells _ (act_frame A3.out) Try.underlying33 rfl (by kernel_rfl) ?_)
        refine (C27 _ K3.out).out.mono ?_
        rintro ee w4 ⟨rfl, k4⟩
        have P4 := hid (P3.out.keepN k4)
        have A4 := hid (k4.lies A3.out)
        have K4 := hid (K3.out.trans k4)
        clear k4 C27 g1 g10 c0 c1 c2 c3 c4 c5 c6 c7 c8 c9
        have g1 := act_cell A4.out 1 (.int .u16 x.m.v) rfl
        have g10 := act_cell A4.out 10 (.int .i64 x.inn) rfl
        go_wp2_with (refine wpList_load_mid rfl 33 _ rfl bA 11 rfl x.f.cells _ (act_frame A4.out) Try.underlying33 rfl (by kernel_rfl) ?_)
        refine (C20 _ K4.out).out.mono ?_
        rintro ee w5 ⟨rfl, k5⟩
        have P5 := hid (P4.out.keepN k5)
        have A5 := hid (k5.lies A4.out)
        have K5 := hid (K4.out.trans k5)
        clear k5 C20 g1 g10
        go_upto_region 36 with (refine wpList_store_mid rfl 33 _ _ rfl w5.heap.size 0 y.cells.toArray rfl rfl ?_ (by kernel_rfl) ?_ ?_; exact there17 (alloc_block w5 (.cells #[Value.int IntKind.u8 0, Value.int IntKind.u8 0, Value.int IntKind.u8 0, Value.int IntKind.u8 0, Value.int IntKind.u8 0, Value.int IntKind.u8 0, Value.int IntKind.u8 0, Value.int IntKind.u8 0, Value.int IntKind.u8 0, Value.int IntKind.u8 0, Value.int IntKind.u8 0, Value.int IntKind.u8 0, Value.bool false, Value.int IntKind.u8 0, Value.int IntKind.u16 0, Value.int IntKind.u16 0, Value.string ⟨#[]⟩] 33 (0, 0))) rfl y; exact frm_one y; generalize hW6 : World.setCells _ _ _ _ = w6; have HW6 := hid hW6; clear hW6)
        have k9 : Keeps Nil w5 w6 := by rw [← HW6.out]; exact Keeps.setCells (fun e => absurd e (Nat.lt_irrefl _)) _ _ _ ((Keeps.refl _ _).alloc _)
        have hb9 : w6.heap[w5.heap.size]? = some (.cells #[Value.int IntKind.u8 y.dst.a, Value.int IntKind.u8 y.dst.b, Value.int IntKind.u8 y.dst.c, Value.int IntKind.u8 y.dst.d, Value.int IntKind.u8 y.dst.e, Value.int IntKind.u8 y.dst.f, Value.int IntKind.u8 y.src.a, Value.int IntKind.u8 y.src.b, Value.int IntKind.u8 y.src.c, Value.int IntKind.u8 y.src.d, Value.int IntKind.u8 y.src.e, Value.int IntKind.u8 y.src.f, Value.bool y.tag, Value.int IntKind.u8 y.pri, Value.int IntKind.u16 y.fvid, Value.int IntKind.u16 y.ty, Value.string y.data] 33 (0, 0)) := by rw [← HW6.out]; exact setCells_frm (alloc_block w5 (.cells #[Value.int IntKind.u8 0, Value.int IntKind.u8 0, Value.int IntKind.u8 0, Value.int IntKind.u8 0, Value.int IntKind.u8 0, Value.int IntKind.u8 0, Value.int IntKind.u8 0, Value.int IntKind.u8 0, Value.int IntKind.u8 0, Value.int IntKind.u8 0, Value.int IntKind.u8 0, Value.int IntKind.u8 0, Value.bool false, Value.int IntKind.u8 0, Value.int IntKind.u16 0, Value.int IntKind.u16 0, Value.string ⟨#[]⟩] 33 (0, 0))) rfl y
        have P6 := hid (P5.out.keepN k9)
        have A6 := hid (k9.lies A5.out)
        have K9w6 := hid k9
        generalize w5.heap.size = bY at *
        have HbY := hid hb9
        clear k9 hb9 HW6
        have g1 := act_cell A6.out 1 (.int .u16 x.m.v) rfl
        have g10 := act_cell A6.out 10 (.int .i64 x.inn) rfl
        obtain ⟨c0, c1, c2, c3, c4, c5, c6, c7, c8, c9⟩ := ten_of P6.out.bv
        go_wp2_with (refine wpList_load_mid rfl 33 _ rfl bA 11 rfl x.f.cells _ (act_frame A6.out) Try.underlying33 rfl (by kernel_rfl) ?_)
        refine (C28 _ (K5.out.trans K9w6.out)).out.mono ?_
        rintro ee w7 ⟨rfl, k7⟩
        have P7 := hid (P6.out.keepN k7)
        have A7 := hid (k7.lies A6.out)
        have HY7 := hid (k7.lies HbY.out)
        clear k7 C28 g1 g10 c0 c1 c2 c3 c4 c5 c6 c7 c8 c9 HbY A6 P6 K5 K4 K3
        go_upto_region 37 with (refine wpList_store_mid rfl 33 _ _ rfl w7.heap.size 0 y.cells.toArray rfl rfl ?_ (by kernel_rfl) ?_ ?_; exact there17 (alloc_block w7 (.cells #[Value.int IntKind.u8 0, Value.int IntKind.u8 0, Value.int IntKind.u8 0, Value.int IntKind.u8 0, Value.int IntKind.u8 0, Value.int IntKind.u8 0, Value.int IntKind.u8 0, Value.int IntKind.u8 0, Value.int IntKind.u8 0, Value.int IntKind.u8 0, Value.int IntKind.u8 0, Value.int IntKind.u8 0, Value.bool false, Value.int IntKind.u8 0, Value.int IntKind.u16 0, Value.int IntKind.u16 0, Value.string ⟨#[]⟩] 33 (0, 0))) rfl y; exact frm_one y; generalize hW6 : World.setCells _ _ _ _ = w8; have HW6 := hid hW6; clear hW6)
        have k9 : Keeps Nil w7 w8 := by rw [← HW6.out]; exact Keeps.setCells (fun e => absurd e (Nat.lt_irrefl _)) _ _ _ ((Keeps.refl _ _).alloc _)
        have hb9 : w8.heap[w7.heap.size]? = some (.cells #[Value.int IntKind.u8 y.dst.a, Value.int IntKind.u8 y.dst.b, Value.int IntKind.u8 y.dst.c, Value.int IntKind.u8 y.dst.d, Value.int IntKind.u8 y.dst.e, Value.int IntKind.u8 y.dst.f, Value.int IntKind.u8 y.src.a, Value.int IntKind.u8 y.src.b, Value.int IntKind.u8 y.src.c, Value.int IntKind.u8 y.src.d, Value.int IntKind.u8 y.src.e, Value.int IntKind.u8 y.src.f, Value.bool y.tag, Value.int IntKind.u8 y.pri, Value.int IntKind.u16 y.fvid, Value.int IntKind.u16 y.ty, Value.string y.data] 33 (0, 0)) := by rw [← HW6.out]; exact setCells_frm (alloc_block w7 (.cells #[Value.int IntKind.u8 0, Value.int IntKind.u8 0, Value.int IntKind.u8 0, Value.int IntKind.u8 0, Value.int IntKind.u8 0, Value.int IntKind.u8 0, Value.int IntKind.u8 0, Value.int IntKind.u8 0, Value.int IntKind.u8 0, Value.int IntKind.u8 0, Value.int IntKind.u8 0, Value.int IntKind.u8 0, Value.bool false, Value.int IntKind.u8 0, Value.int IntKind.u16 0, Value.int IntKind.u16 0, Value.string ⟨#[]⟩] 33 (0, 0))) rfl y
        have P8 := hid (P7.out.keepN k9)
        have A8 := hid (k9.lies A7.out)
        have K9w8 := hid k9
        generalize w7.heap.size = bZ at *
        have HbZ := hid hb9
        clear k9 hb9 HW6
        have HY8 := hid (K9w8.out.lies HY7.out)
        have HQ := hid (show ∀ X, Keeps Nil w8 X → (fun X : World => X.rangeAt bY 0 y.cells ∧ (X.rangeAt bZ 0 y.cells ∧ X.cell? ⟨bD, 0, Option.none⟩ = some (.slice pL m cL))) X from fun X kX => ⟨range_frame (kX.lies HY8.out), range_frame (kX.lies HbZ.out), (two_of (kX.lies P8.out.bd)).1⟩)
        have kk : Keeps Nil w8 w8 := Keeps.refl _ _
        have hE33 := HE33.out
        refine wp_region_held_drew (S := (fun X : World => X.rangeAt bY 0 y.cells ∧ (X.rangeAt bZ 0 y.cells ∧ X.cell? ⟨bD, 0, Option.none⟩ = some (.slice pL m cL)))) (by kernel_rfl) ?_ (fun hHeld => ?_)
        · (try dsimp only); (first | exact HQ.out _ kk | exact HQ.out _ kk.drew)
        refine wpAnyH_take (i := 0) (v := ?_) rfl (by kernel_rfl) (by kernel_rfl) (by kernel_rfl) (fun _ _ _ h => h) (Or.inl ⟨by rfl, ?_⟩) (by assumption) ?_
        rotate_left
        · (intro W hSw; (try dsimp only at hSw); go_simp <;> with_reducible rfl)
        try simp only [Act.put, List.setIfInBounds_toArray, List.set_cons_zero, List.set_cons_succ, List.getElem_toArray, List.getElem_cons_zero, List.getElem_cons_succ]
        refine wpAnyH_take (i := 1) (v := ?_) rfl (by kernel_rfl) (by kernel_rfl) (by kernel_rfl) (fun _ _ _ h => h) (Or.inl ⟨by rfl, ?_⟩) (by assumption) ?_
        rotate_left
        · (intro W hSw; (try dsimp only at hSw); go_simp <;> with_reducible rfl)
        try simp only [Act.put, List.setIfInBounds_toArray, List.set_cons_zero, List.set_cons_succ, List.getElem_toArray, List.getElem_cons_zero, List.getElem_cons_succ]
        refine wpAnyH_take (i := 2) (v := ?_) rfl (by kernel_rfl) (by kernel_rfl) (by kernel_rfl) (fun _ _ _ h => h) (Or.inl ⟨by rfl, ?_⟩) (by assumption) ?_
        rotate_left
        · (intro W hSw; (try dsimp only at hSw); go_simp <;> with_reducible rfl)
        try simp only [Act.put, List.setIfInBounds_toArray, List.set_cons_zero, List.set_cons_succ, List.getElem_toArray, List.getElem_cons_zero, List.getElem_cons_succ]
        refine wpAnyH_take (i := 3) (v := ?_) rfl (by kernel_rfl) (by kernel_rfl) (by kernel_rfl) (fun _ _ _ h => h) (Or.inl ⟨by rfl, ?_⟩) (by assumption) ?_
        rotate_left
        · (intro W hSw; (try dsimp only at hSw); go_simp <;> with_reducible rfl)
        try simp only [Act.put, List.setIfInBounds_toArray, List.set_cons_zero, List.set_cons_succ, List.getElem_toArray, List.getElem_cons_zero, List.getElem_cons_succ]
        refine wpAnyH_take (i := 4) (v := ?_) rfl (by kernel_rfl) (by kernel_rfl) (by kernel_rfl) (fun _ _ _ h => h) (Or.inl ⟨by rfl, ?_⟩) (by assumption) ?_
        rotate_left
        · (intro W hSw; (try dsimp only at hSw); go_simp <;> with_reducible rfl)
        try simp only [Act.put, List.setIfInBounds_toArray, List.set_cons_zero, List.set_cons_succ, List.getElem_toArray, List.getElem_cons_zero, List.getElem_cons_succ]
        refine wpAnyH_take (i := 5) (v := ?_) rfl (by kernel_rfl) (by kernel_rfl) (by kernel_rfl) (fun _ _ _ h => h) (Or.inl ⟨by rfl, ?_⟩) (by assumption) ?_
        rotate_left
        · (intro W hSw; (try dsimp only at hSw); go_simp <;> with_reducible rfl)
        try simp only [Act.put, List.setIfInBounds_toArray, List.set_cons_zero, List.set_cons_succ, List.getElem_toArray, List.getElem_cons_zero, List.getElem_cons_succ]
        refine wpAnyH_take (i := 6) (v := ?_) rfl (by kernel_rfl) (by kernel_rfl) (by kernel_rfl) (fun _ _ _ h => h) (Or.inl ⟨by rfl, ?_⟩) (by assumption) ?_
        rotate_left
        · (intro W hSw; (try dsimp only at hSw); go_simp <;> with_reducible rfl)
        try simp only [Act.put, List.setIfInBounds_toArray, List.set_cons_zero, List.set_cons_succ, List.getElem_toArray, List.getElem_cons_zero, List.getElem_cons_succ]
        refine wpAnyH_take (i := 7) (v := ?_) rfl (by kernel_rfl) (by kernel_rfl) (by kernel_rfl) (fun _ _ _ h => h) (Or.inl ⟨by rfl, ?_⟩) (by assumption) ?_
        rotate_left
        · (intro W hSw; (try dsimp only at hSw); go_simp <;> with_reducible rfl)
        try simp only [Act.put, List.setIfInBounds_toArray, List.set_cons_zero, List.set_cons_succ, List.getElem_toArray, List.getElem_cons_zero, List.getElem_cons_succ]
        refine wpAnyH_take (i := 8) (v := ?_) rfl (by kernel_rfl) (by kernel_rfl) (by kernel_rfl) (fun _ _ _ h => h) (Or.inl ⟨by rfl, ?_⟩) (by assumption) ?_
        rotate_left
        · (intro W hSw; (try dsimp only at hSw); go_simp <;> with_reducible rfl)
        try simp only [Act.put, List.setIfInBounds_toArray, List.set_cons_zero, List.set_cons_succ, List.getElem_toArray, List.getElem_cons_zero, List.getElem_cons_succ]
        refine wpAnyH_take (i := 9) (v := ?_) rfl (by kernel_rfl) (by kernel_rfl) (by kernel_rfl) (fun _ _ _ h => h) (Or.inl ⟨by rfl, ?_⟩) (by assumption) ?_
        rotate_left
        · (intro W hSw; (try dsimp only at hSw); go_simp <;> with_reducible rfl)
        try simp only [Act.put, List.setIfInBounds_toArray, List.set_cons_zero, List.set_cons_succ, List.getElem_toArray, List.getElem_cons_zero, List.getElem_cons_succ]
        refine wpAnyH_take (i := 10) (v := ?_) rfl (by kernel_rfl) (by kernel_rfl) (by kernel_rfl) (fun _ _ _ h => h) (Or.inl ⟨by rfl, ?_⟩) (by assumption) ?_
        rotate_left
        · (intro W hSw; (try dsimp only at hSw); go_simp <;> with_reducible rfl)
        try simp only [Act.put, List.setIfInBounds_toArray, List.set_cons_zero, List.set_cons_succ, List.getElem_toArray, List.getElem_cons_zero, List.getElem_cons_succ]
        refine wpAnyH_take (i := 11) (v := ?_) rfl (by kernel_rfl) (by kernel_rfl) (by kernel_rfl) (fun _ _ _ h => h) (Or.inl ⟨by rfl, ?_⟩) (by assumption) ?_
        rotate_left
        · (intro W hSw; (try dsimp only at hSw); go_simp <;> with_reducible rfl)
        try simp only [Act.put, List.setIfInBounds_toArray, List.set_cons_zero, List.set_cons_succ, List.getElem_toArray, List.getElem_cons_zero, List.getElem_cons_succ]
        refine wpAnyH_take (i := 12) (v := ?_) rfl (by kernel_rfl) (by kernel_rfl) (by kernel_rfl) (fun _ _ _ h => h) (Or.inl ⟨by rfl, ?_⟩) (by assumption) ?_
        rotate_left
        · (intro W hSw; (try dsimp only at hSw); go_simp <;> with_reducible rfl)
        try simp only [Act.put, List.setIfInBounds_toArray, List.set_cons_zero, List.set_cons_succ, List.getElem_toArray, List.getElem_cons_zero, List.getElem_cons_succ]
        refine wpAnyH_take (i := 13) (v := ?_) rfl (by kernel_rfl) (by kernel_rfl) (by kernel_rfl) (fun _ _ _ h => h) (Or.inl ⟨by rfl, ?_⟩) (by assumption) ?_
        rotate_left
        · (intro W hSw; (try dsimp only at hSw); go_simp <;> with_reducible rfl)
        try simp only [Act.put, List.setIfInBounds_toArray, List.set_cons_zero, List.set_cons_succ, List.getElem_toArray, List.getElem_cons_zero, List.getElem_cons_succ]
        refine' wpAnyH_take (i := 14) (v := _) rfl (by kernel_rfl) (by kernel_rfl) (by kernel_rfl) (fun _ _ _ h => h) (yieldsIf_load_mid (by rfl) 33 _ rfl bY 0 rfl y.cells _ (fun W hS => hS.1) Try.underlying33 rfl (by kernel_rfl)) (by assumption) ?_
        try simp only [Act.put, List.setIfInBounds_toArray, List.set_cons_zero, List.set_cons_succ, List.getElem_toArray, List.getElem_cons_zero, List.getElem_cons_succ]
        refine' wpAnyH_take (i := 15) (v := _) rfl (by kernel_rfl) (by kernel_rfl) (by kernel_rfl) (fun _ _ _ h => h) (yieldsIf_load_mid (by rfl) 33 _ rfl bZ 0 rfl y.cells _ (fun W hS => hS.2.1) Try.underlying33 rfl (by kernel_rfl)) (by assumption) ?_
        try simp only [Act.put, List.setIfInBounds_toArray, List.set_cons_zero, List.set_cons_succ, List.getElem_toArray, List.getElem_cons_zero, List.getElem_cons_succ]
        refine wpAnyH_take (i := 16) (v := ?_) rfl (by kernel_rfl) (by kernel_rfl) (by kernel_rfl) (fun _ _ _ h => h) (Or.inl ⟨by rfl, ?_⟩) (by assumption) ?_
        rotate_left
        · (intro W hSw; (try dsimp only at hSw); go_simp <;> with_reducible rfl)
        try simp only [Act.put, List.setIfInBounds_toArray, List.set_cons_zero, List.set_cons_succ, List.getElem_toArray, List.getElem_cons_zero, List.getElem_cons_succ]
        refine wpAnyH_take (i := 17) (v := ?_) rfl (by kernel_rfl) (by kernel_rfl) (by kernel_rfl) (fun _ _ _ h => h) (Or.inl ⟨by rfl, ?_⟩) (by assumption) ?_
        rotate_left
        · (intro W hSw; (try dsimp only at hSw); go_simp <;> with_reducible rfl)
        try simp only [Act.put, List.setIfInBounds_toArray, List.set_cons_zero, List.set_cons_succ, List.getElem_toArray, List.getElem_cons_zero, List.getElem_cons_succ]
        refine wpAnyH_take (i := 18) (v := ?_) rfl (by kernel_rfl) (by kernel_rfl) (by kernel_rfl) (fun _ _ _ h => h) (Or.inl ⟨by rfl, ?_⟩) (by assumption) ?_
        rotate_left
        · (intro W hSw; (try dsimp only at hSw); go_simp <;> with_reducible rfl)
        try simp only [Act.put, List.setIfInBounds_toArray, List.set_cons_zero, List.set_cons_succ, List.getElem_toArray, List.getElem_cons_zero, List.getElem_cons_succ]
        refine wpAnyH_take (i := 19) (v := ?_) rfl (by kernel_rfl) (by kernel_rfl) (by kernel_rfl) (fun _ _ _ h => h) (Or.inl ⟨by rfl, ?_⟩) (by assumption) ?_
        rotate_left
        · (intro W hSw; (try dsimp only at hSw); go_simp <;> with_reducible rfl)
        try simp only [Act.put, List.setIfInBounds_toArray, List.set_cons_zero, List.set_cons_succ, List.getElem_toArray, List.getElem_cons_zero, List.getElem_cons_succ]
        refine wpAnyH_take (i := 20) (v := ?_) rfl (by kernel_rfl) (by kernel_rfl) (by kernel_rfl) (fun _ _ _ h => h) (Or.inl ⟨by rfl, ?_⟩) (by assumption) ?_
        rotate_left
        · (intro W hSw; (try dsimp only at hSw); go_simp <;> with_reducible rfl)
        try simp only [Act.put, List.setIfInBounds_toArray, List.set_cons_zero, List.set_cons_succ, List.getElem_toArray, List.getElem_cons_zero, List.getElem_cons_succ]
        refine wpAnyH_take (i := 21) (v := ?_) rfl (by kernel_rfl) (by kernel_rfl) (by kernel_rfl) (fun _ _ _ h => h) (Or.inl ⟨by rfl, ?_⟩) (by assumption) ?_
        rotate_left
        · (intro W hSw; (try dsimp only at hSw); go_simp <;> with_reducible rfl)
        try simp only [Act.put, List.setIfInBounds_toArray, List.set_cons_zero, List.set_cons_succ, List.getElem_toArray, List.getElem_cons_zero, List.getElem_cons_succ]
        refine wpAnyH_take (i := 22) (v := ?_) rfl (by kernel_rfl) (by kernel_rfl) (by kernel_rfl) (fun _ _ _ h => h) (Or.inl ⟨by rfl, ?_⟩) (by assumption) ?_
        rotate_left
        · (intro W hSw; (try dsimp only at hSw); go_simp <;> with_reducible rfl)
        try simp only [Act.put, List.setIfInBounds_toArray, List.set_cons_zero, List.set_cons_succ, List.getElem_toArray, List.getElem_cons_zero, List.getElem_cons_succ]
        refine wpAnyH_take (i := 23) (v := ?_) rfl (by kernel_rfl) (by kernel_rfl) (by kernel_rfl) (fun _ _ _ h => h) (Or.inl ⟨by rfl, ?_⟩) (by assumption) ?_
        rotate_left
        · (intro W hSw; (try dsimp only at hSw); go_simp <;> with_reducible rfl)
        try simp only [Act.put, List.setIfInBounds_toArray, List.set_cons_zero, List.set_cons_succ, List.getElem_toArray, List.getElem_cons_zero, List.getElem_cons_succ]
        refine wpAnyH_take (i := 24) (v := ?_) rfl (by kernel_rfl) (by kernel_rfl) (by kernel_rfl) (fun _ _ _ h => h) (Or.inl ⟨by rfl, ?_⟩) (by assumption) ?_
        rotate_left
        · (intro W hSw; (try dsimp only at hSw); go_simp <;> with_reducible rfl)
        try simp only [Act.put, List.setIfInBounds_toArray, List.set_cons_zero, List.set_cons_succ, List.getElem_toArray, List.getElem_cons_zero, List.getElem_cons_succ]
        refine wpAnyH_take (i := 28) (v := ?_) rfl (by kernel_rfl) (by kernel_rfl) (by kernel_rfl) (fun _ _ _ h => h) (Or.inl ⟨by rfl, ?_⟩) (by assumption) ?_
        rotate_left
        · (intro W hSw; (try dsimp only at hSw); go_simp <;> with_reducible rfl)
        try simp only [Act.put, List.setIfInBounds_toArray, List.set_cons_zero, List.set_cons_succ, List.getElem_toArray, List.getElem_cons_zero, List.getElem_cons_succ]
        refine wpAnyH_take (i := 29) (v := ?_) rfl (by kernel_rfl) (by kernel_rfl) (by kernel_rfl) (fun _ _ _ h => h) (Or.inl ⟨by rfl, ?_⟩) (by assumption) ?_
        rotate_left
        · (intro W hSw; (try dsimp only at hSw); go_simp <;> with_reducible rfl)
        try simp only [Act.put, List.setIfInBounds_toArray, List.set_cons_zero, List.set_cons_succ, List.getElem_toArray, List.getElem_cons_zero, List.getElem_cons_succ]
        refine wpAnyH_take (i := 30) (v := ?_) rfl (by kernel_rfl) (by kernel_rfl) (by kernel_rfl) (fun _ _ _ h => h) (Or.inl ⟨by rfl, ?_⟩) (by assumption) ?_
        rotate_left
        · (intro W hSw; (try dsimp only at hSw); go_simp <;> with_reducible rfl)
        try simp only [Act.put, List.setIfInBounds_toArray, List.set_cons_zero, List.set_cons_succ, List.getElem_toArray, List.getElem_cons_zero, List.getElem_cons_succ]
        refine wpAnyH_ready (rs := [25]) (by kernel_rfl) (by simp) ?_
        refine AllReadyH.cons rfl (fun K hK => ?_) AllReadyH.nil
        try simp only [Act.put, List.setIfInBounds_toArray, List.set_cons_zero, List.set_cons_succ, List.getElem_toArray, List.getElem_cons_zero, List.getElem_cons_succ]
        go_simp
        (go_at_call 11; refine (base_any _ (P8.out.keepN kk.drew).R).mono ?_; rintro ee wq ⟨rfl, rfl⟩)
        (try go_wp2_with fail)
        refine hK.out _ _ ?_ (fun hHeld => ?_)
        · (try dsimp only); (first | exact HQ.out _ kk | exact HQ.out _ kk.drew)
        clear hK K
        try simp only [Act.put, List.setIfInBounds_toArray, List.set_cons_zero, List.set_cons_succ, List.getElem_toArray, List.getElem_cons_zero, List.getElem_cons_succ]
        refine wpAnyH_ready (rs := [26]) (by kernel_rfl) (by simp) ?_
        refine AllReadyH.cons rfl (fun K hK => ?_) AllReadyH.nil
        try simp only [Act.put, List.setIfInBounds_toArray, List.set_cons_zero, List.set_cons_succ, List.getElem_toArray, List.getElem_cons_zero, List.getElem_cons_succ]
        go_simp
        (go_at_call 18; refine (list_any _ _ _ _ _ _ _ _ (P8.out.keepN kk.drew).R.2.2.1 HM10.out).mono ?_; rintro ee wv ⟨⟨p9, c9, rfl, _⟩, kv⟩; have kk : Keeps Nil w8 wv := by first | exact kk.trans kv | exact kk.drew.trans kv)
        (try go_wp2_with fail)
        refine hK.out _ _ ?_ (fun hHeld => ?_)
        · (try dsimp only); (first | exact HQ.out _ kk | exact HQ.out _ kk.drew)
        clear hK K
        try simp only [Act.put, List.setIfInBounds_toArray, List.set_cons_zero, List.set_cons_succ, List.getElem_toArray, List.getElem_cons_zero, List.getElem_cons_succ]
        refine wpAnyH_take (i := 27) (v := ?_) rfl (by kernel_rfl) (by kernel_rfl) (by kernel_rfl) (fun _ _ _ h => h) (Or.inl ⟨by rfl, ?_⟩) (by assumption) ?_
        rotate_left
        · (intro W hSw; (try dsimp only at hSw); go_simp <;> with_reducible rfl)
        try simp only [Act.put, List.setIfInBounds_toArray, List.set_cons_zero, List.set_cons_succ, List.getElem_toArray, List.getElem_cons_zero, List.getElem_cons_succ]
        refine wpAnyH_take (i := 31) (v := ?_) rfl (by kernel_rfl) (by kernel_rfl) (by kernel_rfl) (fun _ _ _ h => h) (Or.inl ⟨by rfl, ?_⟩) (by assumption) ?_
        rotate_left
        · (intro W hSw; (try dsimp only at hSw); go_simp <;> with_reducible rfl)
        try simp only [Act.put, List.setIfInBounds_toArray, List.set_cons_zero, List.set_cons_succ, List.getElem_toArray, List.getElem_cons_zero, List.getElem_cons_succ]
        refine wpAnyH_take (i := 32) (v := ?_) rfl (by kernel_rfl) (by kernel_rfl) (by kernel_rfl) (fun _ _ _ h => h) (Or.inl ⟨by rfl, ?_⟩) (by assumption) ?_
        rotate_left
        · (intro W hSw; (try dsimp only at hSw); go_simp <;> with_reducible rfl)
        try simp only [Act.put, List.setIfInBounds_toArray, List.set_cons_zero, List.set_cons_succ, List.getElem_toArray, List.getElem_cons_zero, List.getElem_cons_succ]
        refine wpAnyH_done (by kernel_rfl) ?_ _
        go_wp2_with fail
        go_roundw
        case rel => exact ⟨k + 1, by omega, by go_num, hid ⟨_, _, _, _, _, _, _, _, _, _, _, _, _, _, P8.out.keepN kk⟩⟩
        case measure => simp only [intOf]; omega
    · obtain rfl : k = n := by omega
      obtain ⟨p, m, c, V, L, τ, P, C, pL, nL, cL, pS, nS, cS, hP⟩ := hh.out
      have K2 := hid hP.K
      clear hh hP
      go_wp2_with (go_at_call 7; refine (HW _).out.mono ?_; rintro ee w4 ⟨rfl, k4⟩)
      go_ret
      exact ⟨rfl, (K0.out.trans K2.out).trans k4⟩
end Go.Proofs.Ytcplmdgnldmhbaa
