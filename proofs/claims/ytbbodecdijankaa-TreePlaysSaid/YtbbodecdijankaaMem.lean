/-
  Layer 9: ports as they lie in rows, and the machine's memory. No condition.
-/
import Derived.Test.YtbbodecdijankaaTm
import Derived.Test.YtbbodecdijankaaCellR
import Derived.Deep.MidRow
namespace Go.Proofs.Ytbbodecdijankaa
open Go.RowKit
set_option linter.unusedVariables false
set_option linter.unusedSimpArgs false

/-- A word's cells. -/
def bcl (x : Bp) : List Value := [.int .u64 x.r, .int .u32 x.c, .int .u64 x.b, .int .u8 x.p, .int .u8 x.hops, .int .u64 x.ver, .int .u8 x.role, .bool x.prop, .bool x.agree, .bool x.top, .int .u64 x.echo]
/-- A port's cells. -/
def pcl (x : Pt) : List Value := [.int .u32 x.cost, .bool x.up, .int .u64 x.h.r, .int .u32 x.h.c, .int .u64 x.h.b, .int .u8 x.h.p, .int .u8 x.h.hops, .int .u64 x.h.ver, .int .u8 x.h.role, .bool x.h.prop, .bool x.h.agree, .bool x.h.top, .int .u64 x.h.echo, .int .i64 x.lasts, .bool x.ag, .int .i64 x.sp]
theorem pcl_len (x : Pt) : (pcl x).length = 16 := rfl
theorem bcl_len (x : Bp) : (bcl x).length = 11 := rfl
theorem pcl_one (x : Pt) : ∀ v ∈ pcl x, v.oneCell' = true := by
  intro v hv
  simp only [pcl, List.mem_cons, List.not_mem_nil, or_false] at hv
  rcases hv with rfl | rfl | rfl | rfl | rfl | rfl | rfl | rfl | rfl | rfl | rfl | rfl | rfl | rfl | rfl | rfl <;> rfl
/-- The i-th one's cells. -/
def EAt (cur : Array Value) (i : Nat) (x : Pt) : Prop := ∀ q v, (pcl x)[q]? = some v → cur[i * 16 + q]? = some v
/-- Block g is a row of them. -/
def Row (w : World) (E : TypeId) (g c : Nat) (L : List Pt) : Prop :=
  ∃ cur, w.heap[g]? = some (.cells cur E (0, 0)) ∧ cur.size = c * 16 ∧ c ≤ maxLen ∧ L.length ≤ c ∧ ∀ i x, L[i]? = some x → EAt cur i x
section
variable {w w' : World} {E : TypeId} {g c i : Nat} {L : List Pt} {x : Pt}
theorem Row.lt (h : Row w E g c L) : g < w.heap.size := by
  obtain ⟨cur, h, _⟩ := h; exact lt_of_block h
theorem Row.le (h : Row w E g c L) : L.length ≤ c ∧ c ≤ 9223372036854775807 := by
  obtain ⟨cur, _, _, hm, hl, _⟩ := h; exact ⟨hl, hm⟩
theorem Row.keep {S : Nat → Prop} (h : Row w E g c L) (k : Keeps S w w') (hS : ¬ S g) : Row w' E g c L := by
  have hl := h.lt
  obtain ⟨cur, h, r⟩ := h; exact ⟨cur, (k.block g hl hS).trans h, r⟩
theorem Row.of_block (h : Row w E g c L) (hb : w'.heap[g]? = w.heap[g]?) : Row w' E g c L := by
  obtain ⟨cur, h, r⟩ := h; exact ⟨cur, hb.trans h, r⟩
theorem Row.frozen (h : Row w E g c L) : ∀ q, w.frozen? ⟨g, q, Option.none⟩ = false := by
  obtain ⟨cur, hb, _⟩ := h
  exact fun q => by simp [World.frozen?, hb]
theorem Row.read (h : Row w E g c L) (hx : L[i]? = some x) :
    w.cell? ⟨g, i * 16, Option.none⟩ = some (.int .u32 x.cost) ∧ w.cell? ⟨g, i * 16 + 1, Option.none⟩ = some (.bool x.up) ∧ w.cell? ⟨g, i * 16 + 2, Option.none⟩ = some (.int .u64 x.h.r) ∧ w.cell? ⟨g, i * 16 + 3, Option.none⟩ = some (.int .u32 x.h.c) ∧ w.cell? ⟨g, i * 16 + 4, Option.none⟩ = some (.int .u64 x.h.b) ∧ w.cell? ⟨g, i * 16 + 5, Option.none⟩ = some (.int .u8 x.h.p) ∧ w.cell? ⟨g, i * 16 + 6, Option.none⟩ = some (.int .u8 x.h.hops) ∧ w.cell? ⟨g, i * 16 + 7, Option.none⟩ = some (.int .u64 x.h.ver) ∧ w.cell? ⟨g, i * 16 + 8, Option.none⟩ = some (.int .u8 x.h.role) ∧ w.cell? ⟨g, i * 16 + 9, Option.none⟩ = some (.bool x.h.prop) ∧ w.cell? ⟨g, i * 16 + 10, Option.none⟩ = some (.bool x.h.agree) ∧ w.cell? ⟨g, i * 16 + 11, Option.none⟩ = some (.bool x.h.top) ∧ w.cell? ⟨g, i * 16 + 12, Option.none⟩ = some (.int .u64 x.h.echo) ∧ w.cell? ⟨g, i * 16 + 13, Option.none⟩ = some (.int .i64 x.lasts) ∧ w.cell? ⟨g, i * 16 + 14, Option.none⟩ = some (.bool x.ag) ∧ w.cell? ⟨g, i * 16 + 15, Option.none⟩ = some (.int .i64 x.sp) := by
  obtain ⟨cur, hb, _, _, _, hat⟩ := h
  have H := hat i x hx
  have C : ∀ q v, (pcl x)[q]? = some v → w.cell? ⟨g, i * 16 + q, Option.none⟩ = some v := fun q v hv => by
    have := H q v hv
    simp [World.cell?, hb, this]
  refine ⟨?_, C 1 _ rfl, C 2 _ rfl, C 3 _ rfl, C 4 _ rfl, C 5 _ rfl, C 6 _ rfl, C 7 _ rfl, C 8 _ rfl, C 9 _ rfl, C 10 _ rfl, C 11 _ rfl, C 12 _ rfl, C 13 _ rfl, C 14 _ rfl, C 15 _ rfl⟩
  have := C 0 _ rfl
  simpa using this
/-- The heard word's cells as a range. -/
theorem Row.rangeH (h : Row w E g c L) (hx : L[i]? = some x) : w.rangeAt g (i * 16 + 2) (bcl x.h) := by
  obtain ⟨cur, hb, _, _, _, hat⟩ := h
  have H := hat i x hx
  intro j v hv
  have hj : j < 11 := by have := (List.getElem?_eq_some_iff.1 hv).1; simpa [bcl] using this
  have : (pcl x)[2 + j]? = some v := by
    rw [← hv]
    obtain rfl | rfl | rfl | rfl | rfl | rfl | rfl | rfl | rfl | rfl | rfl : j = 0 ∨ j = 1 ∨ j = 2 ∨ j = 3 ∨ j = 4 ∨ j = 5 ∨ j = 6 ∨ j = 7 ∨ j = 8 ∨ j = 9 ∨ j = 10 := by omega
    all_goals rfl
  have h2 := H _ v this
  rw [← Nat.add_assoc] at h2
  simp [World.cell?, hb, h2]
theorem Row.range (h : Row w E g c L) (hx : L[i]? = some x) : w.rangeAt g (i * 16) (pcl x) := by
  obtain ⟨cur, hb, _, _, _, hat⟩ := h
  have H := hat i x hx
  intro j v hv
  have h2 := H _ v hv
  simp [World.cell?, hb, h2]
theorem Row.there (h : Row w E g c L) (hi : i < L.length) (o n : Nat) (ho : o + n ≤ 16) : w.there g (i * 16 + o) n := by
  obtain ⟨cur, hb, hs, _, hl, _⟩ := h
  intro j hj
  have : i * 16 + o + j < cur.size := by omega
  refine ⟨by simp [World.cell?, hb, this], by simp [World.frozen?, hb]⟩
/-- A cell of a port turned. -/
theorem Row.put (h : Row w E g c L) (q : Nat) (hq : q < 16) {v : Value} {x' : Pt} (hx : L[i]? = some x) (hc : pcl x' = (pcl x).set q v) : Row (w.setCell ⟨g, i * 16 + q, Option.none⟩ v) E g c (L.set i x') := by
  obtain ⟨cur, hb, hs, hm, hl, hat⟩ := h
  have hi := (List.getElem?_eq_some_iff.1 hx).1
  refine ⟨_, setCell_block hb _ _, by simpa using hs, hm, by simpa using hl, fun j y hy => ?_⟩
  intro q' v' hv'
  have hq' : q' < 16 := by have := (List.getElem?_eq_some_iff.1 hv').1; simpa [pcl] using this
  rw [List.getElem?_set] at hy
  by_cases hij : i = j
  · subst hij
    rw [if_pos rfl, if_pos hi] at hy
    cases hy
    rw [hc, List.getElem?_set] at hv'
    rw [Array.getElem?_setIfInBounds]
    by_cases hqq : q = q'
    · subst hqq
      rw [if_pos rfl] at hv'
      split at hv'
      · cases hv'
        rw [if_pos rfl, if_pos (by omega)]
      · cases hv'
    · rw [if_neg hqq] at hv'
      rw [if_neg (by omega)]
      exact hat i x hx q' v' hv'
  · rw [if_neg hij] at hy
    rw [Array.getElem?_setIfInBounds]
    have h2 := hat j y hy q' v' hv'
    by_cases hqq : i * 16 + q = j * 16 + q'
    · omega
    · rw [if_neg hqq]
      exact h2
theorem setCells_cur {b : Nat} {T : TypeId} : ∀ (vs : List Value) (o : Nat) (w : World) (cur : Array Value), w.heap[b]? = some (.cells cur T (0, 0)) → o + vs.length ≤ cur.size →
    (∃ cur', (w.setCells b o vs).heap[b]? = some (.cells cur' T (0, 0)) ∧ cur'.size = cur.size ∧ ∀ i, cur'[i]? = if o ≤ i ∧ i < o + vs.length then vs[i - o]? else cur[i]?) ∧ Keeps (At b) w (w.setCells b o vs)
  | [], o, w, cur, h, _ => ⟨⟨cur, h, rfl, fun i => by rw [if_neg (by simp)]⟩, Keeps.refl _ _⟩
  | v :: r, o, w, cur, h, hl => by
    have h1 := setCell_block h o v
    have hl' : o + (r.length + 1) ≤ cur.size := by simpa using hl
    obtain ⟨⟨cur', h2, h3, h4⟩, k⟩ := setCells_cur r (o + 1) _ _ h1 (by simp; omega)
    refine ⟨⟨cur', h2, by rw [h3]; simp, fun i => ?_⟩, ((Keeps.refl (At b) w).set b o (at_self b) v).trans k⟩
    rw [h4 i, Array.getElem?_setIfInBounds, List.length_cons]
    by_cases hi : o = i
    · subst hi
      rw [if_neg (by omega), if_pos rfl, if_pos (by omega), if_pos (by omega), Nat.sub_self]
      rfl
    · by_cases h5 : o + 1 ≤ i ∧ i < o + 1 + r.length
      · rw [if_pos h5, if_pos (by omega), show i - o = (i - (o + 1)) + 1 from by omega]
        rfl
      · rw [if_neg h5, if_neg hi, if_neg (by omega)]
theorem Row.putRange (h : Row w E g c L) (o : Nat) (vs : List Value) (ho : o + vs.length ≤ 16) {x' : Pt} (hx : L[i]? = some x) (hc : ∀ q, q < 16 → (pcl x')[q]? = if o ≤ q ∧ q < o + vs.length then vs[q - o]? else (pcl x)[q]?) :
    Row (w.setCells g (i * 16 + o) vs) E g c (L.set i x') ∧ Keeps (At g) w (w.setCells g (i * 16 + o) vs) := by
  obtain ⟨cur, hb, hs, hm, hl, hat⟩ := h
  have hi := (List.getElem?_eq_some_iff.1 hx).1
  obtain ⟨⟨cur', h2, h3, h4⟩, k⟩ := setCells_cur vs (i * 16 + o) w cur hb (by omega)
  refine ⟨⟨cur', h2, by rw [h3]; exact hs, hm, by simpa using hl, fun j y hy => ?_⟩, k⟩
  intro q' v' hv'
  have hq' : q' < 16 := by have := (List.getElem?_eq_some_iff.1 hv').1; simpa [pcl] using this
  rw [List.getElem?_set] at hy
  rw [h4]
  by_cases hij : i = j
  · subst hij
    rw [if_pos rfl, if_pos hi] at hy
    cases hy
    rw [hc q' hq'] at hv'
    by_cases h5 : o ≤ q' ∧ q' < o + vs.length
    · rw [if_pos h5] at hv'
      rw [if_pos (by omega), show i * 16 + q' - (i * 16 + o) = q' - o from by omega]
      exact hv'
    · rw [if_neg h5] at hv'
      rw [if_neg (by omega)]
      exact hat i x hx q' v' hv'
  · rw [if_neg hij] at hy
    rw [if_neg (by omega)]
    exact hat j y hy q' v' hv'
end
/-- A machine's own cells. -/
def hcl (τ : TM) (g c : Nat) : Array Value := #[.int .u64 τ.id, .slice (some ⟨g, 0, Option.none⟩) τ.P.length c, .int .u64 τ.root, .int .u32 τ.cost, .int .i64 τ.port, .int .u8 τ.hops, .int .u64 τ.ver, .int .u8 τ.fl]
/-- A machine at m, whose ports lie at g. -/
structure Mach (w : World) (m g c : Nat) (τ : TM) : Prop where
  head : w.heap[m]? = some (.cells (hcl τ g c) 88 (0, 0))
  row : Row w 90 g c τ.P
/-- These two blocks alone. -/
def Of (m g : Nat) : Nat → Prop := fun k => k = m ∨ k = g
section
variable {w w' : World} {m g c i : Nat} {τ τ' : TM} {x x' : Pt}
theorem Mach.ne (h : Mach w m g c τ) : m ≠ g := by
  rintro rfl
  obtain ⟨cur, hb, _⟩ := h.row
  have := h.head
  rw [hb] at this
  injection this with this
  injection this with _ this
  exact absurd this (by decide)
theorem Mach.keep {S : Nat → Prop} (h : Mach w m g c τ) (k : Keeps S w w') (hm : ¬ S m) (hg : ¬ S g) : Mach w' m g c τ :=
  ⟨(k.block m (lt_of_block h.head) hm).trans h.head, h.row.keep k hg⟩
theorem Mach.keepN (h : Mach w m g c τ) (k : Keeps Nil w w') : Mach w' m g c τ := h.keep k (fun e => e) (fun e => e)
theorem Mach.alloc (h : Mach w m g c τ) (o : Obj) : Mach (w.alloc o) m g c τ := h.keepN ((Keeps.refl _ _).alloc o)
theorem Mach.drewN (h : Mach w m g c τ) (n : Nat) : Mach (w.drewN n) m g c τ := h.keepN (Keeps.drewN _ _)
theorem Mach.drew (h : Mach w m g c τ) : Mach w.drew m g c τ := h.keepN (Keeps.refl _ _).drew
theorem Mach.lt (h : Mach w m g c τ) : m < w.heap.size ∧ g < w.heap.size := ⟨lt_of_block h.head, h.row.lt⟩
theorem Mach.cells (h : Mach w m g c τ) : (w.cell? ⟨m, 0, Option.none⟩ = some (.int .u64 τ.id) ∧ w.cell? ⟨m, 1, Option.none⟩ = some (.slice (some ⟨g, 0, Option.none⟩) τ.P.length c) ∧ w.cell? ⟨m, 2, Option.none⟩ = some (.int .u64 τ.root) ∧ w.cell? ⟨m, 3, Option.none⟩ = some (.int .u32 τ.cost) ∧
    w.cell? ⟨m, 4, Option.none⟩ = some (.int .i64 τ.port) ∧ w.cell? ⟨m, 5, Option.none⟩ = some (.int .u8 τ.hops) ∧ w.cell? ⟨m, 6, Option.none⟩ = some (.int .u64 τ.ver) ∧ w.cell? ⟨m, 7, Option.none⟩ = some (.int .u8 τ.fl)) ∧ ∀ q, w.frozen? ⟨m, q, Option.none⟩ = false := by
  have hb := h.head
  refine ⟨?_, fun q => by simp [World.frozen?, hb]⟩
  simp [World.cell?, hb, hcl]
/-- A cell of the machine's own turned. -/
theorem Mach.set (h : Mach w m g c τ) (q : Nat) {v : Value} (hP : τ'.P = τ.P) (hc : hcl τ' g c = (hcl τ g c).setIfInBounds q v) : Mach (w.setCell ⟨m, q, Option.none⟩ v) m g c τ' :=
  ⟨by rw [hc]; exact setCell_block h.head q v, by rw [hP]; exact h.row.of_block (Below.heap_setCell _ _ _ _ (Ne.symm h.ne))⟩
/-- A cell of a port turned. -/
theorem Mach.put (h : Mach w m g c τ) (q : Nat) (hq : q < 16) {v : Value} (hx : τ.P[i]? = some x) (hc : pcl x' = (pcl x).set q v) : Mach (w.setCell ⟨g, i * 16 + q, Option.none⟩ v) m g c { τ with P := τ.P.set i x' } :=
  ⟨by
    have : hcl { τ with P := τ.P.set i x' } g c = hcl τ g c := by simp [hcl]
    rw [this]
    exact (Below.heap_setCell _ _ _ _ h.ne).trans h.head, h.row.put q hq hx hc⟩
theorem Mach.putRange (h : Mach w m g c τ) (o : Nat) (vs : List Value) (ho : o + vs.length ≤ 16) (hx : τ.P[i]? = some x) (hc : ∀ q, q < 16 → (pcl x')[q]? = if o ≤ q ∧ q < o + vs.length then vs[q - o]? else (pcl x)[q]?) :
    Mach (w.setCells g (i * 16 + o) vs) m g c { τ with P := τ.P.set i x' } ∧ Keeps (At g) w (w.setCells g (i * 16 + o) vs) := by
  obtain ⟨hr, k⟩ := h.row.putRange o vs ho hx hc
  refine ⟨⟨?_, hr⟩, k⟩
  have : hcl { τ with P := τ.P.set i x' } g c = hcl τ g c := by simp [hcl]
  rw [this]
  exact (k.block m h.lt.1 h.ne).trans h.head
end
theorem Keeps.ofM {w w' : World} {m g : Nat} (k : Keeps (At m) w w') : Keeps (Of m g) w w' := k.mono (fun _ e => Or.inl e)
theorem Keeps.ofG {w w' : World} {m g : Nat} (k : Keeps (At g) w w') : Keeps (Of m g) w w' := k.mono (fun _ e => Or.inr e)
theorem Keeps.setM {a w : World} {m g : Nat} (k : Keeps (Of m g) a w) (i : Nat) (u : Value) : Keeps (Of m g) a (w.setCell ⟨m, i, Option.none⟩ u) := k.set m i (Or.inl rfl) u
theorem Keeps.setG {a w : World} {m g : Nat} (k : Keeps (Of m g) a w) (i : Nat) (u : Value) : Keeps (Of m g) a (w.setCell ⟨g, i, Option.none⟩ u) := k.set g i (Or.inr rfl) u
end Go.Proofs.Ytbbodecdijankaa
