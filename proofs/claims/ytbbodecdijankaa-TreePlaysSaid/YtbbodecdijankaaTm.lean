/-
  Layer 9: a machine of the tree as plain data, and its turns. No condition.
-/
import Derived.Test.YtbbodecdijankaaLeast
import Derived.OpenShut
namespace Go.Proofs.Ytbbodecdijankaa
open Go.RowKit
set_option linter.unusedVariables false

/-- A word: vector (root, cost, bridge, port), hops, version, role, proposal, agreement, topology, echo. -/
structure Bp where
  r : Int
  c : Int
  b : Int
  p : Int
  hops : Int
  ver : Int
  role : Int
  prop : Bool
  agree : Bool
  top : Bool
  echo : Int
deriving DecidableEq
def Bp.zero : Bp := ⟨0, 0, 0, 0, 0, 0, 0, false, false, false, 0⟩
structure Bp.Ok (x : Bp) : Prop where
  r : 0 ≤ x.r ∧ x.r < 18446744073709551616
  c : 0 ≤ x.c ∧ x.c < 4294967296
  b : 0 ≤ x.b ∧ x.b < 18446744073709551616
  p : 0 ≤ x.p ∧ x.p < 256
  hops : 0 ≤ x.hops ∧ x.hops < 256
  ver : 0 ≤ x.ver ∧ x.ver < 18446744073709551616
  role : 0 ≤ x.role ∧ x.role < 256
  echo : 0 ≤ x.echo ∧ x.echo < 18446744073709551616
/-- A port: cost (0: of a host port), up, what was heard, for how long, agreed, for how long a change is told. -/
structure Pt where
  cost : Int
  up : Bool
  h : Bp
  lasts : Int
  ag : Bool
  sp : Int
deriving DecidableEq
structure Pt.Ok (x : Pt) : Prop where
  cost : 0 ≤ x.cost ∧ x.cost ≤ 65535
  h : x.h.Ok
  lasts : 0 ≤ x.lasts ∧ x.lasts ≤ 3
  sp : 0 ≤ x.sp ∧ x.sp ≤ 4
/-- A machine: id, ports, root, cost, root port (below 0: none), hops, version, the ports to flush. -/
structure TM where
  id : Int
  P : List Pt
  root : Int
  cost : Int
  port : Int
  hops : Int
  ver : Int
  fl : Int
def Pt.link (p : Pt) : Bool := p.up && decide (0 < p.cost)
/-- Does a port offer a path? -/
def offB (id : Int) (p : Pt) : Bool := p.link && (!decide (p.lasts = 0) && (decide (p.h.role = 2) && (!decide (p.h.b = id) && (decide (p.h.hops < 20) && farB p.h.c p.cost))))
def offV (p : Pt) (i : Int) : Pth := (p.h.r, p.h.c + p.cost, p.h.b, p.h.p, i)
/-- The paths of the first k ports. -/
def pathsTo (id : Int) (P : List Pt) : Nat → List Pth
  | 0 => []
  | k + 1 => pathsTo id P k ++ (match P[k]? with
    | some p => if offB id p then [offV p k] else []
    | none => [])
def bestOf : List Pth → Option Pth
  | [] => none
  | x :: l => some (best x l)
/-- What is chosen: root, cost, port, hops. -/
def chosen (id : Int) (P : List Pt) : Int × Int × Int × Int :=
  match bestOf (pathsTo id P P.length) with
  | some x => if x.1 < id then (x.1, x.2.1, x.2.2.2.2, ((P[x.2.2.2.2.toNat]?.map (fun p => p.h.hops)).getD 0) + 1) else (id, 0, -1, 0)
  | none => (id, 0, -1, 0)
/-- A bit put into a set. -/
def bor (f : Int) (i : Nat) : Int := bits BinOp.or .u8 f (2 ^ i)
/-- The bits below k. -/
def orTo (f : Int) : Nat → Int
  | 0 => f
  | k + 1 => bor (orTo f k) k
/-- The bits below n but i. -/
def orBut (f : Int) (i n : Nat) : Int := bits BinOp.or .u8 f (bits BinOp.andNot .u8 (2 ^ n - 1) (2 ^ i))
theorem bits8_range (op : BinOp) (x y : Int) : 0 ≤ bits op .u8 x y ∧ bits op .u8 x y < 256 := by
  have h := wf_bits op .u8 x y
  simp [Lit.wf, IntKind.min, IntKind.max, IntKind.signed, IntKind.bits] at h
  omega
theorem bor_range (f : Int) (i : Nat) : 0 ≤ bor f i ∧ bor f i < 256 := bits8_range _ _ _
theorem orBut_range (f : Int) (i n : Nat) : 0 ≤ orBut f i n ∧ orBut f i n < 256 := bits8_range _ _ _
theorem orTo_range (f : Int) (k : Nat) (hf : 0 ≤ f ∧ f < 256) : 0 ≤ orTo f k ∧ orTo f k < 256 := by
  cases k with
  | zero => exact hf
  | succ k => exact bor_range _ _
theorem pow8 {i : Nat} (h : i < 8) : (2 : Int) ^ i % 256 = 2 ^ i := by
  have key : ∀ a : Fin 8, (2 : Int) ^ a.val % 256 = 2 ^ a.val := by decide
  exact key ⟨i, h⟩
def Pt.turn (p : Pt) : Pt := { p with ag := false, sp := if p.link then 4 else p.sp }
def roleP (id root cost port : Int) (i : Nat) (p : Pt) : Int :=
  if p.up = false then 0 else if p.cost = 0 then 5 else if port = i then 1
  else if p.lasts = 0 ∨ lessB root cost id i p.h.r p.h.c p.h.b p.h.p = true then 2 else if p.h.b = id then 4 else 3
def TM.roleOf (τ : TM) (i : Nat) (p : Pt) : Int := roleP τ.id τ.root τ.cost τ.port i p
def TM.role (τ : TM) (i : Nat) : Int := match τ.P[i]? with
  | some p => τ.roleOf i p
  | none => 0
/-- Another version. -/
def TM.turn (τ : TM) : TM := { τ with ver := τ.ver + 1, P := τ.P.map Pt.turn, fl := orTo τ.fl τ.P.length }
/-- Agreements of designated ports alone. -/
def TM.calm (τ : TM) : TM := { τ with P := τ.P.mapIdx (fun i p => { p with ag := p.ag && decide (τ.roleOf i p = 2) }) }
def TM.takes (τ : TM) (x : Int × Int × Int × Int) : TM := { τ with root := x.1, cost := x.2.1, port := x.2.2.1, hops := x.2.2.2 }
def TM.moved (τ : TM) (x : Int × Int × Int × Int) : Bool := !(decide (x.1 = τ.root) && (decide (x.2.1 = τ.cost) && decide (x.2.2.1 = τ.port)))
def TM.choose (τ : TM) : TM :=
  let x := chosen τ.id τ.P
  (if τ.moved x then (τ.takes x).turn else τ.takes x).calm
/-- A machine of such ports. -/
def TM.start (id : Int) (costs : List Int) : TM := ⟨id, costs.map (fun c => ⟨c, false, Bp.zero, 0, false, 0⟩), id, 0, -1, 0, 1, 0⟩
def Pt.fresh (p : Pt) (up : Bool) : Pt := ⟨p.cost, up, Bp.zero, 0, false, 0⟩
def TM.power (τ : TM) (i : Nat) (up : Bool) : TM := match τ.P[i]? with
  | some p => if p.up = up then τ else TM.choose { τ with P := τ.P.set i (p.fresh up), fl := if up then τ.fl else bor τ.fl i }
  | none => τ
/-- What a port tells. -/
def TM.word (τ : TM) (i : Nat) (p : Pt) : Bp :=
  let x : Bp := ⟨τ.root, τ.cost, τ.id, i, τ.hops, τ.ver, 3, false, false, decide (0 < p.sp), 0⟩
  if τ.roleOf i p = 1 then { x with role := 1, agree := true, echo := p.h.ver }
  else if τ.roleOf i p = 2 then { x with role := 2, prop := !p.ag } else x
/-- The words of the first k ports. -/
def TM.wordsTo (τ : TM) : Nat → List (Int × Bp)
  | 0 => []
  | k + 1 => τ.wordsTo k ++ (match τ.P[k]? with
    | some p => if p.link then [((k : Int), τ.word k p)] else []
    | none => [])
def Pt.less (p : Pt) : Pt := { p with lasts := max 0 (p.lasts - 1) }
def Pt.told (p : Pt) : Pt := { p with sp := max 0 (p.sp - 1) }
def TM.age (τ : TM) : TM := TM.choose { τ with P := τ.P.map Pt.less }
def TM.tick (τ : TM) : TM × List (Int × Bp) :=
  ({ τ.age with P := τ.age.P.map Pt.told }, τ.age.wordsTo τ.age.P.length)
/-- A change goes on by all link ports but i. -/
def spreadBut (i : Nat) (P : List Pt) : List Pt := P.mapIdx (fun k p => if k ≠ i ∧ p.link = true ∧ p.sp = 0 then { p with sp := 4 } else p)
/-- Behind the choice: what is done with a word. -/
def TM.agreeAt (τ : TM) (i : Nat) (p : Pt) (b : Bp) : TM := if τ.roleOf i p = 2 ∧ b.agree = true ∧ b.echo = τ.ver then { τ with P := τ.P.set i { p with ag := true } } else τ
def TM.changeAt (τ : TM) (i : Nat) (role : Int) (b : Bp) : TM :=
  if b.top = true ∧ (role = 1 ∧ b.role = 2 ∨ role = 2 ∧ b.role = 1) then { τ with P := spreadBut i τ.P, fl := orBut τ.fl i τ.P.length } else τ
def TM.heard (τ : TM) (i : Nat) (p : Pt) (b : Bp) : TM := TM.choose { τ with P := τ.P.set i { p with h := b, lasts := 3 } }
def TM.hear (τ : TM) (i : Nat) (b : Bp) : TM × List (Int × Bp) := match τ.P[i]? with
  | some p => if p.link then
      let τ1 := τ.heard i p b
      match τ1.P[i]? with
      | some q =>
        let ro := τ1.roleOf i q
        let τ2 := (τ1.agreeAt i q b).changeAt i ro b
        (τ2, if b.prop = true ∧ ro = 1 then [((i : Int), τ2.word i (τ2.P[i]?.getD q))] else [])
      | none => (τ1, [])
    else (τ, [])
  | none => (τ, [])
def TM.forwards (τ : TM) (i : Nat) : Bool := match τ.P[i]? with
  | some p => decide (τ.roleOf i p = 5) || (decide (τ.roleOf i p = 1) || (decide (τ.roleOf i p = 2) && p.ag))
  | none => false

structure TM.Ok (τ : TM) : Prop where
  id : 0 ≤ τ.id ∧ τ.id < 18446744073709551616
  n : 0 < τ.P.length ∧ τ.P.length ≤ 8
  P : ∀ p ∈ τ.P, p.Ok
  root : 0 ≤ τ.root ∧ τ.root < 18446744073709551616
  cost : 0 ≤ τ.cost ∧ τ.cost ≤ 16777216
  port : -1 ≤ τ.port ∧ τ.port < 8
  hops : 0 ≤ τ.hops ∧ τ.hops ≤ 20
  ver : 1 ≤ τ.ver
  fl : 0 ≤ τ.fl ∧ τ.fl < 256
end Go.Proofs.Ytbbodecdijankaa
