/-
  No cell of these rows narrows 'for every input' (looked for: loops, veiled, ifaces, maps, wideKeys, modest, calm, conditions, laid).
  DERIVED. THE GIVEN ROWS OF THIS SEAT. 3 by the template 'for every input the law returns true; each argument reads behind the call as it read before'; 0 by the template 'total and deterministic' (their statements: YtbgijlfdgfhceaaTotals.lean).
  GIVEN WITH THE SEED: the statements are not yours to turn. If you find one false, say at which input.
  Laid BY PROGRAM, IN A SANDBOX (cutbox-rows.mjs): the forced cells as the released guide's own fill.sh prints them over the translation 21d4a651a0b005cd… (all of the seat's roots in one cut). By AI agents, Wed Nov 11 2026. No macro, syntax, notation, axiom, sorry.
-/
import Derived.Test.YtbgijlfdgfhceaaChecked
import GoSem.Claim
import GoSem.ClaimJoined
import GoSem.ClaimMapViews
import Derived.JoinedTies
import Derived.KernelRfl
namespace Go.Proofs.Ytbgijlfdgfhceaa
/- THE CELL 'sum', in the pinned program and in every row, IS THE sha256 OF THE DUMP (.gsa) THAT YtbgijlfdgfhceaaProg.lean LOADS. Nothing in Lean hashes anything: it is a label: what it is worth is what the hold of that sum in a sandbox is worth. -/
noncomputable def Try.pinned : Pinned := { name := "ytbgijlfdgfhceaa", sum := "21d4a651a0b005cdf831c5599bc172cbba058386b2af491c800acff40e8eeac8", checked := Try.checked }
namespace Rows
def none {H : Type} : Left H := { results := [], args := [] }

/-- 'viaductlaw16.ConfigPlays': WHATEVER THE INPUT: true; the input reads as it did. -/
def configPlaysSpec : ChangeSpec := { name := "configPlays", fn := fun _ => fun
  | [d1, d2, d3, d4, d5] => { results := [.lit (.bool true)], args := [d1, d2, d3, d4, d5] }
  | _ => none }
def configPlaysRow : OpenClaim := { program := "ytbgijlfdgfhceaa", sum := "21d4a651a0b005cdf831c5599bc172cbba058386b2af491c800acff40e8eeac8", func := "viaduct/viaductlaw16.ConfigPlays", spec := "configPlays", unfollowed := true, recurses := true, plainKeys := false, apart := false }
def ConfigPlaysSaid : Prop := configPlaysRow.holds Try.pinned (OpenSpec.ofChange configPlaysSpec)

/-- ITS FALSE NEIGHBOUR: 'it returns false'. Refute it at one input. -/
def configPlaysWrong : ChangeSpec := { name := "configPlays", fn := fun _ => fun
  | [d1, d2, d3, d4, d5] => { results := [.lit (.bool false)], args := [d1, d2, d3, d4, d5] }
  | _ => none }
def ConfigPlaysWrongFalsely : Prop := configPlaysRow.holds Try.pinned (OpenSpec.ofChange configPlaysWrong)

/-- 'viaductlaw16.ConfigNil': WHATEVER THE INPUT: true; the input reads as it did. -/
def configNilSpec : ChangeSpec := { name := "configNil", fn := fun _ => fun
  | [d1, d2, d3, d4] => { results := [.lit (.bool true)], args := [d1, d2, d3, d4] }
  | _ => none }
def configNilRow : OpenClaim := { program := "ytbgijlfdgfhceaa", sum := "21d4a651a0b005cdf831c5599bc172cbba058386b2af491c800acff40e8eeac8", func := "viaduct/viaductlaw16.ConfigNil", spec := "configNil", unfollowed := true, recurses := true, plainKeys := false, apart := false }
def ConfigNilSaid : Prop := configNilRow.holds Try.pinned (OpenSpec.ofChange configNilSpec)

/-- ITS FALSE NEIGHBOUR: 'it returns false'. Refute it at one input. -/
def configNilWrong : ChangeSpec := { name := "configNil", fn := fun _ => fun
  | [d1, d2, d3, d4] => { results := [.lit (.bool false)], args := [d1, d2, d3, d4] }
  | _ => none }
def ConfigNilWrongFalsely : Prop := configNilRow.holds Try.pinned (OpenSpec.ofChange configNilWrong)

/-- 'viaductlaw16.ConfigStands': WHATEVER THE INPUT: true; the input reads as it did. -/
def configStandsSpec : ChangeSpec := { name := "configStands", fn := fun _ => fun
  | [d] => { results := [.lit (.bool true)], args := [d] }
  | _ => none }
def configStandsRow : OpenClaim := { program := "ytbgijlfdgfhceaa", sum := "21d4a651a0b005cdf831c5599bc172cbba058386b2af491c800acff40e8eeac8", func := "viaduct/viaductlaw16.ConfigStands", spec := "configStands", unfollowed := true, recurses := true, plainKeys := false, apart := false }
def ConfigStandsSaid : Prop := configStandsRow.holds Try.pinned (OpenSpec.ofChange configStandsSpec)

/-- ITS FALSE NEIGHBOUR: 'it returns false'. Refute it at one input. -/
def configStandsWrong : ChangeSpec := { name := "configStands", fn := fun _ => fun
  | [d] => { results := [.lit (.bool false)], args := [d] }
  | _ => none }
def ConfigStandsWrongFalsely : Prop := configStandsRow.holds Try.pinned (OpenSpec.ofChange configStandsWrong)

/- THE SECOND FORM. 'bulk': how many values and letters a reading holds, each counted each time it is reached (what is shared counts as often as it is met; a slice's spare places count too). A statement '..UptoSaid' is the law's where the arguments, and the package variables that the reading takes, are together of bulk at most 1048576: NARROWER than '..Said'. Prove '..Said' where nothing that the law and all that it calls make is longer than what came in: it says more and counts as full. Else prove '..UptoSaid'. A law counts once. -/
mutual
def uptoBulk {H : Type} : DataW H → Nat
  | .lit (.string bytes) => bytes.length + 1
  | .lit _ => 1
  | .nil => 1
  | .ptr d => uptoBulk d + 1
  | .slice elems spare => uptoBulkAll elems + uptoBulkAll spare + 1
  | .agg parts => uptoBulkAll parts + 1
  | .iface _ d => uptoBulk d + 1
  | .map entries => uptoBulkEntries entries + 1
  | .held _ => 1
def uptoBulkAll {H : Type} : List (DataW H) → Nat
  | [] => 0
  | d :: r => uptoBulk d + uptoBulkAll r
def uptoBulkEntries {H : Type} : List (Lit × DataW H) → Nat
  | [] => 0
  | x :: r => uptoBulkEntry x + uptoBulkEntries r
def uptoBulkEntry {H : Type} : Lit × DataW H → Nat
  | (.string bytes, d) => bytes.length + uptoBulk d + 1
  | (_, d) => uptoBulk d + 1
 end
def uptoSmall : (H : Type) → List (DataW H) → Bool := fun _ ds => decide (uptoBulkAll ds ≤ 1048576)
def OpenSpec.upto (s : _root_.Go.ChangeSpec) : _root_.Go.OpenSpec := { _root_.Go.OpenSpec.ofChange s with cond := some uptoSmall }

/-- 'viaductlaw16.ConfigPlays', WHERE WHAT IT READS IS OF BULK AT MOST 1048576: true; the input reads as it did. -/
def configPlaysUptoRow : OpenClaim := { program := "ytbgijlfdgfhceaa", sum := "21d4a651a0b005cdf831c5599bc172cbba058386b2af491c800acff40e8eeac8", func := "viaduct/viaductlaw16.ConfigPlays", spec := "configPlays", unfollowed := true, recurses := true, plainKeys := false, apart := false, narrowed := true }
def ConfigPlaysUptoSaid : Prop := configPlaysUptoRow.holds Try.pinned (OpenSpec.upto configPlaysSpec)

/-- 'viaductlaw16.ConfigNil', WHERE WHAT IT READS IS OF BULK AT MOST 1048576: true; the input reads as it did. -/
def configNilUptoRow : OpenClaim := { program := "ytbgijlfdgfhceaa", sum := "21d4a651a0b005cdf831c5599bc172cbba058386b2af491c800acff40e8eeac8", func := "viaduct/viaductlaw16.ConfigNil", spec := "configNil", unfollowed := true, recurses := true, plainKeys := false, apart := false, narrowed := true }
def ConfigNilUptoSaid : Prop := configNilUptoRow.holds Try.pinned (OpenSpec.upto configNilSpec)

/-- 'viaductlaw16.ConfigStands', WHERE WHAT IT READS IS OF BULK AT MOST 1048576: true; the input reads as it did. -/
def configStandsUptoRow : OpenClaim := { program := "ytbgijlfdgfhceaa", sum := "21d4a651a0b005cdf831c5599bc172cbba058386b2af491c800acff40e8eeac8", func := "viaduct/viaductlaw16.ConfigStands", spec := "configStands", unfollowed := true, recurses := true, plainKeys := false, apart := false, narrowed := true }
def ConfigStandsUptoSaid : Prop := configStandsUptoRow.holds Try.pinned (OpenSpec.upto configStandsSpec)

end Rows
end Go.Proofs.Ytbgijlfdgfhceaa
