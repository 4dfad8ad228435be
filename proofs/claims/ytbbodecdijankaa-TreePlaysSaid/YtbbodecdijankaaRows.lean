/-
  No cell of these rows narrows 'for every input' (looked for: loops, veiled, ifaces, maps, wideKeys, modest, calm, conditions, laid).
  DERIVED. THE GIVEN ROWS OF THIS SEAT. 4 by the template 'for every input the law returns true; each argument reads behind the call as it read before'; 0 by the template 'total and deterministic' (their statements: YtbbodecdijankaaTotals.lean).
  GIVEN WITH THE SEED: the statements are not yours to turn. If you find one false, say at which input.
  Laid BY PROGRAM, IN A SANDBOX (cutbox-rows.mjs): the forced cells as the released guide's own fill.sh prints them over the translation 1d79abc74fa7d040… (all of the seat's roots in one cut). By AI agents, Wed Nov 11 2026. No macro, syntax, notation, axiom, sorry.
-/
import Derived.Test.YtbbodecdijankaaChecked
import GoSem.Claim
import GoSem.ClaimJoined
import GoSem.ClaimMapViews
import Derived.JoinedTies
import Derived.KernelRfl
namespace Go.Proofs.Ytbbodecdijankaa
/- THE CELL 'sum', in the pinned program and in every row, IS THE sha256 OF THE DUMP (.gsa) THAT YtbbodecdijankaaProg.lean LOADS. Nothing in Lean hashes anything: it is a label: what it is worth is what the hold of that sum in a sandbox is worth. -/
noncomputable def Try.pinned : Pinned := { name := "ytbbodecdijankaa", sum := "1d79abc74fa7d04010060e20f5de7480116949611b7bc6d0ff775921d9af3473", checked := Try.checked }
namespace Rows
def none {H : Type} : Left H := { results := [], args := [] }

/-- 'viaductlaw09.TreePlays': WHATEVER THE INPUT: true; the input reads as it did. -/
def treePlaysSpec : ChangeSpec := { name := "treePlays", fn := fun _ => fun
  | [d1, d2, d3] => { results := [.lit (.bool true)], args := [d1, d2, d3] }
  | _ => none }
def treePlaysRow : OpenClaim := { program := "ytbbodecdijankaa", sum := "1d79abc74fa7d04010060e20f5de7480116949611b7bc6d0ff775921d9af3473", func := "viaduct/viaductlaw09.TreePlays", spec := "treePlays", unfollowed := true, recurses := true, apart := false }
def TreePlaysSaid : Prop := treePlaysRow.holds Try.pinned (OpenSpec.ofChange treePlaysSpec)

/-- ITS FALSE NEIGHBOUR: 'it returns false'. Refute it at one input. -/
def treePlaysWrong : ChangeSpec := { name := "treePlays", fn := fun _ => fun
  | [d1, d2, d3] => { results := [.lit (.bool false)], args := [d1, d2, d3] }
  | _ => none }
def TreePlaysWrongFalsely : Prop := treePlaysRow.holds Try.pinned (OpenSpec.ofChange treePlaysWrong)

/-- 'viaductlaw09.TreeNil': WHATEVER THE INPUT: true; the input reads as it did. -/
def treeNilSpec : ChangeSpec := { name := "treeNil", fn := fun _ => fun
  | [d1, d2] => { results := [.lit (.bool true)], args := [d1, d2] }
  | _ => none }
def treeNilRow : OpenClaim := { program := "ytbbodecdijankaa", sum := "1d79abc74fa7d04010060e20f5de7480116949611b7bc6d0ff775921d9af3473", func := "viaduct/viaductlaw09.TreeNil", spec := "treeNil", unfollowed := true, recurses := true, apart := false }
def TreeNilSaid : Prop := treeNilRow.holds Try.pinned (OpenSpec.ofChange treeNilSpec)

/-- ITS FALSE NEIGHBOUR: 'it returns false'. Refute it at one input. -/
def treeNilWrong : ChangeSpec := { name := "treeNil", fn := fun _ => fun
  | [d1, d2] => { results := [.lit (.bool false)], args := [d1, d2] }
  | _ => none }
def TreeNilWrongFalsely : Prop := treeNilRow.holds Try.pinned (OpenSpec.ofChange treeNilWrong)

/-- 'viaductlaw09.TreeForest': WHATEVER THE INPUT: true; the input reads as it did. -/
def treeForestSpec : ChangeSpec := { name := "treeForest", fn := fun _ => fun
  | [d1, d2, d3] => { results := [.lit (.bool true)], args := [d1, d2, d3] }
  | _ => none }
def treeForestRow : OpenClaim := { program := "ytbbodecdijankaa", sum := "1d79abc74fa7d04010060e20f5de7480116949611b7bc6d0ff775921d9af3473", func := "viaduct/viaductlaw09.TreeForest", spec := "treeForest", unfollowed := true, recurses := true, apart := false }
def TreeForestSaid : Prop := treeForestRow.holds Try.pinned (OpenSpec.ofChange treeForestSpec)

/-- ITS FALSE NEIGHBOUR: 'it returns false'. Refute it at one input. -/
def treeForestWrong : ChangeSpec := { name := "treeForest", fn := fun _ => fun
  | [d1, d2, d3] => { results := [.lit (.bool false)], args := [d1, d2, d3] }
  | _ => none }
def TreeForestWrongFalsely : Prop := treeForestRow.holds Try.pinned (OpenSpec.ofChange treeForestWrong)

/-- 'viaductlaw09.TreeSettles': WHATEVER THE INPUT: true; the input reads as it did. -/
def treeSettlesSpec : ChangeSpec := { name := "treeSettles", fn := fun _ => fun
  | [d1, d2, d3] => { results := [.lit (.bool true)], args := [d1, d2, d3] }
  | _ => none }
def treeSettlesRow : OpenClaim := { program := "ytbbodecdijankaa", sum := "1d79abc74fa7d04010060e20f5de7480116949611b7bc6d0ff775921d9af3473", func := "viaduct/viaductlaw09.TreeSettles", spec := "treeSettles", unfollowed := true, recurses := true, apart := false }
def TreeSettlesSaid : Prop := treeSettlesRow.holds Try.pinned (OpenSpec.ofChange treeSettlesSpec)

/-- ITS FALSE NEIGHBOUR: 'it returns false'. Refute it at one input. -/
def treeSettlesWrong : ChangeSpec := { name := "treeSettles", fn := fun _ => fun
  | [d1, d2, d3] => { results := [.lit (.bool false)], args := [d1, d2, d3] }
  | _ => none }
def TreeSettlesWrongFalsely : Prop := treeSettlesRow.holds Try.pinned (OpenSpec.ofChange treeSettlesWrong)

/- THE SECOND FORM. 'bulk': how many values and letters a reading holds, each counted each time it is reached (what is shared counts as often as it is met; a slice's spare places count too). A statement '..UptoSaid' is the law's where the arguments, and the package variables that the reading takes, are together of bulk at most 1048576: NARROWER than '..Said'. Prove '..Said' where nothing that the law and all that it calls make is longer than what came in: it says more and counts as full. Else prove '..UptoSaid'. A law counts once. -/
mutual
def uptoBulk {H : Type} : DataW H → Nat
  | .lit (.string bytes) => bytes.length + 1
  | .lit _ => 1
  | .nil => 1
  | .ptr d => uptoBulk d + 1
  | .slice elems spare => uptoBulkAll elems + uptoBulkAll spare + 1
  | .agg parts => uptoBulkAll parts + 1
  | .iface _ d => uptoBulk d + 1
  | .map entries => uptoBulkEntries entries + 1
  | .held _ => 1
def uptoBulkAll {H : Type} : List (DataW H) → Nat
  | [] => 0
  | d :: r => uptoBulk d + uptoBulkAll r
def uptoBulkEntries {H : Type} : List (Lit × DataW H) → Nat
  | [] => 0
  | x :: r => uptoBulkEntry x + uptoBulkEntries r
def uptoBulkEntry {H : Type} : Lit × DataW H → Nat
  | (.string bytes, d) => bytes.length + uptoBulk d + 1
  | (_, d) => uptoBulk d + 1
 end
def uptoSmall : (H : Type) → List (DataW H) → Bool := fun _ ds => decide (uptoBulkAll ds ≤ 1048576)
def OpenSpec.upto (s : _root_.Go.ChangeSpec) : _root_.Go.OpenSpec := { _root_.Go.OpenSpec.ofChange s with cond := some uptoSmall }

/-- 'viaductlaw09.TreePlays', WHERE WHAT IT READS IS OF BULK AT MOST 1048576: true; the input reads as it did. -/
def treePlaysUptoRow : OpenClaim := { program := "ytbbodecdijankaa", sum := "1d79abc74fa7d04010060e20f5de7480116949611b7bc6d0ff775921d9af3473", func := "viaduct/viaductlaw09.TreePlays", spec := "treePlays", unfollowed := true, recurses := true, apart := false, narrowed := true }
def TreePlaysUptoSaid : Prop := treePlaysUptoRow.holds Try.pinned (OpenSpec.upto treePlaysSpec)

/-- 'viaductlaw09.TreeNil', WHERE WHAT IT READS IS OF BULK AT MOST 1048576: true; the input reads as it did. -/
def treeNilUptoRow : OpenClaim := { program := "ytbbodecdijankaa", sum := "1d79abc74fa7d04010060e20f5de7480116949611b7bc6d0ff775921d9af3473", func := "viaduct/viaductlaw09.TreeNil", spec := "treeNil", unfollowed := true, recurses := true, apart := false, narrowed := true }
def TreeNilUptoSaid : Prop := treeNilUptoRow.holds Try.pinned (OpenSpec.upto treeNilSpec)

/-- 'viaductlaw09.TreeForest', WHERE WHAT IT READS IS OF BULK AT MOST 1048576: true; the input reads as it did. -/
def treeForestUptoRow : OpenClaim := { program := "ytbbodecdijankaa", sum := "1d79abc74fa7d04010060e20f5de7480116949611b7bc6d0ff775921d9af3473", func := "viaduct/viaductlaw09.TreeForest", spec := "treeForest", unfollowed := true, recurses := true, apart := false, narrowed := true }
def TreeForestUptoSaid : Prop := treeForestUptoRow.holds Try.pinned (OpenSpec.upto treeForestSpec)

/-- 'viaductlaw09.TreeSettles', WHERE WHAT IT READS IS OF BULK AT MOST 1048576: true; the input reads as it did. -/
def treeSettlesUptoRow : OpenClaim := { program := "ytbbodecdijankaa", sum := "1d79abc74fa7d04010060e20f5de7480116949611b7bc6d0ff775921d9af3473", func := "viaduct/viaductlaw09.TreeSettles", spec := "treeSettles", unfollowed := true, recurses := true, apart := false, narrowed := true }
def TreeSettlesUptoSaid : Prop := treeSettlesUptoRow.holds Try.pinned (OpenSpec.upto treeSettlesSpec)

end Rows
end Go.Proofs.Ytbbodecdijankaa
