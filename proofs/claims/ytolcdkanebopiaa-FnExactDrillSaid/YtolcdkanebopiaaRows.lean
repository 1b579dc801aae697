/-
  No cell of these rows narrows 'for every input' (looked for: loops, veiled, ifaces, maps, wideKeys, modest, calm, conditions, laid).
  DERIVED. THE GIVEN ROWS OF THIS SEAT. 3 by the template 'for every input the law returns true; each argument reads behind the call as it read before'; 0 by the template 'total and deterministic' (their statements: YtolcdkanebopiaaTotals.lean).
  GIVEN WITH THE SEED: the statements are not yours to turn. If you find one false, say at which input.
  Laid BY PROGRAM, IN A SANDBOX (cutbox-rows.mjs): the forced cells as the released guide's own fill.sh prints them over the translation 297b43f1e31caff7… (all of the seat's roots in one cut). By AI agents, Wed Nov 11 2026. No macro, syntax, notation, axiom, sorry.
-/
import Derived.Test.YtolcdkanebopiaaChecked
import GoSem.Claim
import GoSem.ClaimJoined
import GoSem.ClaimMapViews
import Derived.JoinedTies
import Derived.KernelRfl
namespace Go.Proofs.Ytolcdkanebopiaa
/- THE CELL 'sum', in the pinned program and in every row, IS THE sha256 OF THE DUMP (.gsa) THAT YtolcdkanebopiaaProg.lean LOADS. Nothing in Lean hashes anything: it is a label: what it is worth is what the hold of that sum in a sandbox is worth. -/
noncomputable def Try.pinned : Pinned := { name := "ytolcdkanebopiaa", sum := "297b43f1e31caff7fde77dbd101b5085752f955dcd3c652f4922fe384822b16b", checked := Try.checked }
namespace Rows
def none {H : Type} : Left H := { results := [], args := [] }

/-- 'laws.FnExactDomain': WHATEVER THE INPUT: true; the input reads as it did. -/
def fnExactDomainSpec : ChangeSpec := { name := "fnExactDomain", fn := fun _ => fun
  | [d1, d2, d3] => { results := [.lit (.bool true)], args := [d1, d2, d3] }
  | _ => none }
def fnExactDomainRow : OpenClaim := { program := "ytolcdkanebopiaa", sum := "297b43f1e31caff7fde77dbd101b5085752f955dcd3c652f4922fe384822b16b", func := "loop.example/s0063/laws.FnExactDomain", spec := "fnExactDomain", recurses := true, apart := false }
def FnExactDomainSaid : Prop := fnExactDomainRow.holds Try.pinned (OpenSpec.ofChange fnExactDomainSpec)

/-- ITS FALSE NEIGHBOUR: 'it returns false'. Refute it at one input. -/
def fnExactDomainWrong : ChangeSpec := { name := "fnExactDomain", fn := fun _ => fun
  | [d1, d2, d3] => { results := [.lit (.bool false)], args := [d1, d2, d3] }
  | _ => none }
def FnExactDomainWrongFalsely : Prop := fnExactDomainRow.holds Try.pinned (OpenSpec.ofChange fnExactDomainWrong)

/-- 'laws.FnExactAncestors': WHATEVER THE INPUT: true; the input reads as it did. -/
def fnExactAncestorsSpec : ChangeSpec := { name := "fnExactAncestors", fn := fun _ => fun
  | [d1, d2] => { results := [.lit (.bool true)], args := [d1, d2] }
  | _ => none }
def fnExactAncestorsRow : OpenClaim := { program := "ytolcdkanebopiaa", sum := "297b43f1e31caff7fde77dbd101b5085752f955dcd3c652f4922fe384822b16b", func := "loop.example/s0063/laws.FnExactAncestors", spec := "fnExactAncestors", recurses := true, apart := false }
def FnExactAncestorsSaid : Prop := fnExactAncestorsRow.holds Try.pinned (OpenSpec.ofChange fnExactAncestorsSpec)

/-- ITS FALSE NEIGHBOUR: 'it returns false'. Refute it at one input. -/
def fnExactAncestorsWrong : ChangeSpec := { name := "fnExactAncestors", fn := fun _ => fun
  | [d1, d2] => { results := [.lit (.bool false)], args := [d1, d2] }
  | _ => none }
def FnExactAncestorsWrongFalsely : Prop := fnExactAncestorsRow.holds Try.pinned (OpenSpec.ofChange fnExactAncestorsWrong)

/-- 'laws.FnExactDrill': WHATEVER THE INPUT: true; the input reads as it did. -/
def fnExactDrillSpec : ChangeSpec := { name := "fnExactDrill", fn := fun _ => fun
  | [d1, d2] => { results := [.lit (.bool true)], args := [d1, d2] }
  | _ => none }
def fnExactDrillRow : OpenClaim := { program := "ytolcdkanebopiaa", sum := "297b43f1e31caff7fde77dbd101b5085752f955dcd3c652f4922fe384822b16b", func := "loop.example/s0063/laws.FnExactDrill", spec := "fnExactDrill", recurses := true, apart := false }
def FnExactDrillSaid : Prop := fnExactDrillRow.holds Try.pinned (OpenSpec.ofChange fnExactDrillSpec)

/-- ITS FALSE NEIGHBOUR: 'it returns false'. Refute it at one input. -/
def fnExactDrillWrong : ChangeSpec := { name := "fnExactDrill", fn := fun _ => fun
  | [d1, d2] => { results := [.lit (.bool false)], args := [d1, d2] }
  | _ => none }
def FnExactDrillWrongFalsely : Prop := fnExactDrillRow.holds Try.pinned (OpenSpec.ofChange fnExactDrillWrong)

/- THE SECOND FORM. 'bulk': how many values and letters a reading holds, each counted each time it is reached (what is shared counts as often as it is met; a slice's spare places count too). A statement '..UptoSaid' is the law's where the arguments, and the package variables that the reading takes, are together of bulk at most 1048576: NARROWER than '..Said'. Prove '..Said' where nothing that the law and all that it calls make is longer than what came in: it says more and counts as full. Else prove '..UptoSaid'. A law counts once. -/
mutual
def uptoBulk {H : Type} : DataW H → Nat
  | .lit (.string bytes) => bytes.length + 1
  | .lit _ => 1
  | .nil => 1
  | .ptr d => uptoBulk d + 1
  | .slice elems spare => uptoBulkAll elems + uptoBulkAll spare + 1
  | .agg parts => uptoBulkAll parts + 1
  | .iface _ d => uptoBulk d + 1
  | .map entries => uptoBulkEntries entries + 1
  | .held _ => 1
def uptoBulkAll {H : Type} : List (DataW H) → Nat
  | [] => 0
  | d :: r => uptoBulk d + uptoBulkAll r
def uptoBulkEntries {H : Type} : List (Lit × DataW H) → Nat
  | [] => 0
  | x :: r => uptoBulkEntry x + uptoBulkEntries r
def uptoBulkEntry {H : Type} : Lit × DataW H → Nat
  | (.string bytes, d) => bytes.length + uptoBulk d + 1
  | (_, d) => uptoBulk d + 1
 end
def uptoSmall : (H : Type) → List (DataW H) → Bool := fun _ ds => decide (uptoBulkAll ds ≤ 1048576)
def OpenSpec.upto (s : _root_.Go.ChangeSpec) : _root_.Go.OpenSpec := { _root_.Go.OpenSpec.ofChange s with cond := some uptoSmall }

/-- 'laws.FnExactDomain', WHERE WHAT IT READS IS OF BULK AT MOST 1048576: true; the input reads as it did. -/
def fnExactDomainUptoRow : OpenClaim := { program := "ytolcdkanebopiaa", sum := "297b43f1e31caff7fde77dbd101b5085752f955dcd3c652f4922fe384822b16b", func := "loop.example/s0063/laws.FnExactDomain", spec := "fnExactDomain", recurses := true, apart := false, narrowed := true }
def FnExactDomainUptoSaid : Prop := fnExactDomainUptoRow.holds Try.pinned (OpenSpec.upto fnExactDomainSpec)

/-- 'laws.FnExactAncestors', WHERE WHAT IT READS IS OF BULK AT MOST 1048576: true; the input reads as it did. -/
def fnExactAncestorsUptoRow : OpenClaim := { program := "ytolcdkanebopiaa", sum := "297b43f1e31caff7fde77dbd101b5085752f955dcd3c652f4922fe384822b16b", func := "loop.example/s0063/laws.FnExactAncestors", spec := "fnExactAncestors", recurses := true, apart := false, narrowed := true }
def FnExactAncestorsUptoSaid : Prop := fnExactAncestorsUptoRow.holds Try.pinned (OpenSpec.upto fnExactAncestorsSpec)

/-- 'laws.FnExactDrill', WHERE WHAT IT READS IS OF BULK AT MOST 1048576: true; the input reads as it did. -/
def fnExactDrillUptoRow : OpenClaim := { program := "ytolcdkanebopiaa", sum := "297b43f1e31caff7fde77dbd101b5085752f955dcd3c652f4922fe384822b16b", func := "loop.example/s0063/laws.FnExactDrill", spec := "fnExactDrill", recurses := true, apart := false, narrowed := true }
def FnExactDrillUptoSaid : Prop := fnExactDrillUptoRow.holds Try.pinned (OpenSpec.upto fnExactDrillSpec)

end Rows
end Go.Proofs.Ytolcdkanebopiaa
