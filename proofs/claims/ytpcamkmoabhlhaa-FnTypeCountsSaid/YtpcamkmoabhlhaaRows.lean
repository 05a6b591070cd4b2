/-
  No cell of these rows narrows 'for every input' (looked for: loops, veiled, ifaces, maps, wideKeys, modest, calm, conditions, laid).
  DERIVED. THE GIVEN ROWS OF THIS SEAT. 3 by the template 'for every input the law returns true; each argument reads behind the call as it read before'; 0 by the template 'total and deterministic' (their statements: YtpcamkmoabhlhaaTotals.lean).
  GIVEN WITH THE SEED: the statements are not yours to turn. If you find one false, say at which input.
  Laid BY PROGRAM, IN A SANDBOX (cutbox-rows.mjs): the forced cells as the released guide's own fill.sh prints them over the translation 4e4502a9b70ea3d3… (all of the seat's roots in one cut). By AI agents, Wed Nov 11 2026. No macro, syntax, notation, axiom, sorry.
-/
import Derived.Test.YtpcamkmoabhlhaaChecked
import GoSem.Claim
import GoSem.ClaimJoined
import GoSem.ClaimMapViews
import Derived.JoinedTies
import Derived.KernelRfl
namespace Go.Proofs.Ytpcamkmoabhlhaa
/- THE CELL 'sum', in the pinned program and in every row, IS THE sha256 OF THE DUMP (.gsa) THAT YtpcamkmoabhlhaaProg.lean LOADS. Nothing in Lean hashes anything: it is a label: what it is worth is what the hold of that sum in a sandbox is worth. -/
noncomputable def Try.pinned : Pinned := { name := "ytpcamkmoabhlhaa", sum := "4e4502a9b70ea3d33827122ce6bcf223edeb23097a20d99b77775b19c9244eb5", checked := Try.checked }
namespace Rows
def none {H : Type} : Left H := { results := [], args := [] }

/-- 'laws.FnExactCountMembersOfType': WHATEVER THE INPUT: true; the input reads as it did. -/
def fnExactCountMembersOfTypeSpec : ChangeSpec := { name := "fnExactCountMembersOfType", fn := fun _ => fun
  | [d1, d2, d3] => { results := [.lit (.bool true)], args := [d1, d2, d3] }
  | _ => none }
def fnExactCountMembersOfTypeRow : OpenClaim := { program := "ytpcamkmoabhlhaa", sum := "4e4502a9b70ea3d33827122ce6bcf223edeb23097a20d99b77775b19c9244eb5", func := "loop.example/g00855/laws.FnExactCountMembersOfType", spec := "fnExactCountMembersOfType", unfollowed := true, recurses := true, apart := false }
def FnExactCountMembersOfTypeSaid : Prop := fnExactCountMembersOfTypeRow.holds Try.pinned (OpenSpec.ofChange fnExactCountMembersOfTypeSpec)

/-- ITS FALSE NEIGHBOUR: 'it returns false'. Refute it at one input. -/
def fnExactCountMembersOfTypeWrong : ChangeSpec := { name := "fnExactCountMembersOfType", fn := fun _ => fun
  | [d1, d2, d3] => { results := [.lit (.bool false)], args := [d1, d2, d3] }
  | _ => none }
def FnExactCountMembersOfTypeWrongFalsely : Prop := fnExactCountMembersOfTypeRow.holds Try.pinned (OpenSpec.ofChange fnExactCountMembersOfTypeWrong)

/-- 'laws.FnChainOrder': WHATEVER THE INPUT: true; the input reads as it did. -/
def fnChainOrderSpec : ChangeSpec := { name := "fnChainOrder", fn := fun _ => fun
  | [d] => { results := [.lit (.bool true)], args := [d] }
  | _ => none }
def fnChainOrderRow : OpenClaim := { program := "ytpcamkmoabhlhaa", sum := "4e4502a9b70ea3d33827122ce6bcf223edeb23097a20d99b77775b19c9244eb5", func := "loop.example/g00855/laws.FnChainOrder", spec := "fnChainOrder", unfollowed := true, recurses := true, apart := false }
def FnChainOrderSaid : Prop := fnChainOrderRow.holds Try.pinned (OpenSpec.ofChange fnChainOrderSpec)

/-- ITS FALSE NEIGHBOUR: 'it returns false'. Refute it at one input. -/
def fnChainOrderWrong : ChangeSpec := { name := "fnChainOrder", fn := fun _ => fun
  | [d] => { results := [.lit (.bool false)], args := [d] }
  | _ => none }
def FnChainOrderWrongFalsely : Prop := fnChainOrderRow.holds Try.pinned (OpenSpec.ofChange fnChainOrderWrong)

/-- 'laws.FnTypeCounts': WHATEVER THE INPUT: true; the input reads as it did. -/
def fnTypeCountsSpec : ChangeSpec := { name := "fnTypeCounts", fn := fun _ => fun
  | [d] => { results := [.lit (.bool true)], args := [d] }
  | _ => none }
def fnTypeCountsRow : OpenClaim := { program := "ytpcamkmoabhlhaa", sum := "4e4502a9b70ea3d33827122ce6bcf223edeb23097a20d99b77775b19c9244eb5", func := "loop.example/g00855/laws.FnTypeCounts", spec := "fnTypeCounts", unfollowed := true, recurses := true, apart := false }
def FnTypeCountsSaid : Prop := fnTypeCountsRow.holds Try.pinned (OpenSpec.ofChange fnTypeCountsSpec)

/-- ITS FALSE NEIGHBOUR: 'it returns false'. Refute it at one input. -/
def fnTypeCountsWrong : ChangeSpec := { name := "fnTypeCounts", fn := fun _ => fun
  | [d] => { results := [.lit (.bool false)], args := [d] }
  | _ => none }
def FnTypeCountsWrongFalsely : Prop := fnTypeCountsRow.holds Try.pinned (OpenSpec.ofChange fnTypeCountsWrong)

/- THE SECOND FORM. 'bulk': how many values and letters a reading holds, each counted each time it is reached (what is shared counts as often as it is met; a slice's spare places count too). A statement '..UptoSaid' is the law's where the arguments, and the package variables that the reading takes, are together of bulk at most 1048576: NARROWER than '..Said'. Prove '..Said' where nothing that the law and all that it calls make is longer than what came in: it says more and counts as full. Else prove '..UptoSaid'. A law counts once. -/
mutual
def uptoBulk {H : Type} : DataW H → Nat
  | .lit (.string bytes) => bytes.length + 1
  | .lit _ => 1
  | .nil => 1
  | .ptr d => uptoBulk d + 1
  | .slice elems spare => uptoBulkAll elems + uptoBulkAll spare + 1
  | .agg parts => uptoBulkAll parts + 1
  | .iface _ d => uptoBulk d + 1
  | .map entries => uptoBulkEntries entries + 1
  | .held _ => 1
def uptoBulkAll {H : Type} : List (DataW H) → Nat
  | [] => 0
  | d :: r => uptoBulk d + uptoBulkAll r
def uptoBulkEntries {H : Type} : List (Lit × DataW H) → Nat
  | [] => 0
  | x :: r => uptoBulkEntry x + uptoBulkEntries r
def uptoBulkEntry {H : Type} : Lit × DataW H → Nat
  | (.string bytes, d) => bytes.length + uptoBulk d + 1
  | (_, d) => uptoBulk d + 1
 end
def uptoSmall : (H : Type) → List (DataW H) → Bool := fun _ ds => decide (uptoBulkAll ds ≤ 1048576)
def OpenSpec.upto (s : _root_.Go.ChangeSpec) : _root_.Go.OpenSpec := { _root_.Go.OpenSpec.ofChange s with cond := some uptoSmall }

/-- 'laws.FnExactCountMembersOfType', WHERE WHAT IT READS IS OF BULK AT MOST 1048576: true; the input reads as it did. -/
def fnExactCountMembersOfTypeUptoRow : OpenClaim := { program := "ytpcamkmoabhlhaa", sum := "4e4502a9b70ea3d33827122ce6bcf223edeb23097a20d99b77775b19c9244eb5", func := "loop.example/g00855/laws.FnExactCountMembersOfType", spec := "fnExactCountMembersOfType", unfollowed := true, recurses := true, apart := false, narrowed := true }
def FnExactCountMembersOfTypeUptoSaid : Prop := fnExactCountMembersOfTypeUptoRow.holds Try.pinned (OpenSpec.upto fnExactCountMembersOfTypeSpec)

/-- 'laws.FnChainOrder', WHERE WHAT IT READS IS OF BULK AT MOST 1048576: true; the input reads as it did. -/
def fnChainOrderUptoRow : OpenClaim := { program := "ytpcamkmoabhlhaa", sum := "4e4502a9b70ea3d33827122ce6bcf223edeb23097a20d99b77775b19c9244eb5", func := "loop.example/g00855/laws.FnChainOrder", spec := "fnChainOrder", unfollowed := true, recurses := true, apart := false, narrowed := true }
def FnChainOrderUptoSaid : Prop := fnChainOrderUptoRow.holds Try.pinned (OpenSpec.upto fnChainOrderSpec)

/-- 'laws.FnTypeCounts', WHERE WHAT IT READS IS OF BULK AT MOST 1048576: true; the input reads as it did. -/
def fnTypeCountsUptoRow : OpenClaim := { program := "ytpcamkmoabhlhaa", sum := "4e4502a9b70ea3d33827122ce6bcf223edeb23097a20d99b77775b19c9244eb5", func := "loop.example/g00855/laws.FnTypeCounts", spec := "fnTypeCounts", unfollowed := true, recurses := true, apart := false, narrowed := true }
def FnTypeCountsUptoSaid : Prop := fnTypeCountsUptoRow.holds Try.pinned (OpenSpec.upto fnTypeCountsSpec)

end Rows
end Go.Proofs.Ytpcamkmoabhlhaa
