/-
  No cell of these rows narrows 'for every input' (looked for: loops, veiled, ifaces, maps, wideKeys, modest, calm, conditions, laid).
  DERIVED. THE GIVEN ROWS OF THIS SEAT. 4 by the template 'for every input the law returns true; each argument reads behind the call as it read before'; 0 by the template 'total and deterministic' (their statements: YtclhblofchfglaaGreatTotals.lean).
  GIVEN WITH THE SEED: the statements are not yours to turn. If you find one false, say at which input.
  Laid BY PROGRAM, IN A SANDBOX (cutbox-rows.mjs): the forced cells as the released guide's own fill.sh prints them over the translation e924208a6a90d0c3… (all of the seat's roots in one cut). By AI agents, Wed Nov 11 2026. No macro, syntax, notation, axiom, sorry.
-/
import Derived.Test.YtclhblofchfglaaGreatChecked
import GoSem.Claim
import GoSem.ClaimJoined
import GoSem.ClaimMapViews
import Derived.JoinedTies
import Derived.KernelRfl
namespace Go.Proofs.YtclhblofchfglaaGreat
/- THE CELL 'sum', in the pinned program and in every row, IS THE sha256 OF THE DUMP (.gsa) THAT YtclhblofchfglaaGreatProg.lean LOADS. Nothing in Lean hashes anything: it is a label: what it is worth is what the hold of that sum in a sandbox is worth. -/
noncomputable def Tryz.pinned : Pinned := { name := "ytclhblofchfglaagreat", sum := "e924208a6a90d0c33bebb617e49d51fcf6b550e14b9368fafc5a57a247fe2a84", checked := Tryz.checked }
namespace Rows
def none {H : Type} : Left H := { results := [], args := [] }

/-- 'laws.FnExactMethodCertified': WHATEVER THE INPUT: true; the input reads as it did. -/
def fnExactMethodCertifiedSpec : ChangeSpec := { name := "fnExactMethodCertified", fn := fun _ => fun
  | [d1, d2, d3] => { results := [.lit (.bool true)], args := [d1, d2, d3] }
  | _ => none }
def fnExactMethodCertifiedRow : OpenClaim := { program := "ytclhblofchfglaagreat", sum := "e924208a6a90d0c33bebb617e49d51fcf6b550e14b9368fafc5a57a247fe2a84", func := "loop.example/g00855/laws.FnExactMethodCertified", spec := "fnExactMethodCertified", unfollowed := true, recurses := true, apart := false }
def FnExactMethodCertifiedSaid : Prop := fnExactMethodCertifiedRow.holds Tryz.pinned (OpenSpec.ofChange fnExactMethodCertifiedSpec)

/-- ITS FALSE NEIGHBOUR: 'it returns false'. Refute it at one input. -/
def fnExactMethodCertifiedWrong : ChangeSpec := { name := "fnExactMethodCertified", fn := fun _ => fun
  | [d1, d2, d3] => { results := [.lit (.bool false)], args := [d1, d2, d3] }
  | _ => none }
def FnExactMethodCertifiedWrongFalsely : Prop := fnExactMethodCertifiedRow.holds Tryz.pinned (OpenSpec.ofChange fnExactMethodCertifiedWrong)

/-- 'laws.FnExactTwoPhaseCertified': WHATEVER THE INPUT: true; the input reads as it did. -/
def fnExactTwoPhaseCertifiedSpec : ChangeSpec := { name := "fnExactTwoPhaseCertified", fn := fun _ => fun
  | [d1, d2, d3] => { results := [.lit (.bool true)], args := [d1, d2, d3] }
  | _ => none }
def fnExactTwoPhaseCertifiedRow : OpenClaim := { program := "ytclhblofchfglaagreat", sum := "e924208a6a90d0c33bebb617e49d51fcf6b550e14b9368fafc5a57a247fe2a84", func := "loop.example/g00855/laws.FnExactTwoPhaseCertified", spec := "fnExactTwoPhaseCertified", unfollowed := true, recurses := true, apart := false }
def FnExactTwoPhaseCertifiedSaid : Prop := fnExactTwoPhaseCertifiedRow.holds Tryz.pinned (OpenSpec.ofChange fnExactTwoPhaseCertifiedSpec)

/-- ITS FALSE NEIGHBOUR: 'it returns false'. Refute it at one input. -/
def fnExactTwoPhaseCertifiedWrong : ChangeSpec := { name := "fnExactTwoPhaseCertified", fn := fun _ => fun
  | [d1, d2, d3] => { results := [.lit (.bool false)], args := [d1, d2, d3] }
  | _ => none }
def FnExactTwoPhaseCertifiedWrongFalsely : Prop := fnExactTwoPhaseCertifiedRow.holds Tryz.pinned (OpenSpec.ofChange fnExactTwoPhaseCertifiedWrong)

/-- 'laws.FnExactCompareSolvers': WHATEVER THE INPUT: true; the input reads as it did. -/
def fnExactCompareSolversSpec : ChangeSpec := { name := "fnExactCompareSolvers", fn := fun _ => fun
  | [d1, d2, d3, d4] => { results := [.lit (.bool true)], args := [d1, d2, d3, d4] }
  | _ => none }
def fnExactCompareSolversRow : OpenClaim := { program := "ytclhblofchfglaagreat", sum := "e924208a6a90d0c33bebb617e49d51fcf6b550e14b9368fafc5a57a247fe2a84", func := "loop.example/g00855/laws.FnExactCompareSolvers", spec := "fnExactCompareSolvers", unfollowed := true, recurses := true, apart := false }
def FnExactCompareSolversSaid : Prop := fnExactCompareSolversRow.holds Tryz.pinned (OpenSpec.ofChange fnExactCompareSolversSpec)

/-- ITS FALSE NEIGHBOUR: 'it returns false'. Refute it at one input. -/
def fnExactCompareSolversWrong : ChangeSpec := { name := "fnExactCompareSolvers", fn := fun _ => fun
  | [d1, d2, d3, d4] => { results := [.lit (.bool false)], args := [d1, d2, d3, d4] }
  | _ => none }
def FnExactCompareSolversWrongFalsely : Prop := fnExactCompareSolversRow.holds Tryz.pinned (OpenSpec.ofChange fnExactCompareSolversWrong)

/-- 'laws.FnExactSolveWithTables': WHATEVER THE INPUT: true; the input reads as it did. -/
def fnExactSolveWithTablesSpec : ChangeSpec := { name := "fnExactSolveWithTables", fn := fun _ => fun
  | [d1, d2, d3, d4] => { results := [.lit (.bool true)], args := [d1, d2, d3, d4] }
  | _ => none }
def fnExactSolveWithTablesRow : OpenClaim := { program := "ytclhblofchfglaagreat", sum := "e924208a6a90d0c33bebb617e49d51fcf6b550e14b9368fafc5a57a247fe2a84", func := "loop.example/g00855/laws.FnExactSolveWithTables", spec := "fnExactSolveWithTables", unfollowed := true, recurses := true, apart := false }
def FnExactSolveWithTablesSaid : Prop := fnExactSolveWithTablesRow.holds Tryz.pinned (OpenSpec.ofChange fnExactSolveWithTablesSpec)

/-- ITS FALSE NEIGHBOUR: 'it returns false'. Refute it at one input. -/
def fnExactSolveWithTablesWrong : ChangeSpec := { name := "fnExactSolveWithTables", fn := fun _ => fun
  | [d1, d2, d3, d4] => { results := [.lit (.bool false)], args := [d1, d2, d3, d4] }
  | _ => none }
def FnExactSolveWithTablesWrongFalsely : Prop := fnExactSolveWithTablesRow.holds Tryz.pinned (OpenSpec.ofChange fnExactSolveWithTablesWrong)

/- THE SECOND FORM. 'bulk': how many values and letters a reading holds, each counted each time it is reached (what is shared counts as often as it is met; a slice's spare places count too). A statement '..UptoSaid' is the law's where the arguments, and the package variables that the reading takes, are together of bulk at most 1048576: NARROWER than '..Said'. Prove '..Said' where nothing that the law and all that it calls make is longer than what came in: it says more and counts as full. Else prove '..UptoSaid'. A law counts once. -/
mutual
def uptoBulk {H : Type} : DataW H → Nat
  | .lit (.string bytes) => bytes.length + 1
  | .lit _ => 1
  | .nil => 1
  | .ptr d => uptoBulk d + 1
  | .slice elems spare => uptoBulkAll elems + uptoBulkAll spare + 1
  | .agg parts => uptoBulkAll parts + 1
  | .iface _ d => uptoBulk d + 1
  | .map entries => uptoBulkEntries entries + 1
  | .held _ => 1
def uptoBulkAll {H : Type} : List (DataW H) → Nat
  | [] => 0
  | d :: r => uptoBulk d + uptoBulkAll r
def uptoBulkEntries {H : Type} : List (Lit × DataW H) → Nat
  | [] => 0
  | x :: r => uptoBulkEntry x + uptoBulkEntries r
def uptoBulkEntry {H : Type} : Lit × DataW H → Nat
  | (.string bytes, d) => bytes.length + uptoBulk d + 1
  | (_, d) => uptoBulk d + 1
 end
def uptoSmall : (H : Type) → List (DataW H) → Bool := fun _ ds => decide (uptoBulkAll ds ≤ 1048576)
def OpenSpec.upto (s : _root_.Go.ChangeSpec) : _root_.Go.OpenSpec := { _root_.Go.OpenSpec.ofChange s with cond := some uptoSmall }

/-- 'laws.FnExactMethodCertified', WHERE WHAT IT READS IS OF BULK AT MOST 1048576: true; the input reads as it did. -/
def fnExactMethodCertifiedUptoRow : OpenClaim := { program := "ytclhblofchfglaagreat", sum := "e924208a6a90d0c33bebb617e49d51fcf6b550e14b9368fafc5a57a247fe2a84", func := "loop.example/g00855/laws.FnExactMethodCertified", spec := "fnExactMethodCertified", unfollowed := true, recurses := true, apart := false, narrowed := true }
def FnExactMethodCertifiedUptoSaid : Prop := fnExactMethodCertifiedUptoRow.holds Tryz.pinned (OpenSpec.upto fnExactMethodCertifiedSpec)

/-- 'laws.FnExactTwoPhaseCertified', WHERE WHAT IT READS IS OF BULK AT MOST 1048576: true; the input reads as it did. -/
def fnExactTwoPhaseCertifiedUptoRow : OpenClaim := { program := "ytclhblofchfglaagreat", sum := "e924208a6a90d0c33bebb617e49d51fcf6b550e14b9368fafc5a57a247fe2a84", func := "loop.example/g00855/laws.FnExactTwoPhaseCertified", spec := "fnExactTwoPhaseCertified", unfollowed := true, recurses := true, apart := false, narrowed := true }
def FnExactTwoPhaseCertifiedUptoSaid : Prop := fnExactTwoPhaseCertifiedUptoRow.holds Tryz.pinned (OpenSpec.upto fnExactTwoPhaseCertifiedSpec)

/-- 'laws.FnExactCompareSolvers', WHERE WHAT IT READS IS OF BULK AT MOST 1048576: true; the input reads as it did. -/
def fnExactCompareSolversUptoRow : OpenClaim := { program := "ytclhblofchfglaagreat", sum := "e924208a6a90d0c33bebb617e49d51fcf6b550e14b9368fafc5a57a247fe2a84", func := "loop.example/g00855/laws.FnExactCompareSolvers", spec := "fnExactCompareSolvers", unfollowed := true, recurses := true, apart := false, narrowed := true }
def FnExactCompareSolversUptoSaid : Prop := fnExactCompareSolversUptoRow.holds Tryz.pinned (OpenSpec.upto fnExactCompareSolversSpec)

/-- 'laws.FnExactSolveWithTables', WHERE WHAT IT READS IS OF BULK AT MOST 1048576: true; the input reads as it did. -/
def fnExactSolveWithTablesUptoRow : OpenClaim := { program := "ytclhblofchfglaagreat", sum := "e924208a6a90d0c33bebb617e49d51fcf6b550e14b9368fafc5a57a247fe2a84", func := "loop.example/g00855/laws.FnExactSolveWithTables", spec := "fnExactSolveWithTables", unfollowed := true, recurses := true, apart := false, narrowed := true }
def FnExactSolveWithTablesUptoSaid : Prop := fnExactSolveWithTablesUptoRow.holds Tryz.pinned (OpenSpec.upto fnExactSolveWithTablesSpec)

end Rows
end Go.Proofs.YtclhblofchfglaaGreat
