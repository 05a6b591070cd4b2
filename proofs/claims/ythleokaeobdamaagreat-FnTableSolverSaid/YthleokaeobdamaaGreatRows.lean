/-
  No cell of these rows narrows 'for every input' (looked for: loops, veiled, ifaces, maps, wideKeys, modest, calm, conditions, laid).
  DERIVED. THE GIVEN ROWS OF THIS SEAT. 3 by the template 'for every input the law returns true; each argument reads behind the call as it read before'; 0 by the template 'total and deterministic' (their statements: YthleokaeobdamaaGreatTotals.lean).
  GIVEN WITH THE SEED: the statements are not yours to turn. If you find one false, say at which input.
  Laid BY PROGRAM, IN A SANDBOX (cutbox-rows.mjs): the forced cells as the released guide's own fill.sh prints them over the translation 3bba6a8f18b8a0fb… (all of the seat's roots in one cut). By AI agents, Wed Nov 11 2026. No macro, syntax, notation, axiom, sorry.
-/
import Derived.Test.YthleokaeobdamaaGreatChecked
import GoSem.Claim
import GoSem.ClaimJoined
import GoSem.ClaimMapViews
import Derived.JoinedTies
import Derived.KernelRfl
namespace Go.Proofs.YthleokaeobdamaaGreat
/- THE CELL 'sum', in the pinned program and in every row, IS THE sha256 OF THE DUMP (.gsa) THAT YthleokaeobdamaaGreatProg.lean LOADS. Nothing in Lean hashes anything: it is a label: what it is worth is what the hold of that sum in a sandbox is worth. -/
noncomputable def Tryz.pinned : Pinned := { name := "ythleokaeobdamaagreat", sum := "3bba6a8f18b8a0fbe5861d799909a0c1baa182b626215dba10e41ec5108bcf3d", checked := Tryz.checked }
namespace Rows
def none {H : Type} : Left H := { results := [], args := [] }

/-- 'laws.FnTableSolver': WHATEVER THE INPUT: true; the input reads as it did. -/
def fnTableSolverSpec : ChangeSpec := { name := "fnTableSolver", fn := fun _ => fun
  | [d] => { results := [.lit (.bool true)], args := [d] }
  | _ => none }
def fnTableSolverRow : OpenClaim := { program := "ythleokaeobdamaagreat", sum := "3bba6a8f18b8a0fbe5861d799909a0c1baa182b626215dba10e41ec5108bcf3d", func := "loop.example/g00855/laws.FnTableSolver", spec := "fnTableSolver", unfollowed := true, recurses := true, apart := false }
def FnTableSolverSaid : Prop := fnTableSolverRow.holds Tryz.pinned (OpenSpec.ofChange fnTableSolverSpec)

/-- ITS FALSE NEIGHBOUR: 'it returns false'. Refute it at one input. -/
def fnTableSolverWrong : ChangeSpec := { name := "fnTableSolver", fn := fun _ => fun
  | [d] => { results := [.lit (.bool false)], args := [d] }
  | _ => none }
def FnTableSolverWrongFalsely : Prop := fnTableSolverRow.holds Tryz.pinned (OpenSpec.ofChange fnTableSolverWrong)

/-- 'laws.FnSolverCertificates': WHATEVER THE INPUT: true; the input reads as it did. -/
def fnSolverCertificatesSpec : ChangeSpec := { name := "fnSolverCertificates", fn := fun _ => fun
  | [d] => { results := [.lit (.bool true)], args := [d] }
  | _ => none }
def fnSolverCertificatesRow : OpenClaim := { program := "ythleokaeobdamaagreat", sum := "3bba6a8f18b8a0fbe5861d799909a0c1baa182b626215dba10e41ec5108bcf3d", func := "loop.example/g00855/laws.FnSolverCertificates", spec := "fnSolverCertificates", unfollowed := true, recurses := true, apart := false }
def FnSolverCertificatesSaid : Prop := fnSolverCertificatesRow.holds Tryz.pinned (OpenSpec.ofChange fnSolverCertificatesSpec)

/-- ITS FALSE NEIGHBOUR: 'it returns false'. Refute it at one input. -/
def fnSolverCertificatesWrong : ChangeSpec := { name := "fnSolverCertificates", fn := fun _ => fun
  | [d] => { results := [.lit (.bool false)], args := [d] }
  | _ => none }
def FnSolverCertificatesWrongFalsely : Prop := fnSolverCertificatesRow.holds Tryz.pinned (OpenSpec.ofChange fnSolverCertificatesWrong)

/-- 'laws.FnOptimalityGuarantee': WHATEVER THE INPUT: true; the input reads as it did. -/
def fnOptimalityGuaranteeSpec : ChangeSpec := { name := "fnOptimalityGuarantee", fn := fun _ => fun
  | [d] => { results := [.lit (.bool true)], args := [d] }
  | _ => none }
def fnOptimalityGuaranteeRow : OpenClaim := { program := "ythleokaeobdamaagreat", sum := "3bba6a8f18b8a0fbe5861d799909a0c1baa182b626215dba10e41ec5108bcf3d", func := "loop.example/g00855/laws.FnOptimalityGuarantee", spec := "fnOptimalityGuarantee", unfollowed := true, recurses := true, apart := false }
def FnOptimalityGuaranteeSaid : Prop := fnOptimalityGuaranteeRow.holds Tryz.pinned (OpenSpec.ofChange fnOptimalityGuaranteeSpec)

/-- ITS FALSE NEIGHBOUR: 'it returns false'. Refute it at one input. -/
def fnOptimalityGuaranteeWrong : ChangeSpec := { name := "fnOptimalityGuarantee", fn := fun _ => fun
  | [d] => { results := [.lit (.bool false)], args := [d] }
  | _ => none }
def FnOptimalityGuaranteeWrongFalsely : Prop := fnOptimalityGuaranteeRow.holds Tryz.pinned (OpenSpec.ofChange fnOptimalityGuaranteeWrong)

/- THE SECOND FORM. 'bulk': how many values and letters a reading holds, each counted each time it is reached (what is shared counts as often as it is met; a slice's spare places count too). A statement '..UptoSaid' is the law's where the arguments, and the package variables that the reading takes, are together of bulk at most 1048576: NARROWER than '..Said'. Prove '..Said' where nothing that the law and all that it calls make is longer than what came in: it says more and counts as full. Else prove '..UptoSaid'. A law counts once. -/
mutual
def uptoBulk {H : Type} : DataW H → Nat
  | .lit (.string bytes) => bytes.length + 1
  | .lit _ => 1
  | .nil => 1
  | .ptr d => uptoBulk d + 1
  | .slice elems spare => uptoBulkAll elems + uptoBulkAll spare + 1
  | .agg parts => uptoBulkAll parts + 1
  | .iface _ d => uptoBulk d + 1
  | .map entries => uptoBulkEntries entries + 1
  | .held _ => 1
def uptoBulkAll {H : Type} : List (DataW H) → Nat
  | [] => 0
  | d :: r => uptoBulk d + uptoBulkAll r
def uptoBulkEntries {H : Type} : List (Lit × DataW H) → Nat
  | [] => 0
  | x :: r => uptoBulkEntry x + uptoBulkEntries r
def uptoBulkEntry {H : Type} : Lit × DataW H → Nat
  | (.string bytes, d) => bytes.length + uptoBulk d + 1
  | (_, d) => uptoBulk d + 1
 end
def uptoSmall : (H : Type) → List (DataW H) → Bool := fun _ ds => decide (uptoBulkAll ds ≤ 1048576)
def OpenSpec.upto (s : _root_.Go.ChangeSpec) : _root_.Go.OpenSpec := { _root_.Go.OpenSpec.ofChange s with cond := some uptoSmall }

/-- 'laws.FnTableSolver', WHERE WHAT IT READS IS OF BULK AT MOST 1048576: true; the input reads as it did. -/
def fnTableSolverUptoRow : OpenClaim := { program := "ythleokaeobdamaagreat", sum := "3bba6a8f18b8a0fbe5861d799909a0c1baa182b626215dba10e41ec5108bcf3d", func := "loop.example/g00855/laws.FnTableSolver", spec := "fnTableSolver", unfollowed := true, recurses := true, apart := false, narrowed := true }
def FnTableSolverUptoSaid : Prop := fnTableSolverUptoRow.holds Tryz.pinned (OpenSpec.upto fnTableSolverSpec)

/-- 'laws.FnSolverCertificates', WHERE WHAT IT READS IS OF BULK AT MOST 1048576: true; the input reads as it did. -/
def fnSolverCertificatesUptoRow : OpenClaim := { program := "ythleokaeobdamaagreat", sum := "3bba6a8f18b8a0fbe5861d799909a0c1baa182b626215dba10e41ec5108bcf3d", func := "loop.example/g00855/laws.FnSolverCertificates", spec := "fnSolverCertificates", unfollowed := true, recurses := true, apart := false, narrowed := true }
def FnSolverCertificatesUptoSaid : Prop := fnSolverCertificatesUptoRow.holds Tryz.pinned (OpenSpec.upto fnSolverCertificatesSpec)

/-- 'laws.FnOptimalityGuarantee', WHERE WHAT IT READS IS OF BULK AT MOST 1048576: true; the input reads as it did. -/
def fnOptimalityGuaranteeUptoRow : OpenClaim := { program := "ythleokaeobdamaagreat", sum := "3bba6a8f18b8a0fbe5861d799909a0c1baa182b626215dba10e41ec5108bcf3d", func := "loop.example/g00855/laws.FnOptimalityGuarantee", spec := "fnOptimalityGuarantee", unfollowed := true, recurses := true, apart := false, narrowed := true }
def FnOptimalityGuaranteeUptoSaid : Prop := fnOptimalityGuaranteeUptoRow.holds Tryz.pinned (OpenSpec.upto fnOptimalityGuaranteeSpec)

end Rows
end Go.Proofs.YthleokaeobdamaaGreat
