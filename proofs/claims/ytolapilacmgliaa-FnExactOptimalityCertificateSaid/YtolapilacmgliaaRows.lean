/-
  No cell of these rows narrows 'for every input' (looked for: loops, veiled, ifaces, maps, wideKeys, modest, calm, conditions, laid).
  DERIVED. THE GIVEN ROWS OF THIS SEAT. 4 by the template 'for every input the law returns true; each argument reads behind the call as it read before'; 0 by the template 'total and deterministic' (their statements: YtolapilacmgliaaTotals.lean).
  GIVEN WITH THE SEED: the statements are not yours to turn. If you find one false, say at which input.
  Laid BY PROGRAM, IN A SANDBOX (cutbox-rows.mjs): the forced cells as the released guide's own fill.sh prints them over the translation 7619555935f67e01… (all of the seat's roots in one cut). By AI agents, Wed Nov 11 2026. No macro, syntax, notation, axiom, sorry.
-/
import Derived.Test.YtolapilacmgliaaChecked
import GoSem.Claim
import GoSem.ClaimJoined
import GoSem.ClaimMapViews
import Derived.JoinedTies
import Derived.KernelRfl
namespace Go.Proofs.Ytolapilacmgliaa
/- THE CELL 'sum', in the pinned program and in every row, IS THE sha256 OF THE DUMP (.gsa) THAT YtolapilacmgliaaProg.lean LOADS. Nothing in Lean hashes anything: it is a label: what it is worth is what the hold of that sum in a sandbox is worth. -/
noncomputable def Try.pinned : Pinned := { name := "ytolapilacmgliaa", sum := "7619555935f67e01ec5cc64c7e3f6b85d57e579a44986b1979877873a785af9e", checked := Try.checked }
namespace Rows
def none {H : Type} : Left H := { results := [], args := [] }

/-- 'laws.FnExactSolutionCertificate': WHATEVER THE INPUT: true; the input reads as it did. -/
def fnExactSolutionCertificateSpec : ChangeSpec := { name := "fnExactSolutionCertificate", fn := fun _ => fun
  | [d] => { results := [.lit (.bool true)], args := [d] }
  | _ => none }
def fnExactSolutionCertificateRow : OpenClaim := { program := "ytolapilacmgliaa", sum := "7619555935f67e01ec5cc64c7e3f6b85d57e579a44986b1979877873a785af9e", func := "loop.example/g00855/laws.FnExactSolutionCertificate", spec := "fnExactSolutionCertificate", unfollowed := true, recurses := true, apart := false }
def FnExactSolutionCertificateSaid : Prop := fnExactSolutionCertificateRow.holds Try.pinned (OpenSpec.ofChange fnExactSolutionCertificateSpec)

/-- ITS FALSE NEIGHBOUR: 'it returns false'. Refute it at one input. -/
def fnExactSolutionCertificateWrong : ChangeSpec := { name := "fnExactSolutionCertificate", fn := fun _ => fun
  | [d] => { results := [.lit (.bool false)], args := [d] }
  | _ => none }
def FnExactSolutionCertificateWrongFalsely : Prop := fnExactSolutionCertificateRow.holds Try.pinned (OpenSpec.ofChange fnExactSolutionCertificateWrong)

/-- 'laws.FnExactSameCertificate': WHATEVER THE INPUT: true; the input reads as it did. -/
def fnExactSameCertificateSpec : ChangeSpec := { name := "fnExactSameCertificate", fn := fun _ => fun
  | [d1, d2] => { results := [.lit (.bool true)], args := [d1, d2] }
  | _ => none }
def fnExactSameCertificateRow : OpenClaim := { program := "ytolapilacmgliaa", sum := "7619555935f67e01ec5cc64c7e3f6b85d57e579a44986b1979877873a785af9e", func := "loop.example/g00855/laws.FnExactSameCertificate", spec := "fnExactSameCertificate", unfollowed := true, recurses := true, apart := false }
def FnExactSameCertificateSaid : Prop := fnExactSameCertificateRow.holds Try.pinned (OpenSpec.ofChange fnExactSameCertificateSpec)

/-- ITS FALSE NEIGHBOUR: 'it returns false'. Refute it at one input. -/
def fnExactSameCertificateWrong : ChangeSpec := { name := "fnExactSameCertificate", fn := fun _ => fun
  | [d1, d2] => { results := [.lit (.bool false)], args := [d1, d2] }
  | _ => none }
def FnExactSameCertificateWrongFalsely : Prop := fnExactSameCertificateRow.holds Try.pinned (OpenSpec.ofChange fnExactSameCertificateWrong)

/-- 'laws.FnExactLowerBoundCertificate': WHATEVER THE INPUT: true; the input reads as it did. -/
def fnExactLowerBoundCertificateSpec : ChangeSpec := { name := "fnExactLowerBoundCertificate", fn := fun _ => fun
  | [d1, d2] => { results := [.lit (.bool true)], args := [d1, d2] }
  | _ => none }
def fnExactLowerBoundCertificateRow : OpenClaim := { program := "ytolapilacmgliaa", sum := "7619555935f67e01ec5cc64c7e3f6b85d57e579a44986b1979877873a785af9e", func := "loop.example/g00855/laws.FnExactLowerBoundCertificate", spec := "fnExactLowerBoundCertificate", apart := false }
def FnExactLowerBoundCertificateSaid : Prop := fnExactLowerBoundCertificateRow.holds Try.pinned (OpenSpec.ofChange fnExactLowerBoundCertificateSpec)

/-- ITS FALSE NEIGHBOUR: 'it returns false'. Refute it at one input. -/
def fnExactLowerBoundCertificateWrong : ChangeSpec := { name := "fnExactLowerBoundCertificate", fn := fun _ => fun
  | [d1, d2] => { results := [.lit (.bool false)], args := [d1, d2] }
  | _ => none }
def FnExactLowerBoundCertificateWrongFalsely : Prop := fnExactLowerBoundCertificateRow.holds Try.pinned (OpenSpec.ofChange fnExactLowerBoundCertificateWrong)

/-- 'laws.FnExactOptimalityCertificate': WHATEVER THE INPUT: true; the input reads as it did. -/
def fnExactOptimalityCertificateSpec : ChangeSpec := { name := "fnExactOptimalityCertificate", fn := fun _ => fun
  | [d1, d2] => { results := [.lit (.bool true)], args := [d1, d2] }
  | _ => none }
def fnExactOptimalityCertificateRow : OpenClaim := { program := "ytolapilacmgliaa", sum := "7619555935f67e01ec5cc64c7e3f6b85d57e579a44986b1979877873a785af9e", func := "loop.example/g00855/laws.FnExactOptimalityCertificate", spec := "fnExactOptimalityCertificate", unfollowed := true, recurses := true, apart := false }
def FnExactOptimalityCertificateSaid : Prop := fnExactOptimalityCertificateRow.holds Try.pinned (OpenSpec.ofChange fnExactOptimalityCertificateSpec)

/-- ITS FALSE NEIGHBOUR: 'it returns false'. Refute it at one input. -/
def fnExactOptimalityCertificateWrong : ChangeSpec := { name := "fnExactOptimalityCertificate", fn := fun _ => fun
  | [d1, d2] => { results := [.lit (.bool false)], args := [d1, d2] }
  | _ => none }
def FnExactOptimalityCertificateWrongFalsely : Prop := fnExactOptimalityCertificateRow.holds Try.pinned (OpenSpec.ofChange fnExactOptimalityCertificateWrong)

/- THE SECOND FORM. 'bulk': how many values and letters a reading holds, each counted each time it is reached (what is shared counts as often as it is met; a slice's spare places count too). A statement '..UptoSaid' is the law's where the arguments, and the package variables that the reading takes, are together of bulk at most 1048576: NARROWER than '..Said'. Prove '..Said' where nothing that the law and all that it calls make is longer than what came in: it says more and counts as full. Else prove '..UptoSaid'. A law counts once. -/
mutual
def uptoBulk {H : Type} : DataW H → Nat
  | .lit (.string bytes) => bytes.length + 1
  | .lit _ => 1
  | .nil => 1
  | .ptr d => uptoBulk d + 1
  | .slice elems spare => uptoBulkAll elems + uptoBulkAll spare + 1
  | .agg parts => uptoBulkAll parts + 1
  | .iface _ d => uptoBulk d + 1
  | .map entries => uptoBulkEntries entries + 1
  | .held _ => 1
def uptoBulkAll {H : Type} : List (DataW H) → Nat
  | [] => 0
  | d :: r => uptoBulk d + uptoBulkAll r
def uptoBulkEntries {H : Type} : List (Lit × DataW H) → Nat
  | [] => 0
  | x :: r => uptoBulkEntry x + uptoBulkEntries r
def uptoBulkEntry {H : Type} : Lit × DataW H → Nat
  | (.string bytes, d) => bytes.length + uptoBulk d + 1
  | (_, d) => uptoBulk d + 1
 end
def uptoSmall : (H : Type) → List (DataW H) → Bool := fun _ ds => decide (uptoBulkAll ds ≤ 1048576)
def OpenSpec.upto (s : _root_.Go.ChangeSpec) : _root_.Go.OpenSpec := { _root_.Go.OpenSpec.ofChange s with cond := some uptoSmall }

/-- 'laws.FnExactSolutionCertificate', WHERE WHAT IT READS IS OF BULK AT MOST 1048576: true; the input reads as it did. -/
def fnExactSolutionCertificateUptoRow : OpenClaim := { program := "ytolapilacmgliaa", sum := "7619555935f67e01ec5cc64c7e3f6b85d57e579a44986b1979877873a785af9e", func := "loop.example/g00855/laws.FnExactSolutionCertificate", spec := "fnExactSolutionCertificate", unfollowed := true, recurses := true, apart := false, narrowed := true }
def FnExactSolutionCertificateUptoSaid : Prop := fnExactSolutionCertificateUptoRow.holds Try.pinned (OpenSpec.upto fnExactSolutionCertificateSpec)

/-- 'laws.FnExactSameCertificate', WHERE WHAT IT READS IS OF BULK AT MOST 1048576: true; the input reads as it did. -/
def fnExactSameCertificateUptoRow : OpenClaim := { program := "ytolapilacmgliaa", sum := "7619555935f67e01ec5cc64c7e3f6b85d57e579a44986b1979877873a785af9e", func := "loop.example/g00855/laws.FnExactSameCertificate", spec := "fnExactSameCertificate", unfollowed := true, recurses := true, apart := false, narrowed := true }
def FnExactSameCertificateUptoSaid : Prop := fnExactSameCertificateUptoRow.holds Try.pinned (OpenSpec.upto fnExactSameCertificateSpec)

/-- 'laws.FnExactLowerBoundCertificate', WHERE WHAT IT READS IS OF BULK AT MOST 1048576: true; the input reads as it did. -/
def fnExactLowerBoundCertificateUptoRow : OpenClaim := { program := "ytolapilacmgliaa", sum := "7619555935f67e01ec5cc64c7e3f6b85d57e579a44986b1979877873a785af9e", func := "loop.example/g00855/laws.FnExactLowerBoundCertificate", spec := "fnExactLowerBoundCertificate", apart := false, narrowed := true }
def FnExactLowerBoundCertificateUptoSaid : Prop := fnExactLowerBoundCertificateUptoRow.holds Try.pinned (OpenSpec.upto fnExactLowerBoundCertificateSpec)

/-- 'laws.FnExactOptimalityCertificate', WHERE WHAT IT READS IS OF BULK AT MOST 1048576: true; the input reads as it did. -/
def fnExactOptimalityCertificateUptoRow : OpenClaim := { program := "ytolapilacmgliaa", sum := "7619555935f67e01ec5cc64c7e3f6b85d57e579a44986b1979877873a785af9e", func := "loop.example/g00855/laws.FnExactOptimalityCertificate", spec := "fnExactOptimalityCertificate", unfollowed := true, recurses := true, apart := false, narrowed := true }
def FnExactOptimalityCertificateUptoSaid : Prop := fnExactOptimalityCertificateUptoRow.holds Try.pinned (OpenSpec.upto fnExactOptimalityCertificateSpec)

end Rows
end Go.Proofs.Ytolapilacmgliaa
