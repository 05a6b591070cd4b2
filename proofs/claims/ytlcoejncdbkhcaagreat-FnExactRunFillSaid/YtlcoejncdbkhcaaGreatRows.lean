/-
  No cell of these rows narrows 'for every input' (looked for: loops, veiled, ifaces, maps, wideKeys, modest, calm, conditions, laid).
  DERIVED. THE GIVEN ROWS OF THIS SEAT. 9 by the template 'for every input the law returns true; each argument reads behind the call as it read before'; 0 by the template 'total and deterministic' (their statements: YtlcoejncdbkhcaaGreatTotals.lean).
  GIVEN WITH THE SEED: the statements are not yours to turn. If you find one false, say at which input.
  Laid BY PROGRAM, IN A SANDBOX (cutbox-rows.mjs): the forced cells as the released guide's own fill.sh prints them over the translation 65bb5076e1c0e018… (all of the seat's roots in one cut). By AI agents, Wed Nov 11 2026. No macro, syntax, notation, axiom, sorry.
-/
import Derived.Test.YtlcoejncdbkhcaaGreatChecked
import GoSem.Claim
import GoSem.ClaimJoined
import GoSem.ClaimMapViews
import Derived.JoinedTies
import Derived.KernelRfl
namespace Go.Proofs.YtlcoejncdbkhcaaGreat
/- THE CELL 'sum', in the pinned program and in every row, IS THE sha256 OF THE DUMP (.gsa) THAT YtlcoejncdbkhcaaGreatProg.lean LOADS. Nothing in Lean hashes anything: it is a label: what it is worth is what the hold of that sum in a sandbox is worth. -/
noncomputable def Tryz.pinned : Pinned := { name := "ytlcoejncdbkhcaagreat", sum := "65bb5076e1c0e018f42b1a1c14b86da06f8035cc2cae7a83dcdd0d212a084f5b", checked := Tryz.checked }
namespace Rows
def none {H : Type} : Left H := { results := [], args := [] }

/-- 'laws.FnExactSyncFill': WHATEVER THE INPUT: true; the input reads as it did. -/
def fnExactSyncFillSpec : ChangeSpec := { name := "fnExactSyncFill", fn := fun _ => fun
  | [d1, d2] => { results := [.lit (.bool true)], args := [d1, d2] }
  | _ => none }
def fnExactSyncFillRow : OpenClaim := { program := "ytlcoejncdbkhcaagreat", sum := "65bb5076e1c0e018f42b1a1c14b86da06f8035cc2cae7a83dcdd0d212a084f5b", func := "loop.example/g00855/laws.FnExactSyncFill", spec := "fnExactSyncFill", unfollowed := true, recurses := true, apart := false }
def FnExactSyncFillSaid : Prop := fnExactSyncFillRow.holds Tryz.pinned (OpenSpec.ofChange fnExactSyncFillSpec)

/-- ITS FALSE NEIGHBOUR: 'it returns false'. Refute it at one input. -/
def fnExactSyncFillWrong : ChangeSpec := { name := "fnExactSyncFill", fn := fun _ => fun
  | [d1, d2] => { results := [.lit (.bool false)], args := [d1, d2] }
  | _ => none }
def FnExactSyncFillWrongFalsely : Prop := fnExactSyncFillRow.holds Tryz.pinned (OpenSpec.ofChange fnExactSyncFillWrong)

/-- 'laws.FnExactStepFill': WHATEVER THE INPUT: true; the input reads as it did. -/
def fnExactStepFillSpec : ChangeSpec := { name := "fnExactStepFill", fn := fun _ => fun
  | [d1, d2] => { results := [.lit (.bool true)], args := [d1, d2] }
  | _ => none }
def fnExactStepFillRow : OpenClaim := { program := "ytlcoejncdbkhcaagreat", sum := "65bb5076e1c0e018f42b1a1c14b86da06f8035cc2cae7a83dcdd0d212a084f5b", func := "loop.example/g00855/laws.FnExactStepFill", spec := "fnExactStepFill", unfollowed := true, recurses := true, apart := false }
def FnExactStepFillSaid : Prop := fnExactStepFillRow.holds Tryz.pinned (OpenSpec.ofChange fnExactStepFillSpec)

/-- ITS FALSE NEIGHBOUR: 'it returns false'. Refute it at one input. -/
def fnExactStepFillWrong : ChangeSpec := { name := "fnExactStepFill", fn := fun _ => fun
  | [d1, d2] => { results := [.lit (.bool false)], args := [d1, d2] }
  | _ => none }
def FnExactStepFillWrongFalsely : Prop := fnExactStepFillRow.holds Tryz.pinned (OpenSpec.ofChange fnExactStepFillWrong)

/-- 'laws.FnExactRunFill': WHATEVER THE INPUT: true; the input reads as it did. -/
def fnExactRunFillSpec : ChangeSpec := { name := "fnExactRunFill", fn := fun _ => fun
  | [d1, d2, d3] => { results := [.lit (.bool true)], args := [d1, d2, d3] }
  | _ => none }
def fnExactRunFillRow : OpenClaim := { program := "ytlcoejncdbkhcaagreat", sum := "65bb5076e1c0e018f42b1a1c14b86da06f8035cc2cae7a83dcdd0d212a084f5b", func := "loop.example/g00855/laws.FnExactRunFill", spec := "fnExactRunFill", unfollowed := true, recurses := true, apart := false }
def FnExactRunFillSaid : Prop := fnExactRunFillRow.holds Tryz.pinned (OpenSpec.ofChange fnExactRunFillSpec)

/-- ITS FALSE NEIGHBOUR: 'it returns false'. Refute it at one input. -/
def fnExactRunFillWrong : ChangeSpec := { name := "fnExactRunFill", fn := fun _ => fun
  | [d1, d2, d3] => { results := [.lit (.bool false)], args := [d1, d2, d3] }
  | _ => none }
def FnExactRunFillWrongFalsely : Prop := fnExactRunFillRow.holds Tryz.pinned (OpenSpec.ofChange fnExactRunFillWrong)

/-- 'laws.FnExactCrashFill': WHATEVER THE INPUT: true; the input reads as it did. -/
def fnExactCrashFillSpec : ChangeSpec := { name := "fnExactCrashFill", fn := fun _ => fun
  | [d1, d2, d3] => { results := [.lit (.bool true)], args := [d1, d2, d3] }
  | _ => none }
def fnExactCrashFillRow : OpenClaim := { program := "ytlcoejncdbkhcaagreat", sum := "65bb5076e1c0e018f42b1a1c14b86da06f8035cc2cae7a83dcdd0d212a084f5b", func := "loop.example/g00855/laws.FnExactCrashFill", spec := "fnExactCrashFill", unfollowed := true, recurses := true, apart := false }
def FnExactCrashFillSaid : Prop := fnExactCrashFillRow.holds Tryz.pinned (OpenSpec.ofChange fnExactCrashFillSpec)

/-- ITS FALSE NEIGHBOUR: 'it returns false'. Refute it at one input. -/
def fnExactCrashFillWrong : ChangeSpec := { name := "fnExactCrashFill", fn := fun _ => fun
  | [d1, d2, d3] => { results := [.lit (.bool false)], args := [d1, d2, d3] }
  | _ => none }
def FnExactCrashFillWrongFalsely : Prop := fnExactCrashFillRow.holds Tryz.pinned (OpenSpec.ofChange fnExactCrashFillWrong)

/-- 'laws.FnExactSolveCertified': WHATEVER THE INPUT: true; the input reads as it did. -/
def fnExactSolveCertifiedSpec : ChangeSpec := { name := "fnExactSolveCertified", fn := fun _ => fun
  | [d1, d2] => { results := [.lit (.bool true)], args := [d1, d2] }
  | _ => none }
def fnExactSolveCertifiedRow : OpenClaim := { program := "ytlcoejncdbkhcaagreat", sum := "65bb5076e1c0e018f42b1a1c14b86da06f8035cc2cae7a83dcdd0d212a084f5b", func := "loop.example/g00855/laws.FnExactSolveCertified", spec := "fnExactSolveCertified", unfollowed := true, recurses := true, apart := false }
def FnExactSolveCertifiedSaid : Prop := fnExactSolveCertifiedRow.holds Tryz.pinned (OpenSpec.ofChange fnExactSolveCertifiedSpec)

/-- ITS FALSE NEIGHBOUR: 'it returns false'. Refute it at one input. -/
def fnExactSolveCertifiedWrong : ChangeSpec := { name := "fnExactSolveCertified", fn := fun _ => fun
  | [d1, d2] => { results := [.lit (.bool false)], args := [d1, d2] }
  | _ => none }
def FnExactSolveCertifiedWrongFalsely : Prop := fnExactSolveCertifiedRow.holds Tryz.pinned (OpenSpec.ofChange fnExactSolveCertifiedWrong)

/-- 'laws.FnExactBoundCertified': WHATEVER THE INPUT: true; the input reads as it did. -/
def fnExactBoundCertifiedSpec : ChangeSpec := { name := "fnExactBoundCertified", fn := fun _ => fun
  | [d1, d2, d3] => { results := [.lit (.bool true)], args := [d1, d2, d3] }
  | _ => none }
def fnExactBoundCertifiedRow : OpenClaim := { program := "ytlcoejncdbkhcaagreat", sum := "65bb5076e1c0e018f42b1a1c14b86da06f8035cc2cae7a83dcdd0d212a084f5b", func := "loop.example/g00855/laws.FnExactBoundCertified", spec := "fnExactBoundCertified", unfollowed := true, recurses := true, apart := false }
def FnExactBoundCertifiedSaid : Prop := fnExactBoundCertifiedRow.holds Tryz.pinned (OpenSpec.ofChange fnExactBoundCertifiedSpec)

/-- ITS FALSE NEIGHBOUR: 'it returns false'. Refute it at one input. -/
def fnExactBoundCertifiedWrong : ChangeSpec := { name := "fnExactBoundCertified", fn := fun _ => fun
  | [d1, d2, d3] => { results := [.lit (.bool false)], args := [d1, d2, d3] }
  | _ => none }
def FnExactBoundCertifiedWrongFalsely : Prop := fnExactBoundCertifiedRow.holds Tryz.pinned (OpenSpec.ofChange fnExactBoundCertifiedWrong)

/-- 'laws.FnExactIsAcceptedCertificate': WHATEVER THE INPUT: true; the input reads as it did. -/
def fnExactIsAcceptedCertificateSpec : ChangeSpec := { name := "fnExactIsAcceptedCertificate", fn := fun _ => fun
  | [d1, d2, d3] => { results := [.lit (.bool true)], args := [d1, d2, d3] }
  | _ => none }
def fnExactIsAcceptedCertificateRow : OpenClaim := { program := "ytlcoejncdbkhcaagreat", sum := "65bb5076e1c0e018f42b1a1c14b86da06f8035cc2cae7a83dcdd0d212a084f5b", func := "loop.example/g00855/laws.FnExactIsAcceptedCertificate", spec := "fnExactIsAcceptedCertificate", unfollowed := true, recurses := true, apart := false }
def FnExactIsAcceptedCertificateSaid : Prop := fnExactIsAcceptedCertificateRow.holds Tryz.pinned (OpenSpec.ofChange fnExactIsAcceptedCertificateSpec)

/-- ITS FALSE NEIGHBOUR: 'it returns false'. Refute it at one input. -/
def fnExactIsAcceptedCertificateWrong : ChangeSpec := { name := "fnExactIsAcceptedCertificate", fn := fun _ => fun
  | [d1, d2, d3] => { results := [.lit (.bool false)], args := [d1, d2, d3] }
  | _ => none }
def FnExactIsAcceptedCertificateWrongFalsely : Prop := fnExactIsAcceptedCertificateRow.holds Tryz.pinned (OpenSpec.ofChange fnExactIsAcceptedCertificateWrong)

/-- 'laws.FnExactCheckCertificate': WHATEVER THE INPUT: true; the input reads as it did. -/
def fnExactCheckCertificateSpec : ChangeSpec := { name := "fnExactCheckCertificate", fn := fun _ => fun
  | [d1, d2, d3] => { results := [.lit (.bool true)], args := [d1, d2, d3] }
  | _ => none }
def fnExactCheckCertificateRow : OpenClaim := { program := "ytlcoejncdbkhcaagreat", sum := "65bb5076e1c0e018f42b1a1c14b86da06f8035cc2cae7a83dcdd0d212a084f5b", func := "loop.example/g00855/laws.FnExactCheckCertificate", spec := "fnExactCheckCertificate", unfollowed := true, recurses := true, apart := false }
def FnExactCheckCertificateSaid : Prop := fnExactCheckCertificateRow.holds Tryz.pinned (OpenSpec.ofChange fnExactCheckCertificateSpec)

/-- ITS FALSE NEIGHBOUR: 'it returns false'. Refute it at one input. -/
def fnExactCheckCertificateWrong : ChangeSpec := { name := "fnExactCheckCertificate", fn := fun _ => fun
  | [d1, d2, d3] => { results := [.lit (.bool false)], args := [d1, d2, d3] }
  | _ => none }
def FnExactCheckCertificateWrongFalsely : Prop := fnExactCheckCertificateRow.holds Tryz.pinned (OpenSpec.ofChange fnExactCheckCertificateWrong)

/-- 'laws.FnExactSolveWithTables': WHATEVER THE INPUT: true; the input reads as it did. -/
def fnExactSolveWithTablesSpec : ChangeSpec := { name := "fnExactSolveWithTables", fn := fun _ => fun
  | [d1, d2, d3, d4] => { results := [.lit (.bool true)], args := [d1, d2, d3, d4] }
  | _ => none }
def fnExactSolveWithTablesRow : OpenClaim := { program := "ytlcoejncdbkhcaagreat", sum := "65bb5076e1c0e018f42b1a1c14b86da06f8035cc2cae7a83dcdd0d212a084f5b", func := "loop.example/g00855/laws.FnExactSolveWithTables", spec := "fnExactSolveWithTables", unfollowed := true, recurses := true, apart := false }
def FnExactSolveWithTablesSaid : Prop := fnExactSolveWithTablesRow.holds Tryz.pinned (OpenSpec.ofChange fnExactSolveWithTablesSpec)

/-- ITS FALSE NEIGHBOUR: 'it returns false'. Refute it at one input. -/
def fnExactSolveWithTablesWrong : ChangeSpec := { name := "fnExactSolveWithTables", fn := fun _ => fun
  | [d1, d2, d3, d4] => { results := [.lit (.bool false)], args := [d1, d2, d3, d4] }
  | _ => none }
def FnExactSolveWithTablesWrongFalsely : Prop := fnExactSolveWithTablesRow.holds Tryz.pinned (OpenSpec.ofChange fnExactSolveWithTablesWrong)

/- THE SECOND FORM. 'bulk': how many values and letters a reading holds, each counted each time it is reached (what is shared counts as often as it is met; a slice's spare places count too). A statement '..UptoSaid' is the law's where the arguments, and the package variables that the reading takes, are together of bulk at most 1048576: NARROWER than '..Said'. Prove '..Said' where nothing that the law and all that it calls make is longer than what came in: it says more and counts as full. Else prove '..UptoSaid'. A law counts once. -/
mutual
def uptoBulk {H : Type} : DataW H → Nat
  | .lit (.string bytes) => bytes.length + 1
  | .lit _ => 1
  | .nil => 1
  | .ptr d => uptoBulk d + 1
  | .slice elems spare => uptoBulkAll elems + uptoBulkAll spare + 1
  | .agg parts => uptoBulkAll parts + 1
  | .iface _ d => uptoBulk d + 1
  | .map entries => uptoBulkEntries entries + 1
  | .held _ => 1
def uptoBulkAll {H : Type} : List (DataW H) → Nat
  | [] => 0
  | d :: r => uptoBulk d + uptoBulkAll r
def uptoBulkEntries {H : Type} : List (Lit × DataW H) → Nat
  | [] => 0
  | x :: r => uptoBulkEntry x + uptoBulkEntries r
def uptoBulkEntry {H : Type} : Lit × DataW H → Nat
  | (.string bytes, d) => bytes.length + uptoBulk d + 1
  | (_, d) => uptoBulk d + 1
 end
def uptoSmall : (H : Type) → List (DataW H) → Bool := fun _ ds => decide (uptoBulkAll ds ≤ 1048576)
def OpenSpec.upto (s : _root_.Go.ChangeSpec) : _root_.Go.OpenSpec := { _root_.Go.OpenSpec.ofChange s with cond := some uptoSmall }

/-- 'laws.FnExactSyncFill', WHERE WHAT IT READS IS OF BULK AT MOST 1048576: true; the input reads as it did. -/
def fnExactSyncFillUptoRow : OpenClaim := { program := "ytlcoejncdbkhcaagreat", sum := "65bb5076e1c0e018f42b1a1c14b86da06f8035cc2cae7a83dcdd0d212a084f5b", func := "loop.example/g00855/laws.FnExactSyncFill", spec := "fnExactSyncFill", unfollowed := true, recurses := true, apart := false, narrowed := true }
def FnExactSyncFillUptoSaid : Prop := fnExactSyncFillUptoRow.holds Tryz.pinned (OpenSpec.upto fnExactSyncFillSpec)

/-- 'laws.FnExactStepFill', WHERE WHAT IT READS IS OF BULK AT MOST 1048576: true; the input reads as it did. -/
def fnExactStepFillUptoRow : OpenClaim := { program := "ytlcoejncdbkhcaagreat", sum := "65bb5076e1c0e018f42b1a1c14b86da06f8035cc2cae7a83dcdd0d212a084f5b", func := "loop.example/g00855/laws.FnExactStepFill", spec := "fnExactStepFill", unfollowed := true, recurses := true, apart := false, narrowed := true }
def FnExactStepFillUptoSaid : Prop := fnExactStepFillUptoRow.holds Tryz.pinned (OpenSpec.upto fnExactStepFillSpec)

/-- 'laws.FnExactRunFill', WHERE WHAT IT READS IS OF BULK AT MOST 1048576: true; the input reads as it did. -/
def fnExactRunFillUptoRow : OpenClaim := { program := "ytlcoejncdbkhcaagreat", sum := "65bb5076e1c0e018f42b1a1c14b86da06f8035cc2cae7a83dcdd0d212a084f5b", func := "loop.example/g00855/laws.FnExactRunFill", spec := "fnExactRunFill", unfollowed := true, recurses := true, apart := false, narrowed := true }
def FnExactRunFillUptoSaid : Prop := fnExactRunFillUptoRow.holds Tryz.pinned (OpenSpec.upto fnExactRunFillSpec)

/-- 'laws.FnExactCrashFill', WHERE WHAT IT READS IS OF BULK AT MOST 1048576: true; the input reads as it did. -/
def fnExactCrashFillUptoRow : OpenClaim := { program := "ytlcoejncdbkhcaagreat", sum := "65bb5076e1c0e018f42b1a1c14b86da06f8035cc2cae7a83dcdd0d212a084f5b", func := "loop.example/g00855/laws.FnExactCrashFill", spec := "fnExactCrashFill", unfollowed := true, recurses := true, apart := false, narrowed := true }
def FnExactCrashFillUptoSaid : Prop := fnExactCrashFillUptoRow.holds Tryz.pinned (OpenSpec.upto fnExactCrashFillSpec)

/-- 'laws.FnExactSolveCertified', WHERE WHAT IT READS IS OF BULK AT MOST 1048576: true; the input reads as it did. -/
def fnExactSolveCertifiedUptoRow : OpenClaim := { program := "ytlcoejncdbkhcaagreat", sum := "65bb5076e1c0e018f42b1a1c14b86da06f8035cc2cae7a83dcdd0d212a084f5b", func := "loop.example/g00855/laws.FnExactSolveCertified", spec := "fnExactSolveCertified", unfollowed := true, recurses := true, apart := false, narrowed := true }
def FnExactSolveCertifiedUptoSaid : Prop := fnExactSolveCertifiedUptoRow.holds Tryz.pinned (OpenSpec.upto fnExactSolveCertifiedSpec)

/-- 'laws.FnExactBoundCertified', WHERE WHAT IT READS IS OF BULK AT MOST 1048576: true; the input reads as it did. -/
def fnExactBoundCertifiedUptoRow : OpenClaim := { program := "ytlcoejncdbkhcaagreat", sum := "65bb5076e1c0e018f42b1a1c14b86da06f8035cc2cae7a83dcdd0d212a084f5b", func := "loop.example/g00855/laws.FnExactBoundCertified", spec := "fnExactBoundCertified", unfollowed := true, recurses := true, apart := false, narrowed := true }
def FnExactBoundCertifiedUptoSaid : Prop := fnExactBoundCertifiedUptoRow.holds Tryz.pinned (OpenSpec.upto fnExactBoundCertifiedSpec)

/-- 'laws.FnExactIsAcceptedCertificate', WHERE WHAT IT READS IS OF BULK AT MOST 1048576: true; the input reads as it did. -/
def fnExactIsAcceptedCertificateUptoRow : OpenClaim := { program := "ytlcoejncdbkhcaagreat", sum := "65bb5076e1c0e018f42b1a1c14b86da06f8035cc2cae7a83dcdd0d212a084f5b", func := "loop.example/g00855/laws.FnExactIsAcceptedCertificate", spec := "fnExactIsAcceptedCertificate", unfollowed := true, recurses := true, apart := false, narrowed := true }
def FnExactIsAcceptedCertificateUptoSaid : Prop := fnExactIsAcceptedCertificateUptoRow.holds Tryz.pinned (OpenSpec.upto fnExactIsAcceptedCertificateSpec)

/-- 'laws.FnExactCheckCertificate', WHERE WHAT IT READS IS OF BULK AT MOST 1048576: true; the input reads as it did. -/
def fnExactCheckCertificateUptoRow : OpenClaim := { program := "ytlcoejncdbkhcaagreat", sum := "65bb5076e1c0e018f42b1a1c14b86da06f8035cc2cae7a83dcdd0d212a084f5b", func := "loop.example/g00855/laws.FnExactCheckCertificate", spec := "fnExactCheckCertificate", unfollowed := true, recurses := true, apart := false, narrowed := true }
def FnExactCheckCertificateUptoSaid : Prop := fnExactCheckCertificateUptoRow.holds Tryz.pinned (OpenSpec.upto fnExactCheckCertificateSpec)

/-- 'laws.FnExactSolveWithTables', WHERE WHAT IT READS IS OF BULK AT MOST 1048576: true; the input reads as it did. -/
def fnExactSolveWithTablesUptoRow : OpenClaim := { program := "ytlcoejncdbkhcaagreat", sum := "65bb5076e1c0e018f42b1a1c14b86da06f8035cc2cae7a83dcdd0d212a084f5b", func := "loop.example/g00855/laws.FnExactSolveWithTables", spec := "fnExactSolveWithTables", unfollowed := true, recurses := true, apart := false, narrowed := true }
def FnExactSolveWithTablesUptoSaid : Prop := fnExactSolveWithTablesUptoRow.holds Tryz.pinned (OpenSpec.upto fnExactSolveWithTablesSpec)

end Rows
end Go.Proofs.YtlcoejncdbkhcaaGreat
