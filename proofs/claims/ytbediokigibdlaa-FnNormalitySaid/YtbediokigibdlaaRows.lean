/-
  No cell of these rows narrows 'for every input' (looked for: loops, veiled, ifaces, maps, wideKeys, modest, calm, conditions, laid).
  DERIVED. THE GIVEN ROWS OF THIS SEAT. 3 by the template 'for every input the law returns true; each argument reads behind the call as it read before'; 0 by the template 'total and deterministic' (their statements: YtbediokigibdlaaTotals.lean).
  GIVEN WITH THE SEED: the statements are not yours to turn. If you find one false, say at which input.
  Laid BY PROGRAM, IN A SANDBOX (cutbox-rows.mjs): the forced cells as the released guide's own fill.sh prints them over the translation 66c86a094e5f9006… (all of the seat's roots in one cut). By AI agents, Wed Nov 11 2026. No macro, syntax, notation, axiom, sorry.
-/
import Derived.Test.YtbediokigibdlaaChecked
import GoSem.Claim
import GoSem.ClaimJoined
import GoSem.ClaimMapViews
import Derived.JoinedTies
import Derived.KernelRfl
namespace Go.Proofs.Ytbediokigibdlaa
/- THE CELL 'sum', in the pinned program and in every row, IS THE sha256 OF THE DUMP (.gsa) THAT YtbediokigibdlaaProg.lean LOADS. Nothing in Lean hashes anything: it is a label: what it is worth is what the hold of that sum in a sandbox is worth. -/
noncomputable def Try.pinned : Pinned := { name := "ytbediokigibdlaa", sum := "66c86a094e5f9006f7760c525bd9d54806ffa90ab699f4972180b503477c94de", checked := Try.checked }
namespace Rows
def none {H : Type} : Left H := { results := [], args := [] }

/-- 'laws.FnNormality': WHATEVER THE INPUT: true; the input reads as it did. -/
def fnNormalitySpec : ChangeSpec := { name := "fnNormality", fn := fun _ => fun
  | [d] => { results := [.lit (.bool true)], args := [d] }
  | _ => none }
def fnNormalityRow : OpenClaim := { program := "ytbediokigibdlaa", sum := "66c86a094e5f9006f7760c525bd9d54806ffa90ab699f4972180b503477c94de", func := "loop.example/g00855/laws.FnNormality", spec := "fnNormality", unfollowed := true, recurses := true, apart := false }
def FnNormalitySaid : Prop := fnNormalityRow.holds Try.pinned (OpenSpec.ofChange fnNormalitySpec)

/-- ITS FALSE NEIGHBOUR: 'it returns false'. Refute it at one input. -/
def fnNormalityWrong : ChangeSpec := { name := "fnNormality", fn := fun _ => fun
  | [d] => { results := [.lit (.bool false)], args := [d] }
  | _ => none }
def FnNormalityWrongFalsely : Prop := fnNormalityRow.holds Try.pinned (OpenSpec.ofChange fnNormalityWrong)

/-- 'laws.FnExactCosetRepresentatives': WHATEVER THE INPUT: true; the input reads as it did. -/
def fnExactCosetRepresentativesSpec : ChangeSpec := { name := "fnExactCosetRepresentatives", fn := fun _ => fun
  | [d1, d2, d3] => { results := [.lit (.bool true)], args := [d1, d2, d3] }
  | _ => none }
def fnExactCosetRepresentativesRow : OpenClaim := { program := "ytbediokigibdlaa", sum := "66c86a094e5f9006f7760c525bd9d54806ffa90ab699f4972180b503477c94de", func := "loop.example/g00855/laws.FnExactCosetRepresentatives", spec := "fnExactCosetRepresentatives", unfollowed := true, recurses := true, apart := false }
def FnExactCosetRepresentativesSaid : Prop := fnExactCosetRepresentativesRow.holds Try.pinned (OpenSpec.ofChange fnExactCosetRepresentativesSpec)

/-- ITS FALSE NEIGHBOUR: 'it returns false'. Refute it at one input. -/
def fnExactCosetRepresentativesWrong : ChangeSpec := { name := "fnExactCosetRepresentatives", fn := fun _ => fun
  | [d1, d2, d3] => { results := [.lit (.bool false)], args := [d1, d2, d3] }
  | _ => none }
def FnExactCosetRepresentativesWrongFalsely : Prop := fnExactCosetRepresentativesRow.holds Try.pinned (OpenSpec.ofChange fnExactCosetRepresentativesWrong)

/-- 'laws.FnLagrange': WHATEVER THE INPUT: true; the input reads as it did. -/
def fnLagrangeSpec : ChangeSpec := { name := "fnLagrange", fn := fun _ => fun
  | [d] => { results := [.lit (.bool true)], args := [d] }
  | _ => none }
def fnLagrangeRow : OpenClaim := { program := "ytbediokigibdlaa", sum := "66c86a094e5f9006f7760c525bd9d54806ffa90ab699f4972180b503477c94de", func := "loop.example/g00855/laws.FnLagrange", spec := "fnLagrange", unfollowed := true, recurses := true, apart := false }
def FnLagrangeSaid : Prop := fnLagrangeRow.holds Try.pinned (OpenSpec.ofChange fnLagrangeSpec)

/-- ITS FALSE NEIGHBOUR: 'it returns false'. Refute it at one input. -/
def fnLagrangeWrong : ChangeSpec := { name := "fnLagrange", fn := fun _ => fun
  | [d] => { results := [.lit (.bool false)], args := [d] }
  | _ => none }
def FnLagrangeWrongFalsely : Prop := fnLagrangeRow.holds Try.pinned (OpenSpec.ofChange fnLagrangeWrong)

/- THE SECOND FORM. 'bulk': how many values and letters a reading holds, each counted each time it is reached (what is shared counts as often as it is met; a slice's spare places count too). A statement '..UptoSaid' is the law's where the arguments, and the package variables that the reading takes, are together of bulk at most 1048576: NARROWER than '..Said'. Prove '..Said' where nothing that the law and all that it calls make is longer than what came in: it says more and counts as full. Else prove '..UptoSaid'. A law counts once. -/
mutual
def uptoBulk {H : Type} : DataW H → Nat
  | .lit (.string bytes) => bytes.length + 1
  | .lit _ => 1
  | .nil => 1
  | .ptr d => uptoBulk d + 1
  | .slice elems spare => uptoBulkAll elems + uptoBulkAll spare + 1
  | .agg parts => uptoBulkAll parts + 1
  | .iface _ d => uptoBulk d + 1
  | .map entries => uptoBulkEntries entries + 1
  | .held _ => 1
def uptoBulkAll {H : Type} : List (DataW H) → Nat
  | [] => 0
  | d :: r => uptoBulk d + uptoBulkAll r
def uptoBulkEntries {H : Type} : List (Lit × DataW H) → Nat
  | [] => 0
  | x :: r => uptoBulkEntry x + uptoBulkEntries r
def uptoBulkEntry {H : Type} : Lit × DataW H → Nat
  | (.string bytes, d) => bytes.length + uptoBulk d + 1
  | (_, d) => uptoBulk d + 1
 end
def uptoSmall : (H : Type) → List (DataW H) → Bool := fun _ ds => decide (uptoBulkAll ds ≤ 1048576)
def OpenSpec.upto (s : _root_.Go.ChangeSpec) : _root_.Go.OpenSpec := { _root_.Go.OpenSpec.ofChange s with cond := some uptoSmall }

/-- 'laws.FnNormality', WHERE WHAT IT READS IS OF BULK AT MOST 1048576: true; the input reads as it did. -/
def fnNormalityUptoRow : OpenClaim := { program := "ytbediokigibdlaa", sum := "66c86a094e5f9006f7760c525bd9d54806ffa90ab699f4972180b503477c94de", func := "loop.example/g00855/laws.FnNormality", spec := "fnNormality", unfollowed := true, recurses := true, apart := false, narrowed := true }
def FnNormalityUptoSaid : Prop := fnNormalityUptoRow.holds Try.pinned (OpenSpec.upto fnNormalitySpec)

/-- 'laws.FnExactCosetRepresentatives', WHERE WHAT IT READS IS OF BULK AT MOST 1048576: true; the input reads as it did. -/
def fnExactCosetRepresentativesUptoRow : OpenClaim := { program := "ytbediokigibdlaa", sum := "66c86a094e5f9006f7760c525bd9d54806ffa90ab699f4972180b503477c94de", func := "loop.example/g00855/laws.FnExactCosetRepresentatives", spec := "fnExactCosetRepresentatives", unfollowed := true, recurses := true, apart := false, narrowed := true }
def FnExactCosetRepresentativesUptoSaid : Prop := fnExactCosetRepresentativesUptoRow.holds Try.pinned (OpenSpec.upto fnExactCosetRepresentativesSpec)

/-- 'laws.FnLagrange', WHERE WHAT IT READS IS OF BULK AT MOST 1048576: true; the input reads as it did. -/
def fnLagrangeUptoRow : OpenClaim := { program := "ytbediokigibdlaa", sum := "66c86a094e5f9006f7760c525bd9d54806ffa90ab699f4972180b503477c94de", func := "loop.example/g00855/laws.FnLagrange", spec := "fnLagrange", unfollowed := true, recurses := true, apart := false, narrowed := true }
def FnLagrangeUptoSaid : Prop := fnLagrangeUptoRow.holds Try.pinned (OpenSpec.upto fnLagrangeSpec)

end Rows
end Go.Proofs.Ytbediokigibdlaa
