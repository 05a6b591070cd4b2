/-
  No cell of these rows narrows 'for every input' (looked for: loops, veiled, ifaces, maps, wideKeys, modest, calm, conditions, laid).
  DERIVED. THE GIVEN ROWS OF THIS SEAT. 7 by the template 'for every input the law returns true; each argument reads behind the call as it read before'; 0 by the template 'total and deterministic' (their statements: YtpfmkjcngknecaaTotals.lean).
  GIVEN WITH THE SEED: the statements are not yours to turn. If you find one false, say at which input.
  Laid BY PROGRAM, IN A SANDBOX (cutbox-rows.mjs): the forced cells as the released guide's own fill.sh prints them over the translation 8385d9b6705587ac… (all of the seat's roots in one cut). By AI agents, Wed Nov 11 2026. No macro, syntax, notation, axiom, sorry.
-/
import Derived.Test.YtpfmkjcngknecaaChecked
import GoSem.Claim
import GoSem.ClaimJoined
import GoSem.ClaimMapViews
import Derived.JoinedTies
import Derived.KernelRfl
namespace Go.Proofs.Ytpfmkjcngknecaa
/- THE CELL 'sum', in the pinned program and in every row, IS THE sha256 OF THE DUMP (.gsa) THAT YtpfmkjcngknecaaProg.lean LOADS. Nothing in Lean hashes anything: it is a label: what it is worth is what the hold of that sum in a sandbox is worth. -/
noncomputable def Try.pinned : Pinned := { name := "ytpfmkjcngknecaa", sum := "8385d9b6705587ac40d8972f7856e0a4c61bded8d5048df814ee7cadd3f71dbe", checked := Try.checked }
namespace Rows
def none {H : Type} : Left H := { results := [], args := [] }

/-- 'laws.FnExactIsValidSession': WHATEVER THE INPUT: true; the input reads as it did. -/
def fnExactIsValidSessionSpec : ChangeSpec := { name := "fnExactIsValidSession", fn := fun _ => fun
  | [d] => { results := [.lit (.bool true)], args := [d] }
  | _ => none }
def fnExactIsValidSessionRow : OpenClaim := { program := "ytpfmkjcngknecaa", sum := "8385d9b6705587ac40d8972f7856e0a4c61bded8d5048df814ee7cadd3f71dbe", func := "loop.example/g00855/laws.FnExactIsValidSession", spec := "fnExactIsValidSession", unfollowed := true, recurses := true, apart := false }
def FnExactIsValidSessionSaid : Prop := fnExactIsValidSessionRow.holds Try.pinned (OpenSpec.ofChange fnExactIsValidSessionSpec)

/-- ITS FALSE NEIGHBOUR: 'it returns false'. Refute it at one input. -/
def fnExactIsValidSessionWrong : ChangeSpec := { name := "fnExactIsValidSession", fn := fun _ => fun
  | [d] => { results := [.lit (.bool false)], args := [d] }
  | _ => none }
def FnExactIsValidSessionWrongFalsely : Prop := fnExactIsValidSessionRow.holds Try.pinned (OpenSpec.ofChange fnExactIsValidSessionWrong)

/-- 'laws.FnExactSameSession': WHATEVER THE INPUT: true; the input reads as it did. -/
def fnExactSameSessionSpec : ChangeSpec := { name := "fnExactSameSession", fn := fun _ => fun
  | [d1, d2] => { results := [.lit (.bool true)], args := [d1, d2] }
  | _ => none }
def fnExactSameSessionRow : OpenClaim := { program := "ytpfmkjcngknecaa", sum := "8385d9b6705587ac40d8972f7856e0a4c61bded8d5048df814ee7cadd3f71dbe", func := "loop.example/g00855/laws.FnExactSameSession", spec := "fnExactSameSession", unfollowed := true, recurses := true, apart := false }
def FnExactSameSessionSaid : Prop := fnExactSameSessionRow.holds Try.pinned (OpenSpec.ofChange fnExactSameSessionSpec)

/-- ITS FALSE NEIGHBOUR: 'it returns false'. Refute it at one input. -/
def fnExactSameSessionWrong : ChangeSpec := { name := "fnExactSameSession", fn := fun _ => fun
  | [d1, d2] => { results := [.lit (.bool false)], args := [d1, d2] }
  | _ => none }
def FnExactSameSessionWrongFalsely : Prop := fnExactSameSessionRow.holds Try.pinned (OpenSpec.ofChange fnExactSameSessionWrong)

/-- 'laws.FnExactSessionLength': WHATEVER THE INPUT: true; the input reads as it did. -/
def fnExactSessionLengthSpec : ChangeSpec := { name := "fnExactSessionLength", fn := fun _ => fun
  | [d1, d2] => { results := [.lit (.bool true)], args := [d1, d2] }
  | _ => none }
def fnExactSessionLengthRow : OpenClaim := { program := "ytpfmkjcngknecaa", sum := "8385d9b6705587ac40d8972f7856e0a4c61bded8d5048df814ee7cadd3f71dbe", func := "loop.example/g00855/laws.FnExactSessionLength", spec := "fnExactSessionLength", unfollowed := true, recurses := true, apart := false }
def FnExactSessionLengthSaid : Prop := fnExactSessionLengthRow.holds Try.pinned (OpenSpec.ofChange fnExactSessionLengthSpec)

/-- ITS FALSE NEIGHBOUR: 'it returns false'. Refute it at one input. -/
def fnExactSessionLengthWrong : ChangeSpec := { name := "fnExactSessionLength", fn := fun _ => fun
  | [d1, d2] => { results := [.lit (.bool false)], args := [d1, d2] }
  | _ => none }
def FnExactSessionLengthWrongFalsely : Prop := fnExactSessionLengthRow.holds Try.pinned (OpenSpec.ofChange fnExactSessionLengthWrong)

/-- 'laws.FnExactBuildTables': WHATEVER THE INPUT: true; the input reads as it did. -/
def fnExactBuildTablesSpec : ChangeSpec := { name := "fnExactBuildTables", fn := fun _ => fun
  | [d1, d2] => { results := [.lit (.bool true)], args := [d1, d2] }
  | _ => none }
def fnExactBuildTablesRow : OpenClaim := { program := "ytpfmkjcngknecaa", sum := "8385d9b6705587ac40d8972f7856e0a4c61bded8d5048df814ee7cadd3f71dbe", func := "loop.example/g00855/laws.FnExactBuildTables", spec := "fnExactBuildTables", unfollowed := true, recurses := true, apart := false }
def FnExactBuildTablesSaid : Prop := fnExactBuildTablesRow.holds Try.pinned (OpenSpec.ofChange fnExactBuildTablesSpec)

/-- ITS FALSE NEIGHBOUR: 'it returns false'. Refute it at one input. -/
def fnExactBuildTablesWrong : ChangeSpec := { name := "fnExactBuildTables", fn := fun _ => fun
  | [d1, d2] => { results := [.lit (.bool false)], args := [d1, d2] }
  | _ => none }
def FnExactBuildTablesWrongFalsely : Prop := fnExactBuildTablesRow.holds Try.pinned (OpenSpec.ofChange fnExactBuildTablesWrong)

/-- 'laws.FnExactPlayWord': WHATEVER THE INPUT: true; the input reads as it did. -/
def fnExactPlayWordSpec : ChangeSpec := { name := "fnExactPlayWord", fn := fun _ => fun
  | [d1, d2] => { results := [.lit (.bool true)], args := [d1, d2] }
  | _ => none }
def fnExactPlayWordRow : OpenClaim := { program := "ytpfmkjcngknecaa", sum := "8385d9b6705587ac40d8972f7856e0a4c61bded8d5048df814ee7cadd3f71dbe", func := "loop.example/g00855/laws.FnExactPlayWord", spec := "fnExactPlayWord", unfollowed := true, recurses := true, apart := false }
def FnExactPlayWordSaid : Prop := fnExactPlayWordRow.holds Try.pinned (OpenSpec.ofChange fnExactPlayWordSpec)

/-- ITS FALSE NEIGHBOUR: 'it returns false'. Refute it at one input. -/
def fnExactPlayWordWrong : ChangeSpec := { name := "fnExactPlayWord", fn := fun _ => fun
  | [d1, d2] => { results := [.lit (.bool false)], args := [d1, d2] }
  | _ => none }
def FnExactPlayWordWrongFalsely : Prop := fnExactPlayWordRow.holds Try.pinned (OpenSpec.ofChange fnExactPlayWordWrong)

/-- 'laws.FnExactRedoWord': WHATEVER THE INPUT: true; the input reads as it did. -/
def fnExactRedoWordSpec : ChangeSpec := { name := "fnExactRedoWord", fn := fun _ => fun
  | [d] => { results := [.lit (.bool true)], args := [d] }
  | _ => none }
def fnExactRedoWordRow : OpenClaim := { program := "ytpfmkjcngknecaa", sum := "8385d9b6705587ac40d8972f7856e0a4c61bded8d5048df814ee7cadd3f71dbe", func := "loop.example/g00855/laws.FnExactRedoWord", spec := "fnExactRedoWord", unfollowed := true, recurses := true, apart := false }
def FnExactRedoWordSaid : Prop := fnExactRedoWordRow.holds Try.pinned (OpenSpec.ofChange fnExactRedoWordSpec)

/-- ITS FALSE NEIGHBOUR: 'it returns false'. Refute it at one input. -/
def fnExactRedoWordWrong : ChangeSpec := { name := "fnExactRedoWord", fn := fun _ => fun
  | [d] => { results := [.lit (.bool false)], args := [d] }
  | _ => none }
def FnExactRedoWordWrongFalsely : Prop := fnExactRedoWordRow.holds Try.pinned (OpenSpec.ofChange fnExactRedoWordWrong)

/-- 'laws.FnExactUndoWord': WHATEVER THE INPUT: true; the input reads as it did. -/
def fnExactUndoWordSpec : ChangeSpec := { name := "fnExactUndoWord", fn := fun _ => fun
  | [d] => { results := [.lit (.bool true)], args := [d] }
  | _ => none }
def fnExactUndoWordRow : OpenClaim := { program := "ytpfmkjcngknecaa", sum := "8385d9b6705587ac40d8972f7856e0a4c61bded8d5048df814ee7cadd3f71dbe", func := "loop.example/g00855/laws.FnExactUndoWord", spec := "fnExactUndoWord", unfollowed := true, recurses := true, apart := false }
def FnExactUndoWordSaid : Prop := fnExactUndoWordRow.holds Try.pinned (OpenSpec.ofChange fnExactUndoWordSpec)

/-- ITS FALSE NEIGHBOUR: 'it returns false'. Refute it at one input. -/
def fnExactUndoWordWrong : ChangeSpec := { name := "fnExactUndoWord", fn := fun _ => fun
  | [d] => { results := [.lit (.bool false)], args := [d] }
  | _ => none }
def FnExactUndoWordWrongFalsely : Prop := fnExactUndoWordRow.holds Try.pinned (OpenSpec.ofChange fnExactUndoWordWrong)

/- THE SECOND FORM. 'bulk': how many values and letters a reading holds, each counted each time it is reached (what is shared counts as often as it is met; a slice's spare places count too). A statement '..UptoSaid' is the law's where the arguments, and the package variables that the reading takes, are together of bulk at most 1048576: NARROWER than '..Said'. Prove '..Said' where nothing that the law and all that it calls make is longer than what came in: it says more and counts as full. Else prove '..UptoSaid'. A law counts once. -/
mutual
def uptoBulk {H : Type} : DataW H → Nat
  | .lit (.string bytes) => bytes.length + 1
  | .lit _ => 1
  | .nil => 1
  | .ptr d => uptoBulk d + 1
  | .slice elems spare => uptoBulkAll elems + uptoBulkAll spare + 1
  | .agg parts => uptoBulkAll parts + 1
  | .iface _ d => uptoBulk d + 1
  | .map entries => uptoBulkEntries entries + 1
  | .held _ => 1
def uptoBulkAll {H : Type} : List (DataW H) → Nat
  | [] => 0
  | d :: r => uptoBulk d + uptoBulkAll r
def uptoBulkEntries {H : Type} : List (Lit × DataW H) → Nat
  | [] => 0
  | x :: r => uptoBulkEntry x + uptoBulkEntries r
def uptoBulkEntry {H : Type} : Lit × DataW H → Nat
  | (.string bytes, d) => bytes.length + uptoBulk d + 1
  | (_, d) => uptoBulk d + 1
 end
def uptoSmall : (H : Type) → List (DataW H) → Bool := fun _ ds => decide (uptoBulkAll ds ≤ 1048576)
def OpenSpec.upto (s : _root_.Go.ChangeSpec) : _root_.Go.OpenSpec := { _root_.Go.OpenSpec.ofChange s with cond := some uptoSmall }

/-- 'laws.FnExactIsValidSession', WHERE WHAT IT READS IS OF BULK AT MOST 1048576: true; the input reads as it did. -/
def fnExactIsValidSessionUptoRow : OpenClaim := { program := "ytpfmkjcngknecaa", sum := "8385d9b6705587ac40d8972f7856e0a4c61bded8d5048df814ee7cadd3f71dbe", func := "loop.example/g00855/laws.FnExactIsValidSession", spec := "fnExactIsValidSession", unfollowed := true, recurses := true, apart := false, narrowed := true }
def FnExactIsValidSessionUptoSaid : Prop := fnExactIsValidSessionUptoRow.holds Try.pinned (OpenSpec.upto fnExactIsValidSessionSpec)

/-- 'laws.FnExactSameSession', WHERE WHAT IT READS IS OF BULK AT MOST 1048576: true; the input reads as it did. -/
def fnExactSameSessionUptoRow : OpenClaim := { program := "ytpfmkjcngknecaa", sum := "8385d9b6705587ac40d8972f7856e0a4c61bded8d5048df814ee7cadd3f71dbe", func := "loop.example/g00855/laws.FnExactSameSession", spec := "fnExactSameSession", unfollowed := true, recurses := true, apart := false, narrowed := true }
def FnExactSameSessionUptoSaid : Prop := fnExactSameSessionUptoRow.holds Try.pinned (OpenSpec.upto fnExactSameSessionSpec)

/-- 'laws.FnExactSessionLength', WHERE WHAT IT READS IS OF BULK AT MOST 1048576: true; the input reads as it did. -/
def fnExactSessionLengthUptoRow : OpenClaim := { program := "ytpfmkjcngknecaa", sum := "8385d9b6705587ac40d8972f7856e0a4c61bded8d5048df814ee7cadd3f71dbe", func := "loop.example/g00855/laws.FnExactSessionLength", spec := "fnExactSessionLength", unfollowed := true, recurses := true, apart := false, narrowed := true }
def FnExactSessionLengthUptoSaid : Prop := fnExactSessionLengthUptoRow.holds Try.pinned (OpenSpec.upto fnExactSessionLengthSpec)

/-- 'laws.FnExactBuildTables', WHERE WHAT IT READS IS OF BULK AT MOST 1048576: true; the input reads as it did. -/
def fnExactBuildTablesUptoRow : OpenClaim := { program := "ytpfmkjcngknecaa", sum := "8385d9b6705587ac40d8972f7856e0a4c61bded8d5048df814ee7cadd3f71dbe", func := "loop.example/g00855/laws.FnExactBuildTables", spec := "fnExactBuildTables", unfollowed := true, recurses := true, apart := false, narrowed := true }
def FnExactBuildTablesUptoSaid : Prop := fnExactBuildTablesUptoRow.holds Try.pinned (OpenSpec.upto fnExactBuildTablesSpec)

/-- 'laws.FnExactPlayWord', WHERE WHAT IT READS IS OF BULK AT MOST 1048576: true; the input reads as it did. -/
def fnExactPlayWordUptoRow : OpenClaim := { program := "ytpfmkjcngknecaa", sum := "8385d9b6705587ac40d8972f7856e0a4c61bded8d5048df814ee7cadd3f71dbe", func := "loop.example/g00855/laws.FnExactPlayWord", spec := "fnExactPlayWord", unfollowed := true, recurses := true, apart := false, narrowed := true }
def FnExactPlayWordUptoSaid : Prop := fnExactPlayWordUptoRow.holds Try.pinned (OpenSpec.upto fnExactPlayWordSpec)

/-- 'laws.FnExactRedoWord', WHERE WHAT IT READS IS OF BULK AT MOST 1048576: true; the input reads as it did. -/
def fnExactRedoWordUptoRow : OpenClaim := { program := "ytpfmkjcngknecaa", sum := "8385d9b6705587ac40d8972f7856e0a4c61bded8d5048df814ee7cadd3f71dbe", func := "loop.example/g00855/laws.FnExactRedoWord", spec := "fnExactRedoWord", unfollowed := true, recurses := true, apart := false, narrowed := true }
def FnExactRedoWordUptoSaid : Prop := fnExactRedoWordUptoRow.holds Try.pinned (OpenSpec.upto fnExactRedoWordSpec)

/-- 'laws.FnExactUndoWord', WHERE WHAT IT READS IS OF BULK AT MOST 1048576: true; the input reads as it did. -/
def fnExactUndoWordUptoRow : OpenClaim := { program := "ytpfmkjcngknecaa", sum := "8385d9b6705587ac40d8972f7856e0a4c61bded8d5048df814ee7cadd3f71dbe", func := "loop.example/g00855/laws.FnExactUndoWord", spec := "fnExactUndoWord", unfollowed := true, recurses := true, apart := false, narrowed := true }
def FnExactUndoWordUptoSaid : Prop := fnExactUndoWordUptoRow.holds Try.pinned (OpenSpec.upto fnExactUndoWordSpec)

end Rows
end Go.Proofs.Ytpfmkjcngknecaa
