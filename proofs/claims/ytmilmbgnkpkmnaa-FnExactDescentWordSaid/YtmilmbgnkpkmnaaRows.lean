/-
  No cell of these rows narrows 'for every input' (looked for: loops, veiled, ifaces, maps, wideKeys, modest, calm, conditions, laid).
  DERIVED. THE GIVEN ROWS OF THIS SEAT. 7 by the template 'for every input the law returns true; each argument reads behind the call as it read before'; 0 by the template 'total and deterministic' (their statements: YtmilmbgnkpkmnaaTotals.lean).
  GIVEN WITH THE SEED: the statements are not yours to turn. If you find one false, say at which input.
  Laid BY PROGRAM, IN A SANDBOX (cutbox-rows.mjs): the forced cells as the released guide's own fill.sh prints them over the translation 8495a1af5afeb6bf… (all of the seat's roots in one cut). By AI agents, Wed Nov 11 2026. No macro, syntax, notation, axiom, sorry.
-/
import Derived.Test.YtmilmbgnkpkmnaaChecked
import GoSem.Claim
import GoSem.ClaimJoined
import GoSem.ClaimMapViews
import Derived.JoinedTies
import Derived.KernelRfl
namespace Go.Proofs.Ytmilmbgnkpkmnaa
/- THE CELL 'sum', in the pinned program and in every row, IS THE sha256 OF THE DUMP (.gsa) THAT YtmilmbgnkpkmnaaProg.lean LOADS. Nothing in Lean hashes anything: it is a label: what it is worth is what the hold of that sum in a sandbox is worth. -/
noncomputable def Try.pinned : Pinned := { name := "ytmilmbgnkpkmnaa", sum := "8495a1af5afeb6bf8be2d4c0728b8be09468a76f1a882ad4dfa2bbe51008bd0f", checked := Try.checked }
namespace Rows
def none {H : Type} : Left H := { results := [], args := [] }

/-- 'laws.FnExactNewSession': WHATEVER THE INPUT: true; the input reads as it did. -/
def fnExactNewSessionSpec : ChangeSpec := { name := "fnExactNewSession", fn := fun _ => fun
  | [d] => { results := [.lit (.bool true)], args := [d] }
  | _ => none }
def fnExactNewSessionRow : OpenClaim := { program := "ytmilmbgnkpkmnaa", sum := "8495a1af5afeb6bf8be2d4c0728b8be09468a76f1a882ad4dfa2bbe51008bd0f", func := "loop.example/g00855/laws.FnExactNewSession", spec := "fnExactNewSession", unfollowed := true, recurses := true, apart := false }
def FnExactNewSessionSaid : Prop := fnExactNewSessionRow.holds Try.pinned (OpenSpec.ofChange fnExactNewSessionSpec)

/-- ITS FALSE NEIGHBOUR: 'it returns false'. Refute it at one input. -/
def fnExactNewSessionWrong : ChangeSpec := { name := "fnExactNewSession", fn := fun _ => fun
  | [d] => { results := [.lit (.bool false)], args := [d] }
  | _ => none }
def FnExactNewSessionWrongFalsely : Prop := fnExactNewSessionRow.holds Try.pinned (OpenSpec.ofChange fnExactNewSessionWrong)

/-- 'laws.FnExactDescentLetter': WHATEVER THE INPUT: true; the input reads as it did. -/
def fnExactDescentLetterSpec : ChangeSpec := { name := "fnExactDescentLetter", fn := fun _ => fun
  | [d1, d2, d3] => { results := [.lit (.bool true)], args := [d1, d2, d3] }
  | _ => none }
def fnExactDescentLetterRow : OpenClaim := { program := "ytmilmbgnkpkmnaa", sum := "8495a1af5afeb6bf8be2d4c0728b8be09468a76f1a882ad4dfa2bbe51008bd0f", func := "loop.example/g00855/laws.FnExactDescentLetter", spec := "fnExactDescentLetter", unfollowed := true, recurses := true, apart := false }
def FnExactDescentLetterSaid : Prop := fnExactDescentLetterRow.holds Try.pinned (OpenSpec.ofChange fnExactDescentLetterSpec)

/-- ITS FALSE NEIGHBOUR: 'it returns false'. Refute it at one input. -/
def fnExactDescentLetterWrong : ChangeSpec := { name := "fnExactDescentLetter", fn := fun _ => fun
  | [d1, d2, d3] => { results := [.lit (.bool false)], args := [d1, d2, d3] }
  | _ => none }
def FnExactDescentLetterWrongFalsely : Prop := fnExactDescentLetterRow.holds Try.pinned (OpenSpec.ofChange fnExactDescentLetterWrong)

/-- 'laws.FnExactBuildTables': WHATEVER THE INPUT: true; the input reads as it did. -/
def fnExactBuildTablesSpec : ChangeSpec := { name := "fnExactBuildTables", fn := fun _ => fun
  | [d1, d2] => { results := [.lit (.bool true)], args := [d1, d2] }
  | _ => none }
def fnExactBuildTablesRow : OpenClaim := { program := "ytmilmbgnkpkmnaa", sum := "8495a1af5afeb6bf8be2d4c0728b8be09468a76f1a882ad4dfa2bbe51008bd0f", func := "loop.example/g00855/laws.FnExactBuildTables", spec := "fnExactBuildTables", unfollowed := true, recurses := true, apart := false }
def FnExactBuildTablesSaid : Prop := fnExactBuildTablesRow.holds Try.pinned (OpenSpec.ofChange fnExactBuildTablesSpec)

/-- ITS FALSE NEIGHBOUR: 'it returns false'. Refute it at one input. -/
def fnExactBuildTablesWrong : ChangeSpec := { name := "fnExactBuildTables", fn := fun _ => fun
  | [d1, d2] => { results := [.lit (.bool false)], args := [d1, d2] }
  | _ => none }
def FnExactBuildTablesWrongFalsely : Prop := fnExactBuildTablesRow.holds Try.pinned (OpenSpec.ofChange fnExactBuildTablesWrong)

/-- 'laws.FnExactIsAdmissibleTable': WHATEVER THE INPUT: true; the input reads as it did. -/
def fnExactIsAdmissibleTableSpec : ChangeSpec := { name := "fnExactIsAdmissibleTable", fn := fun _ => fun
  | [d1, d2] => { results := [.lit (.bool true)], args := [d1, d2] }
  | _ => none }
def fnExactIsAdmissibleTableRow : OpenClaim := { program := "ytmilmbgnkpkmnaa", sum := "8495a1af5afeb6bf8be2d4c0728b8be09468a76f1a882ad4dfa2bbe51008bd0f", func := "loop.example/g00855/laws.FnExactIsAdmissibleTable", spec := "fnExactIsAdmissibleTable", unfollowed := true, recurses := true, apart := false }
def FnExactIsAdmissibleTableSaid : Prop := fnExactIsAdmissibleTableRow.holds Try.pinned (OpenSpec.ofChange fnExactIsAdmissibleTableSpec)

/-- ITS FALSE NEIGHBOUR: 'it returns false'. Refute it at one input. -/
def fnExactIsAdmissibleTableWrong : ChangeSpec := { name := "fnExactIsAdmissibleTable", fn := fun _ => fun
  | [d1, d2] => { results := [.lit (.bool false)], args := [d1, d2] }
  | _ => none }
def FnExactIsAdmissibleTableWrongFalsely : Prop := fnExactIsAdmissibleTableRow.holds Try.pinned (OpenSpec.ofChange fnExactIsAdmissibleTableWrong)

/-- 'laws.FnExactIsCorrectTable': WHATEVER THE INPUT: true; the input reads as it did. -/
def fnExactIsCorrectTableSpec : ChangeSpec := { name := "fnExactIsCorrectTable", fn := fun _ => fun
  | [d1, d2] => { results := [.lit (.bool true)], args := [d1, d2] }
  | _ => none }
def fnExactIsCorrectTableRow : OpenClaim := { program := "ytmilmbgnkpkmnaa", sum := "8495a1af5afeb6bf8be2d4c0728b8be09468a76f1a882ad4dfa2bbe51008bd0f", func := "loop.example/g00855/laws.FnExactIsCorrectTable", spec := "fnExactIsCorrectTable", unfollowed := true, recurses := true, apart := false }
def FnExactIsCorrectTableSaid : Prop := fnExactIsCorrectTableRow.holds Try.pinned (OpenSpec.ofChange fnExactIsCorrectTableSpec)

/-- ITS FALSE NEIGHBOUR: 'it returns false'. Refute it at one input. -/
def fnExactIsCorrectTableWrong : ChangeSpec := { name := "fnExactIsCorrectTable", fn := fun _ => fun
  | [d1, d2] => { results := [.lit (.bool false)], args := [d1, d2] }
  | _ => none }
def FnExactIsCorrectTableWrongFalsely : Prop := fnExactIsCorrectTableRow.holds Try.pinned (OpenSpec.ofChange fnExactIsCorrectTableWrong)

/-- 'laws.FnExactDescentWord': WHATEVER THE INPUT: true; the input reads as it did. -/
def fnExactDescentWordSpec : ChangeSpec := { name := "fnExactDescentWord", fn := fun _ => fun
  | [d1, d2, d3] => { results := [.lit (.bool true)], args := [d1, d2, d3] }
  | _ => none }
def fnExactDescentWordRow : OpenClaim := { program := "ytmilmbgnkpkmnaa", sum := "8495a1af5afeb6bf8be2d4c0728b8be09468a76f1a882ad4dfa2bbe51008bd0f", func := "loop.example/g00855/laws.FnExactDescentWord", spec := "fnExactDescentWord", unfollowed := true, recurses := true, apart := false }
def FnExactDescentWordSaid : Prop := fnExactDescentWordRow.holds Try.pinned (OpenSpec.ofChange fnExactDescentWordSpec)

/-- ITS FALSE NEIGHBOUR: 'it returns false'. Refute it at one input. -/
def fnExactDescentWordWrong : ChangeSpec := { name := "fnExactDescentWord", fn := fun _ => fun
  | [d1, d2, d3] => { results := [.lit (.bool false)], args := [d1, d2, d3] }
  | _ => none }
def FnExactDescentWordWrongFalsely : Prop := fnExactDescentWordRow.holds Try.pinned (OpenSpec.ofChange fnExactDescentWordWrong)

/-- 'laws.FnExactTableFaults': WHATEVER THE INPUT: true; the input reads as it did. -/
def fnExactTableFaultsSpec : ChangeSpec := { name := "fnExactTableFaults", fn := fun _ => fun
  | [d1, d2] => { results := [.lit (.bool true)], args := [d1, d2] }
  | _ => none }
def fnExactTableFaultsRow : OpenClaim := { program := "ytmilmbgnkpkmnaa", sum := "8495a1af5afeb6bf8be2d4c0728b8be09468a76f1a882ad4dfa2bbe51008bd0f", func := "loop.example/g00855/laws.FnExactTableFaults", spec := "fnExactTableFaults", unfollowed := true, recurses := true, apart := false }
def FnExactTableFaultsSaid : Prop := fnExactTableFaultsRow.holds Try.pinned (OpenSpec.ofChange fnExactTableFaultsSpec)

/-- ITS FALSE NEIGHBOUR: 'it returns false'. Refute it at one input. -/
def fnExactTableFaultsWrong : ChangeSpec := { name := "fnExactTableFaults", fn := fun _ => fun
  | [d1, d2] => { results := [.lit (.bool false)], args := [d1, d2] }
  | _ => none }
def FnExactTableFaultsWrongFalsely : Prop := fnExactTableFaultsRow.holds Try.pinned (OpenSpec.ofChange fnExactTableFaultsWrong)

/- THE SECOND FORM. 'bulk': how many values and letters a reading holds, each counted each time it is reached (what is shared counts as often as it is met; a slice's spare places count too). A statement '..UptoSaid' is the law's where the arguments, and the package variables that the reading takes, are together of bulk at most 1048576: NARROWER than '..Said'. Prove '..Said' where nothing that the law and all that it calls make is longer than what came in: it says more and counts as full. Else prove '..UptoSaid'. A law counts once. -/
mutual
def uptoBulk {H : Type} : DataW H → Nat
  | .lit (.string bytes) => bytes.length + 1
  | .lit _ => 1
  | .nil => 1
  | .ptr d => uptoBulk d + 1
  | .slice elems spare => uptoBulkAll elems + uptoBulkAll spare + 1
  | .agg parts => uptoBulkAll parts + 1
  | .iface _ d => uptoBulk d + 1
  | .map entries => uptoBulkEntries entries + 1
  | .held _ => 1
def uptoBulkAll {H : Type} : List (DataW H) → Nat
  | [] => 0
  | d :: r => uptoBulk d + uptoBulkAll r
def uptoBulkEntries {H : Type} : List (Lit × DataW H) → Nat
  | [] => 0
  | x :: r => uptoBulkEntry x + uptoBulkEntries r
def uptoBulkEntry {H : Type} : Lit × DataW H → Nat
  | (.string bytes, d) => bytes.length + uptoBulk d + 1
  | (_, d) => uptoBulk d + 1
 end
def uptoSmall : (H : Type) → List (DataW H) → Bool := fun _ ds => decide (uptoBulkAll ds ≤ 1048576)
def OpenSpec.upto (s : _root_.Go.ChangeSpec) : _root_.Go.OpenSpec := { _root_.Go.OpenSpec.ofChange s with cond := some uptoSmall }

/-- 'laws.FnExactNewSession', WHERE WHAT IT READS IS OF BULK AT MOST 1048576: true; the input reads as it did. -/
def fnExactNewSessionUptoRow : OpenClaim := { program := "ytmilmbgnkpkmnaa", sum := "8495a1af5afeb6bf8be2d4c0728b8be09468a76f1a882ad4dfa2bbe51008bd0f", func := "loop.example/g00855/laws.FnExactNewSession", spec := "fnExactNewSession", unfollowed := true, recurses := true, apart := false, narrowed := true }
def FnExactNewSessionUptoSaid : Prop := fnExactNewSessionUptoRow.holds Try.pinned (OpenSpec.upto fnExactNewSessionSpec)

/-- 'laws.FnExactDescentLetter', WHERE WHAT IT READS IS OF BULK AT MOST 1048576: true; the input reads as it did. -/
def fnExactDescentLetterUptoRow : OpenClaim := { program := "ytmilmbgnkpkmnaa", sum := "8495a1af5afeb6bf8be2d4c0728b8be09468a76f1a882ad4dfa2bbe51008bd0f", func := "loop.example/g00855/laws.FnExactDescentLetter", spec := "fnExactDescentLetter", unfollowed := true, recurses := true, apart := false, narrowed := true }
def FnExactDescentLetterUptoSaid : Prop := fnExactDescentLetterUptoRow.holds Try.pinned (OpenSpec.upto fnExactDescentLetterSpec)

/-- 'laws.FnExactBuildTables', WHERE WHAT IT READS IS OF BULK AT MOST 1048576: true; the input reads as it did. -/
def fnExactBuildTablesUptoRow : OpenClaim := { program := "ytmilmbgnkpkmnaa", sum := "8495a1af5afeb6bf8be2d4c0728b8be09468a76f1a882ad4dfa2bbe51008bd0f", func := "loop.example/g00855/laws.FnExactBuildTables", spec := "fnExactBuildTables", unfollowed := true, recurses := true, apart := false, narrowed := true }
def FnExactBuildTablesUptoSaid : Prop := fnExactBuildTablesUptoRow.holds Try.pinned (OpenSpec.upto fnExactBuildTablesSpec)

/-- 'laws.FnExactIsAdmissibleTable', WHERE WHAT IT READS IS OF BULK AT MOST 1048576: true; the input reads as it did. -/
def fnExactIsAdmissibleTableUptoRow : OpenClaim := { program := "ytmilmbgnkpkmnaa", sum := "8495a1af5afeb6bf8be2d4c0728b8be09468a76f1a882ad4dfa2bbe51008bd0f", func := "loop.example/g00855/laws.FnExactIsAdmissibleTable", spec := "fnExactIsAdmissibleTable", unfollowed := true, recurses := true, apart := false, narrowed := true }
def FnExactIsAdmissibleTableUptoSaid : Prop := fnExactIsAdmissibleTableUptoRow.holds Try.pinned (OpenSpec.upto fnExactIsAdmissibleTableSpec)

/-- 'laws.FnExactIsCorrectTable', WHERE WHAT IT READS IS OF BULK AT MOST 1048576: true; the input reads as it did. -/
def fnExactIsCorrectTableUptoRow : OpenClaim := { program := "ytmilmbgnkpkmnaa", sum := "8495a1af5afeb6bf8be2d4c0728b8be09468a76f1a882ad4dfa2bbe51008bd0f", func := "loop.example/g00855/laws.FnExactIsCorrectTable", spec := "fnExactIsCorrectTable", unfollowed := true, recurses := true, apart := false, narrowed := true }
def FnExactIsCorrectTableUptoSaid : Prop := fnExactIsCorrectTableUptoRow.holds Try.pinned (OpenSpec.upto fnExactIsCorrectTableSpec)

/-- 'laws.FnExactDescentWord', WHERE WHAT IT READS IS OF BULK AT MOST 1048576: true; the input reads as it did. -/
def fnExactDescentWordUptoRow : OpenClaim := { program := "ytmilmbgnkpkmnaa", sum := "8495a1af5afeb6bf8be2d4c0728b8be09468a76f1a882ad4dfa2bbe51008bd0f", func := "loop.example/g00855/laws.FnExactDescentWord", spec := "fnExactDescentWord", unfollowed := true, recurses := true, apart := false, narrowed := true }
def FnExactDescentWordUptoSaid : Prop := fnExactDescentWordUptoRow.holds Try.pinned (OpenSpec.upto fnExactDescentWordSpec)

/-- 'laws.FnExactTableFaults', WHERE WHAT IT READS IS OF BULK AT MOST 1048576: true; the input reads as it did. -/
def fnExactTableFaultsUptoRow : OpenClaim := { program := "ytmilmbgnkpkmnaa", sum := "8495a1af5afeb6bf8be2d4c0728b8be09468a76f1a882ad4dfa2bbe51008bd0f", func := "loop.example/g00855/laws.FnExactTableFaults", spec := "fnExactTableFaults", unfollowed := true, recurses := true, apart := false, narrowed := true }
def FnExactTableFaultsUptoSaid : Prop := fnExactTableFaultsUptoRow.holds Try.pinned (OpenSpec.upto fnExactTableFaultsSpec)

end Rows
end Go.Proofs.Ytmilmbgnkpkmnaa
