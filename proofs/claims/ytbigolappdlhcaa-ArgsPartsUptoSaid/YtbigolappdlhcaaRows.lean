/-
  No cell of these rows narrows 'for every input' (looked for: loops, veiled, ifaces, maps, wideKeys, modest, calm, conditions, laid).
  DERIVED. THE GIVEN ROWS OF THIS SEAT. 9 by the template 'for every input the law returns true; each argument reads behind the call as it read before'; 0 by the template 'total and deterministic' (their statements: YtbigolappdlhcaaTotals.lean).
  GIVEN WITH THE SEED: the statements are not yours to turn. If you find one false, say at which input.
  Laid BY PROGRAM, IN A SANDBOX (cutbox-rows.mjs): the forced cells as the released guide's own fill.sh prints them over the translation 78ea75419a1bb8d3… (all of the seat's roots in one cut). By AI agents, Wed Nov 11 2026. No macro, syntax, notation, axiom, sorry.
-/
import Derived.Test.YtbigolappdlhcaaChecked
import GoSem.Claim
import GoSem.ClaimJoined
import GoSem.ClaimMapViews
import Derived.JoinedTies
import Derived.KernelRfl
namespace Go.Proofs.Ytbigolappdlhcaa
/- THE CELL 'sum', in the pinned program and in every row, IS THE sha256 OF THE DUMP (.gsa) THAT YtbigolappdlhcaaProg.lean LOADS. Nothing in Lean hashes anything: it is a label: what it is worth is what the hold of that sum in a sandbox is worth. -/
noncomputable def Try.pinned : Pinned := { name := "ytbigolappdlhcaa", sum := "78ea75419a1bb8d348717b2d9d3eb54d8c38622fe8ae5d6ecd9263c55f306957", checked := Try.checked }
namespace Rows
def none {H : Type} : Left H := { results := [], args := [] }

/-- 'paddocklaw26.ArgsPrints': WHATEVER THE INPUT: true; the input reads as it did. -/
def argsPrintsSpec : ChangeSpec := { name := "argsPrints", fn := fun _ => fun
  | [d1, d2] => { results := [.lit (.bool true)], args := [d1, d2] }
  | _ => none }
def argsPrintsRow : OpenClaim := { program := "ytbigolappdlhcaa", sum := "78ea75419a1bb8d348717b2d9d3eb54d8c38622fe8ae5d6ecd9263c55f306957", func := "paddock/paddocklaw26.ArgsPrints", spec := "argsPrints", inPlace := ["internal/bytealg.IndexByteString", "internal/bytealg.IndexString"], unfollowed := true, recurses := true, named := ["internal/bytealg.MaxLen"], apart := false }
def ArgsPrintsSaid : Prop := argsPrintsRow.holds Try.pinned (OpenSpec.ofChange argsPrintsSpec)

/-- ITS FALSE NEIGHBOUR: 'it returns false'. Refute it at one input. -/
def argsPrintsWrong : ChangeSpec := { name := "argsPrints", fn := fun _ => fun
  | [d1, d2] => { results := [.lit (.bool false)], args := [d1, d2] }
  | _ => none }
def ArgsPrintsWrongFalsely : Prop := argsPrintsRow.holds Try.pinned (OpenSpec.ofChange argsPrintsWrong)

/-- 'paddocklaw26.ArgsReads': WHATEVER THE INPUT: true; the input reads as it did. -/
def argsReadsSpec : ChangeSpec := { name := "argsReads", fn := fun _ => fun
  | [d] => { results := [.lit (.bool true)], args := [d] }
  | _ => none }
def argsReadsRow : OpenClaim := { program := "ytbigolappdlhcaa", sum := "78ea75419a1bb8d348717b2d9d3eb54d8c38622fe8ae5d6ecd9263c55f306957", func := "paddock/paddocklaw26.ArgsReads", spec := "argsReads", inPlace := ["internal/bytealg.IndexByteString", "internal/bytealg.IndexString"], unfollowed := true, recurses := true, named := ["internal/bytealg.MaxLen"], apart := false }
def ArgsReadsSaid : Prop := argsReadsRow.holds Try.pinned (OpenSpec.ofChange argsReadsSpec)

/-- ITS FALSE NEIGHBOUR: 'it returns false'. Refute it at one input. -/
def argsReadsWrong : ChangeSpec := { name := "argsReads", fn := fun _ => fun
  | [d] => { results := [.lit (.bool false)], args := [d] }
  | _ => none }
def ArgsReadsWrongFalsely : Prop := argsReadsRow.holds Try.pinned (OpenSpec.ofChange argsReadsWrong)

/-- 'paddocklaw26.ArgsBack': WHATEVER THE INPUT: true; the input reads as it did. -/
def argsBackSpec : ChangeSpec := { name := "argsBack", fn := fun _ => fun
  | [d1, d2] => { results := [.lit (.bool true)], args := [d1, d2] }
  | _ => none }
def argsBackRow : OpenClaim := { program := "ytbigolappdlhcaa", sum := "78ea75419a1bb8d348717b2d9d3eb54d8c38622fe8ae5d6ecd9263c55f306957", func := "paddock/paddocklaw26.ArgsBack", spec := "argsBack", inPlace := ["internal/bytealg.IndexByteString", "internal/bytealg.IndexString"], unfollowed := true, recurses := true, named := ["internal/bytealg.MaxLen"], apart := false }
def ArgsBackSaid : Prop := argsBackRow.holds Try.pinned (OpenSpec.ofChange argsBackSpec)

/-- ITS FALSE NEIGHBOUR: 'it returns false'. Refute it at one input. -/
def argsBackWrong : ChangeSpec := { name := "argsBack", fn := fun _ => fun
  | [d1, d2] => { results := [.lit (.bool false)], args := [d1, d2] }
  | _ => none }
def ArgsBackWrongFalsely : Prop := argsBackRow.holds Try.pinned (OpenSpec.ofChange argsBackWrong)

/-- 'paddocklaw26.ArgsLetters': WHATEVER THE INPUT: true; the input reads as it did. -/
def argsLettersSpec : ChangeSpec := { name := "argsLetters", fn := fun _ => fun
  | [d1, d2] => { results := [.lit (.bool true)], args := [d1, d2] }
  | _ => none }
def argsLettersRow : OpenClaim := { program := "ytbigolappdlhcaa", sum := "78ea75419a1bb8d348717b2d9d3eb54d8c38622fe8ae5d6ecd9263c55f306957", func := "paddock/paddocklaw26.ArgsLetters", spec := "argsLetters", inPlace := ["internal/bytealg.IndexByteString", "internal/bytealg.IndexString"], unfollowed := true, recurses := true, named := ["internal/bytealg.MaxLen"], apart := false }
def ArgsLettersSaid : Prop := argsLettersRow.holds Try.pinned (OpenSpec.ofChange argsLettersSpec)

/-- ITS FALSE NEIGHBOUR: 'it returns false'. Refute it at one input. -/
def argsLettersWrong : ChangeSpec := { name := "argsLetters", fn := fun _ => fun
  | [d1, d2] => { results := [.lit (.bool false)], args := [d1, d2] }
  | _ => none }
def ArgsLettersWrongFalsely : Prop := argsLettersRow.holds Try.pinned (OpenSpec.ofChange argsLettersWrong)

/-- 'paddocklaw26.ArgsNames': WHATEVER THE INPUT: true; the input reads as it did. -/
def argsNamesSpec : ChangeSpec := { name := "argsNames", fn := fun _ => fun
  | [d1, d2] => { results := [.lit (.bool true)], args := [d1, d2] }
  | _ => none }
def argsNamesRow : OpenClaim := { program := "ytbigolappdlhcaa", sum := "78ea75419a1bb8d348717b2d9d3eb54d8c38622fe8ae5d6ecd9263c55f306957", func := "paddock/paddocklaw26.ArgsNames", spec := "argsNames", inPlace := ["internal/bytealg.IndexByteString", "internal/bytealg.IndexString"], unfollowed := true, recurses := true, named := ["internal/bytealg.MaxLen"], apart := false }
def ArgsNamesSaid : Prop := argsNamesRow.holds Try.pinned (OpenSpec.ofChange argsNamesSpec)

/-- ITS FALSE NEIGHBOUR: 'it returns false'. Refute it at one input. -/
def argsNamesWrong : ChangeSpec := { name := "argsNames", fn := fun _ => fun
  | [d1, d2] => { results := [.lit (.bool false)], args := [d1, d2] }
  | _ => none }
def ArgsNamesWrongFalsely : Prop := argsNamesRow.holds Try.pinned (OpenSpec.ofChange argsNamesWrong)

/-- 'paddocklaw26.ArgsValues': WHATEVER THE INPUT: true; the input reads as it did. -/
def argsValuesSpec : ChangeSpec := { name := "argsValues", fn := fun _ => fun
  | [d1, d2, d3] => { results := [.lit (.bool true)], args := [d1, d2, d3] }
  | _ => none }
def argsValuesRow : OpenClaim := { program := "ytbigolappdlhcaa", sum := "78ea75419a1bb8d348717b2d9d3eb54d8c38622fe8ae5d6ecd9263c55f306957", func := "paddock/paddocklaw26.ArgsValues", spec := "argsValues", inPlace := ["internal/bytealg.IndexByteString", "internal/bytealg.IndexString"], unfollowed := true, recurses := true, named := ["internal/bytealg.MaxLen"], apart := false }
def ArgsValuesSaid : Prop := argsValuesRow.holds Try.pinned (OpenSpec.ofChange argsValuesSpec)

/-- ITS FALSE NEIGHBOUR: 'it returns false'. Refute it at one input. -/
def argsValuesWrong : ChangeSpec := { name := "argsValues", fn := fun _ => fun
  | [d1, d2, d3] => { results := [.lit (.bool false)], args := [d1, d2, d3] }
  | _ => none }
def ArgsValuesWrongFalsely : Prop := argsValuesRow.holds Try.pinned (OpenSpec.ofChange argsValuesWrong)

/-- 'paddocklaw26.ArgsOwn': WHATEVER THE INPUT: true; the input reads as it did. -/
def argsOwnSpec : ChangeSpec := { name := "argsOwn", fn := fun _ => fun
  | [d] => { results := [.lit (.bool true)], args := [d] }
  | _ => none }
def argsOwnRow : OpenClaim := { program := "ytbigolappdlhcaa", sum := "78ea75419a1bb8d348717b2d9d3eb54d8c38622fe8ae5d6ecd9263c55f306957", func := "paddock/paddocklaw26.ArgsOwn", spec := "argsOwn", inPlace := ["internal/bytealg.IndexByteString", "internal/bytealg.IndexString"], unfollowed := true, recurses := true, named := ["internal/bytealg.MaxLen"], apart := false }
def ArgsOwnSaid : Prop := argsOwnRow.holds Try.pinned (OpenSpec.ofChange argsOwnSpec)

/-- ITS FALSE NEIGHBOUR: 'it returns false'. Refute it at one input. -/
def argsOwnWrong : ChangeSpec := { name := "argsOwn", fn := fun _ => fun
  | [d] => { results := [.lit (.bool false)], args := [d] }
  | _ => none }
def ArgsOwnWrongFalsely : Prop := argsOwnRow.holds Try.pinned (OpenSpec.ofChange argsOwnWrong)

/-- 'paddocklaw26.ArgsScripts': WHATEVER THE INPUT: true; the input reads as it did. -/
def argsScriptsSpec : ChangeSpec := { name := "argsScripts", fn := fun _ => fun
  | [d1, d2] => { results := [.lit (.bool true)], args := [d1, d2] }
  | _ => none }
def argsScriptsRow : OpenClaim := { program := "ytbigolappdlhcaa", sum := "78ea75419a1bb8d348717b2d9d3eb54d8c38622fe8ae5d6ecd9263c55f306957", func := "paddock/paddocklaw26.ArgsScripts", spec := "argsScripts", inPlace := ["internal/abi.NoEscape", "internal/bytealg.MakeNoZero", "internal/bytealg.IndexByteString", "internal/bytealg.IndexString"], unfollowed := true, recurses := true, named := ["internal/bytealg.MaxLen"], apart := false }
def ArgsScriptsSaid : Prop := argsScriptsRow.holds Try.pinned (OpenSpec.ofChange argsScriptsSpec)

/-- ITS FALSE NEIGHBOUR: 'it returns false'. Refute it at one input. -/
def argsScriptsWrong : ChangeSpec := { name := "argsScripts", fn := fun _ => fun
  | [d1, d2] => { results := [.lit (.bool false)], args := [d1, d2] }
  | _ => none }
def ArgsScriptsWrongFalsely : Prop := argsScriptsRow.holds Try.pinned (OpenSpec.ofChange argsScriptsWrong)

/-- 'paddocklaw26.ArgsParts': WHATEVER THE INPUT: true; the input reads as it did. -/
def argsPartsSpec : ChangeSpec := { name := "argsParts", fn := fun _ => fun
  | [d1, d2] => { results := [.lit (.bool true)], args := [d1, d2] }
  | _ => none }
def argsPartsRow : OpenClaim := { program := "ytbigolappdlhcaa", sum := "78ea75419a1bb8d348717b2d9d3eb54d8c38622fe8ae5d6ecd9263c55f306957", func := "paddock/paddocklaw26.ArgsParts", spec := "argsParts", inPlace := ["internal/bytealg.IndexByteString", "internal/bytealg.IndexString", "internal/abi.NoEscape", "internal/bytealg.MakeNoZero"], unfollowed := true, recurses := true, named := ["internal/bytealg.MaxLen"], apart := false }
def ArgsPartsSaid : Prop := argsPartsRow.holds Try.pinned (OpenSpec.ofChange argsPartsSpec)

/-- ITS FALSE NEIGHBOUR: 'it returns false'. Refute it at one input. -/
def argsPartsWrong : ChangeSpec := { name := "argsParts", fn := fun _ => fun
  | [d1, d2] => { results := [.lit (.bool false)], args := [d1, d2] }
  | _ => none }
def ArgsPartsWrongFalsely : Prop := argsPartsRow.holds Try.pinned (OpenSpec.ofChange argsPartsWrong)

/- THE SECOND FORM. 'bulk': how many values and letters a reading holds, each counted each time it is reached (what is shared counts as often as it is met; a slice's spare places count too). A statement '..UptoSaid' is the law's where the arguments, and the package variables that the reading takes, are together of bulk at most 1048576: NARROWER than '..Said'. Prove '..Said' where nothing that the law and all that it calls make is longer than what came in: it says more and counts as full. Else prove '..UptoSaid'. A law counts once. -/
mutual
def uptoBulk {H : Type} : DataW H → Nat
  | .lit (.string bytes) => bytes.length + 1
  | .lit _ => 1
  | .nil => 1
  | .ptr d => uptoBulk d + 1
  | .slice elems spare => uptoBulkAll elems + uptoBulkAll spare + 1
  | .agg parts => uptoBulkAll parts + 1
  | .iface _ d => uptoBulk d + 1
  | .map entries => uptoBulkEntries entries + 1
  | .held _ => 1
def uptoBulkAll {H : Type} : List (DataW H) → Nat
  | [] => 0
  | d :: r => uptoBulk d + uptoBulkAll r
def uptoBulkEntries {H : Type} : List (Lit × DataW H) → Nat
  | [] => 0
  | x :: r => uptoBulkEntry x + uptoBulkEntries r
def uptoBulkEntry {H : Type} : Lit × DataW H → Nat
  | (.string bytes, d) => bytes.length + uptoBulk d + 1
  | (_, d) => uptoBulk d + 1
 end
def uptoSmall : (H : Type) → List (DataW H) → Bool := fun _ ds => decide (uptoBulkAll ds ≤ 1048576)
def OpenSpec.upto (s : _root_.Go.ChangeSpec) : _root_.Go.OpenSpec := { _root_.Go.OpenSpec.ofChange s with cond := some uptoSmall }

/-- 'paddocklaw26.ArgsPrints', WHERE WHAT IT READS IS OF BULK AT MOST 1048576: true; the input reads as it did. -/
def argsPrintsUptoRow : OpenClaim := { program := "ytbigolappdlhcaa", sum := "78ea75419a1bb8d348717b2d9d3eb54d8c38622fe8ae5d6ecd9263c55f306957", func := "paddock/paddocklaw26.ArgsPrints", spec := "argsPrints", inPlace := ["internal/bytealg.IndexByteString", "internal/bytealg.IndexString"], unfollowed := true, recurses := true, named := ["internal/bytealg.MaxLen"], apart := false, narrowed := true }
def ArgsPrintsUptoSaid : Prop := argsPrintsUptoRow.holds Try.pinned (OpenSpec.upto argsPrintsSpec)

/-- 'paddocklaw26.ArgsReads', WHERE WHAT IT READS IS OF BULK AT MOST 1048576: true; the input reads as it did. -/
def argsReadsUptoRow : OpenClaim := { program := "ytbigolappdlhcaa", sum := "78ea75419a1bb8d348717b2d9d3eb54d8c38622fe8ae5d6ecd9263c55f306957", func := "paddock/paddocklaw26.ArgsReads", spec := "argsReads", inPlace := ["internal/bytealg.IndexByteString", "internal/bytealg.IndexString"], unfollowed := true, recurses := true, named := ["internal/bytealg.MaxLen"], apart := false, narrowed := true }
def ArgsReadsUptoSaid : Prop := argsReadsUptoRow.holds Try.pinned (OpenSpec.upto argsReadsSpec)

/-- 'paddocklaw26.ArgsBack', WHERE WHAT IT READS IS OF BULK AT MOST 1048576: true; the input reads as it did. -/
def argsBackUptoRow : OpenClaim := { program := "ytbigolappdlhcaa", sum := "78ea75419a1bb8d348717b2d9d3eb54d8c38622fe8ae5d6ecd9263c55f306957", func := "paddock/paddocklaw26.ArgsBack", spec := "argsBack", inPlace := ["internal/bytealg.IndexByteString", "internal/bytealg.IndexString"], unfollowed := true, recurses := true, named := ["internal/bytealg.MaxLen"], apart := false, narrowed := true }
def ArgsBackUptoSaid : Prop := argsBackUptoRow.holds Try.pinned (OpenSpec.upto argsBackSpec)

/-- 'paddocklaw26.ArgsLetters', WHERE WHAT IT READS IS OF BULK AT MOST 1048576: true; the input reads as it did. -/
def argsLettersUptoRow : OpenClaim := { program := "ytbigolappdlhcaa", sum := "78ea75419a1bb8d348717b2d9d3eb54d8c38622fe8ae5d6ecd9263c55f306957", func := "paddock/paddocklaw26.ArgsLetters", spec := "argsLetters", inPlace := ["internal/bytealg.IndexByteString", "internal/bytealg.IndexString"], unfollowed := true, recurses := true, named := ["internal/bytealg.MaxLen"], apart := false, narrowed := true }
def ArgsLettersUptoSaid : Prop := argsLettersUptoRow.holds Try.pinned (OpenSpec.upto argsLettersSpec)

/-- 'paddocklaw26.ArgsNames', WHERE WHAT IT READS IS OF BULK AT MOST 1048576: true; the input reads as it did. -/
def argsNamesUptoRow : OpenClaim := { program := "ytbigolappdlhcaa", sum := "78ea75419a1bb8d348717b2d9d3eb54d8c38622fe8ae5d6ecd9263c55f306957", func := "paddock/paddocklaw26.ArgsNames", spec := "argsNames", inPlace := ["internal/bytealg.IndexByteString", "internal/bytealg.IndexString"], unfollowed := true, recurses := true, named := ["internal/bytealg.MaxLen"], apart := false, narrowed := true }
def ArgsNamesUptoSaid : Prop := argsNamesUptoRow.holds Try.pinned (OpenSpec.upto argsNamesSpec)

/-- 'paddocklaw26.ArgsValues', WHERE WHAT IT READS IS OF BULK AT MOST 1048576: true; the input reads as it did. -/
def argsValuesUptoRow : OpenClaim := { program := "ytbigolappdlhcaa", sum := "78ea75419a1bb8d348717b2d9d3eb54d8c38622fe8ae5d6ecd9263c55f306957", func := "paddock/paddocklaw26.ArgsValues", spec := "argsValues", inPlace := ["internal/bytealg.IndexByteString", "internal/bytealg.IndexString"], unfollowed := true, recurses := true, named := ["internal/bytealg.MaxLen"], apart := false, narrowed := true }
def ArgsValuesUptoSaid : Prop := argsValuesUptoRow.holds Try.pinned (OpenSpec.upto argsValuesSpec)

/-- 'paddocklaw26.ArgsOwn', WHERE WHAT IT READS IS OF BULK AT MOST 1048576: true; the input reads as it did. -/
def argsOwnUptoRow : OpenClaim := { program := "ytbigolappdlhcaa", sum := "78ea75419a1bb8d348717b2d9d3eb54d8c38622fe8ae5d6ecd9263c55f306957", func := "paddock/paddocklaw26.ArgsOwn", spec := "argsOwn", inPlace := ["internal/bytealg.IndexByteString", "internal/bytealg.IndexString"], unfollowed := true, recurses := true, named := ["internal/bytealg.MaxLen"], apart := false, narrowed := true }
def ArgsOwnUptoSaid : Prop := argsOwnUptoRow.holds Try.pinned (OpenSpec.upto argsOwnSpec)

/-- 'paddocklaw26.ArgsScripts', WHERE WHAT IT READS IS OF BULK AT MOST 1048576: true; the input reads as it did. -/
def argsScriptsUptoRow : OpenClaim := { program := "ytbigolappdlhcaa", sum := "78ea75419a1bb8d348717b2d9d3eb54d8c38622fe8ae5d6ecd9263c55f306957", func := "paddock/paddocklaw26.ArgsScripts", spec := "argsScripts", inPlace := ["internal/abi.NoEscape", "internal/bytealg.MakeNoZero", "internal/bytealg.IndexByteString", "internal/bytealg.IndexString"], unfollowed := true, recurses := true, named := ["internal/bytealg.MaxLen"], apart := false, narrowed := true }
def ArgsScriptsUptoSaid : Prop := argsScriptsUptoRow.holds Try.pinned (OpenSpec.upto argsScriptsSpec)

/-- 'paddocklaw26.ArgsParts', WHERE WHAT IT READS IS OF BULK AT MOST 1048576: true; the input reads as it did. -/
def argsPartsUptoRow : OpenClaim := { program := "ytbigolappdlhcaa", sum := "78ea75419a1bb8d348717b2d9d3eb54d8c38622fe8ae5d6ecd9263c55f306957", func := "paddock/paddocklaw26.ArgsParts", spec := "argsParts", inPlace := ["internal/bytealg.IndexByteString", "internal/bytealg.IndexString", "internal/abi.NoEscape", "internal/bytealg.MakeNoZero"], unfollowed := true, recurses := true, named := ["internal/bytealg.MaxLen"], apart := false, narrowed := true }
def ArgsPartsUptoSaid : Prop := argsPartsUptoRow.holds Try.pinned (OpenSpec.upto argsPartsSpec)

end Rows
end Go.Proofs.Ytbigolappdlhcaa
