/-
  No cell of these rows narrows 'for every input' (looked for: loops, veiled, ifaces, maps, wideKeys, modest, calm, conditions, laid).
  DERIVED. THE GIVEN ROWS OF THIS SEAT. 6 by the template 'for every input the law returns true; each argument reads behind the call as it read before'; 0 by the template 'total and deterministic' (their statements: YtbhepdlcnfcfgaaTotals.lean).
  GIVEN WITH THE SEED: the statements are not yours to turn. If you find one false, say at which input.
  Laid BY PROGRAM, IN A SANDBOX (cutbox-rows.mjs): the forced cells as the released guide's own fill.sh prints them over the translation 694848d00cf4707b… (all of the seat's roots in one cut). By AI agents, Wed Nov 11 2026. No macro, syntax, notation, axiom, sorry.
-/
import Derived.Test.YtbhepdlcnfcfgaaChecked
import GoSem.Claim
import GoSem.ClaimJoined
import GoSem.ClaimMapViews
import Derived.JoinedTies
import Derived.KernelRfl
namespace Go.Proofs.Ytbhepdlcnfcfgaa
/- THE CELL 'sum', in the pinned program and in every row, IS THE sha256 OF THE DUMP (.gsa) THAT YtbhepdlcnfcfgaaProg.lean LOADS. Nothing in Lean hashes anything: it is a label: what it is worth is what the hold of that sum in a sandbox is worth. -/
noncomputable def Try.pinned : Pinned := { name := "ytbhepdlcnfcfgaa", sum := "694848d00cf4707bfa3aa6d26d7b0db86d4b45bc8e75e187b8f362e80004d006", checked := Try.checked }
namespace Rows
def none {H : Type} : Left H := { results := [], args := [] }

/-- 'paddocklaw18.SpaceJoins': WHATEVER THE INPUT: true; the input reads as it did. -/
def spaceJoinsSpec : ChangeSpec := { name := "spaceJoins", fn := fun _ => fun
  | [d1, d2] => { results := [.lit (.bool true)], args := [d1, d2] }
  | _ => none }
def spaceJoinsRow : OpenClaim := { program := "ytbhepdlcnfcfgaa", sum := "694848d00cf4707bfa3aa6d26d7b0db86d4b45bc8e75e187b8f362e80004d006", func := "paddock/paddocklaw18.SpaceJoins", spec := "spaceJoins", unfollowed := true, recurses := true, apart := false }
def SpaceJoinsSaid : Prop := spaceJoinsRow.holds Try.pinned (OpenSpec.ofChange spaceJoinsSpec)

/-- ITS FALSE NEIGHBOUR: 'it returns false'. Refute it at one input. -/
def spaceJoinsWrong : ChangeSpec := { name := "spaceJoins", fn := fun _ => fun
  | [d1, d2] => { results := [.lit (.bool false)], args := [d1, d2] }
  | _ => none }
def SpaceJoinsWrongFalsely : Prop := spaceJoinsRow.holds Try.pinned (OpenSpec.ofChange spaceJoinsWrong)

/-- 'paddocklaw18.SpaceQueue': WHATEVER THE INPUT: true; the input reads as it did. -/
def spaceQueueSpec : ChangeSpec := { name := "spaceQueue", fn := fun _ => fun
  | [d] => { results := [.lit (.bool true)], args := [d] }
  | _ => none }
def spaceQueueRow : OpenClaim := { program := "ytbhepdlcnfcfgaa", sum := "694848d00cf4707bfa3aa6d26d7b0db86d4b45bc8e75e187b8f362e80004d006", func := "paddock/paddocklaw18.SpaceQueue", spec := "spaceQueue", unfollowed := true, recurses := true, apart := false }
def SpaceQueueSaid : Prop := spaceQueueRow.holds Try.pinned (OpenSpec.ofChange spaceQueueSpec)

/-- ITS FALSE NEIGHBOUR: 'it returns false'. Refute it at one input. -/
def spaceQueueWrong : ChangeSpec := { name := "spaceQueue", fn := fun _ => fun
  | [d] => { results := [.lit (.bool false)], args := [d] }
  | _ => none }
def SpaceQueueWrongFalsely : Prop := spaceQueueRow.holds Try.pinned (OpenSpec.ofChange spaceQueueWrong)

/-- 'paddocklaw18.SpaceLines': WHATEVER THE INPUT: true; the input reads as it did. -/
def spaceLinesSpec : ChangeSpec := { name := "spaceLines", fn := fun _ => fun
  | [d1, d2] => { results := [.lit (.bool true)], args := [d1, d2] }
  | _ => none }
def spaceLinesRow : OpenClaim := { program := "ytbhepdlcnfcfgaa", sum := "694848d00cf4707bfa3aa6d26d7b0db86d4b45bc8e75e187b8f362e80004d006", func := "paddock/paddocklaw18.SpaceLines", spec := "spaceLines", inPlace := ["internal/bytealg.IndexByteString", "internal/bytealg.IndexString"], unfollowed := true, recurses := true, named := ["internal/bytealg.MaxLen"], apart := false }
def SpaceLinesSaid : Prop := spaceLinesRow.holds Try.pinned (OpenSpec.ofChange spaceLinesSpec)

/-- ITS FALSE NEIGHBOUR: 'it returns false'. Refute it at one input. -/
def spaceLinesWrong : ChangeSpec := { name := "spaceLines", fn := fun _ => fun
  | [d1, d2] => { results := [.lit (.bool false)], args := [d1, d2] }
  | _ => none }
def SpaceLinesWrongFalsely : Prop := spaceLinesRow.holds Try.pinned (OpenSpec.ofChange spaceLinesWrong)

/-- 'paddocklaw18.SpaceQuota': WHATEVER THE INPUT: true; the input reads as it did. -/
def spaceQuotaSpec : ChangeSpec := { name := "spaceQuota", fn := fun _ => fun
  | [d1, d2] => { results := [.lit (.bool true)], args := [d1, d2] }
  | _ => none }
def spaceQuotaRow : OpenClaim := { program := "ytbhepdlcnfcfgaa", sum := "694848d00cf4707bfa3aa6d26d7b0db86d4b45bc8e75e187b8f362e80004d006", func := "paddock/paddocklaw18.SpaceQuota", spec := "spaceQuota", inPlace := ["internal/bytealg.IndexByteString", "internal/bytealg.IndexString"], unfollowed := true, recurses := true, named := ["internal/bytealg.MaxLen"], apart := false }
def SpaceQuotaSaid : Prop := spaceQuotaRow.holds Try.pinned (OpenSpec.ofChange spaceQuotaSpec)

/-- ITS FALSE NEIGHBOUR: 'it returns false'. Refute it at one input. -/
def spaceQuotaWrong : ChangeSpec := { name := "spaceQuota", fn := fun _ => fun
  | [d1, d2] => { results := [.lit (.bool false)], args := [d1, d2] }
  | _ => none }
def SpaceQuotaWrongFalsely : Prop := spaceQuotaRow.holds Try.pinned (OpenSpec.ofChange spaceQuotaWrong)

/-- 'paddocklaw18.SpaceSteps': WHATEVER THE INPUT: true; the input reads as it did. -/
def spaceStepsSpec : ChangeSpec := { name := "spaceSteps", fn := fun _ => fun
  | [d1, d2] => { results := [.lit (.bool true)], args := [d1, d2] }
  | _ => none }
def spaceStepsRow : OpenClaim := { program := "ytbhepdlcnfcfgaa", sum := "694848d00cf4707bfa3aa6d26d7b0db86d4b45bc8e75e187b8f362e80004d006", func := "paddock/paddocklaw18.SpaceSteps", spec := "spaceSteps", inPlace := ["internal/bytealg.IndexByteString", "internal/bytealg.IndexString"], unfollowed := true, recurses := true, named := ["internal/bytealg.MaxLen"], apart := false }
def SpaceStepsSaid : Prop := spaceStepsRow.holds Try.pinned (OpenSpec.ofChange spaceStepsSpec)

/-- ITS FALSE NEIGHBOUR: 'it returns false'. Refute it at one input. -/
def spaceStepsWrong : ChangeSpec := { name := "spaceSteps", fn := fun _ => fun
  | [d1, d2] => { results := [.lit (.bool false)], args := [d1, d2] }
  | _ => none }
def SpaceStepsWrongFalsely : Prop := spaceStepsRow.holds Try.pinned (OpenSpec.ofChange spaceStepsWrong)

/-- 'paddocklaw18.SpaceNil': WHATEVER THE INPUT: true; the input reads as it did. -/
def spaceNilSpec : ChangeSpec := { name := "spaceNil", fn := fun _ => fun
  | [d] => { results := [.lit (.bool true)], args := [d] }
  | _ => none }
def spaceNilRow : OpenClaim := { program := "ytbhepdlcnfcfgaa", sum := "694848d00cf4707bfa3aa6d26d7b0db86d4b45bc8e75e187b8f362e80004d006", func := "paddock/paddocklaw18.SpaceNil", spec := "spaceNil", inPlace := ["internal/bytealg.IndexByteString", "internal/bytealg.IndexString"], unfollowed := true, recurses := true, named := ["internal/bytealg.MaxLen"], apart := false }
def SpaceNilSaid : Prop := spaceNilRow.holds Try.pinned (OpenSpec.ofChange spaceNilSpec)

/-- ITS FALSE NEIGHBOUR: 'it returns false'. Refute it at one input. -/
def spaceNilWrong : ChangeSpec := { name := "spaceNil", fn := fun _ => fun
  | [d] => { results := [.lit (.bool false)], args := [d] }
  | _ => none }
def SpaceNilWrongFalsely : Prop := spaceNilRow.holds Try.pinned (OpenSpec.ofChange spaceNilWrong)

/- THE SECOND FORM. 'bulk': how many values and letters a reading holds, each counted each time it is reached (what is shared counts as often as it is met; a slice's spare places count too). A statement '..UptoSaid' is the law's where the arguments, and the package variables that the reading takes, are together of bulk at most 1048576: NARROWER than '..Said'. Prove '..Said' where nothing that the law and all that it calls make is longer than what came in: it says more and counts as full. Else prove '..UptoSaid'. A law counts once. -/
mutual
def uptoBulk {H : Type} : DataW H → Nat
  | .lit (.string bytes) => bytes.length + 1
  | .lit _ => 1
  | .nil => 1
  | .ptr d => uptoBulk d + 1
  | .slice elems spare => uptoBulkAll elems + uptoBulkAll spare + 1
  | .agg parts => uptoBulkAll parts + 1
  | .iface _ d => uptoBulk d + 1
  | .map entries => uptoBulkEntries entries + 1
  | .held _ => 1
def uptoBulkAll {H : Type} : List (DataW H) → Nat
  | [] => 0
  | d :: r => uptoBulk d + uptoBulkAll r
def uptoBulkEntries {H : Type} : List (Lit × DataW H) → Nat
  | [] => 0
  | x :: r => uptoBulkEntry x + uptoBulkEntries r
def uptoBulkEntry {H : Type} : Lit × DataW H → Nat
  | (.string bytes, d) => bytes.length + uptoBulk d + 1
  | (_, d) => uptoBulk d + 1
 end
def uptoSmall : (H : Type) → List (DataW H) → Bool := fun _ ds => decide (uptoBulkAll ds ≤ 1048576)
def OpenSpec.upto (s : _root_.Go.ChangeSpec) : _root_.Go.OpenSpec := { _root_.Go.OpenSpec.ofChange s with cond := some uptoSmall }

/-- 'paddocklaw18.SpaceJoins', WHERE WHAT IT READS IS OF BULK AT MOST 1048576: true; the input reads as it did. -/
def spaceJoinsUptoRow : OpenClaim := { program := "ytbhepdlcnfcfgaa", sum := "694848d00cf4707bfa3aa6d26d7b0db86d4b45bc8e75e187b8f362e80004d006", func := "paddock/paddocklaw18.SpaceJoins", spec := "spaceJoins", unfollowed := true, recurses := true, apart := false, narrowed := true }
def SpaceJoinsUptoSaid : Prop := spaceJoinsUptoRow.holds Try.pinned (OpenSpec.upto spaceJoinsSpec)

/-- 'paddocklaw18.SpaceQueue', WHERE WHAT IT READS IS OF BULK AT MOST 1048576: true; the input reads as it did. -/
def spaceQueueUptoRow : OpenClaim := { program := "ytbhepdlcnfcfgaa", sum := "694848d00cf4707bfa3aa6d26d7b0db86d4b45bc8e75e187b8f362e80004d006", func := "paddock/paddocklaw18.SpaceQueue", spec := "spaceQueue", unfollowed := true, recurses := true, apart := false, narrowed := true }
def SpaceQueueUptoSaid : Prop := spaceQueueUptoRow.holds Try.pinned (OpenSpec.upto spaceQueueSpec)

/-- 'paddocklaw18.SpaceLines', WHERE WHAT IT READS IS OF BULK AT MOST 1048576: true; the input reads as it did. -/
def spaceLinesUptoRow : OpenClaim := { program := "ytbhepdlcnfcfgaa", sum := "694848d00cf4707bfa3aa6d26d7b0db86d4b45bc8e75e187b8f362e80004d006", func := "paddock/paddocklaw18.SpaceLines", spec := "spaceLines", inPlace := ["internal/bytealg.IndexByteString", "internal/bytealg.IndexString"], unfollowed := true, recurses := true, named := ["internal/bytealg.MaxLen"], apart := false, narrowed := true }
def SpaceLinesUptoSaid : Prop := spaceLinesUptoRow.holds Try.pinned (OpenSpec.upto spaceLinesSpec)

/-- 'paddocklaw18.SpaceQuota', WHERE WHAT IT READS IS OF BULK AT MOST 1048576: true; the input reads as it did. -/
def spaceQuotaUptoRow : OpenClaim := { program := "ytbhepdlcnfcfgaa", sum := "694848d00cf4707bfa3aa6d26d7b0db86d4b45bc8e75e187b8f362e80004d006", func := "paddock/paddocklaw18.SpaceQuota", spec := "spaceQuota", inPlace := ["internal/bytealg.IndexByteString", "internal/bytealg.IndexString"], unfollowed := true, recurses := true, named := ["internal/bytealg.MaxLen"], apart := false, narrowed := true }
def SpaceQuotaUptoSaid : Prop := spaceQuotaUptoRow.holds Try.pinned (OpenSpec.upto spaceQuotaSpec)

/-- 'paddocklaw18.SpaceSteps', WHERE WHAT IT READS IS OF BULK AT MOST 1048576: true; the input reads as it did. -/
def spaceStepsUptoRow : OpenClaim := { program := "ytbhepdlcnfcfgaa", sum := "694848d00cf4707bfa3aa6d26d7b0db86d4b45bc8e75e187b8f362e80004d006", func := "paddock/paddocklaw18.SpaceSteps", spec := "spaceSteps", inPlace := ["internal/bytealg.IndexByteString", "internal/bytealg.IndexString"], unfollowed := true, recurses := true, named := ["internal/bytealg.MaxLen"], apart := false, narrowed := true }
def SpaceStepsUptoSaid : Prop := spaceStepsUptoRow.holds Try.pinned (OpenSpec.upto spaceStepsSpec)

/-- 'paddocklaw18.SpaceNil', WHERE WHAT IT READS IS OF BULK AT MOST 1048576: true; the input reads as it did. -/
def spaceNilUptoRow : OpenClaim := { program := "ytbhepdlcnfcfgaa", sum := "694848d00cf4707bfa3aa6d26d7b0db86d4b45bc8e75e187b8f362e80004d006", func := "paddock/paddocklaw18.SpaceNil", spec := "spaceNil", inPlace := ["internal/bytealg.IndexByteString", "internal/bytealg.IndexString"], unfollowed := true, recurses := true, named := ["internal/bytealg.MaxLen"], apart := false, narrowed := true }
def SpaceNilUptoSaid : Prop := spaceNilUptoRow.holds Try.pinned (OpenSpec.upto spaceNilSpec)

end Rows
end Go.Proofs.Ytbhepdlcnfcfgaa
