/-
  No cell of these rows narrows 'for every input' (looked for: loops, veiled, ifaces, maps, wideKeys, modest, calm, conditions, laid).
  DERIVED. THE GIVEN ROWS OF THIS SEAT. 3 by the template 'for every input the law returns true; each argument reads behind the call as it read before'; 0 by the template 'total and deterministic' (their statements: YtlckloeeimilhaaTotals.lean).
  GIVEN WITH THE SEED: the statements are not yours to turn. If you find one false, say at which input.
  Laid BY PROGRAM, IN A SANDBOX (cutbox-rows.mjs): the forced cells as the released guide's own fill.sh prints them over the translation 134342086da7cd2d… (all of the seat's roots in one cut). By AI agents, Wed Nov 11 2026. No macro, syntax, notation, axiom, sorry.
-/
import Derived.Test.YtlckloeeimilhaaChecked
import GoSem.Claim
import GoSem.ClaimJoined
import GoSem.ClaimMapViews
import Derived.JoinedTies
import Derived.KernelRfl
namespace Go.Proofs.Ytlckloeeimilhaa
/- THE CELL 'sum', in the pinned program and in every row, IS THE sha256 OF THE DUMP (.gsa) THAT YtlckloeeimilhaaProg.lean LOADS. Nothing in Lean hashes anything: it is a label: what it is worth is what the hold of that sum in a sandbox is worth. -/
noncomputable def Try.pinned : Pinned := { name := "ytlckloeeimilhaa", sum := "134342086da7cd2d094724a96bb34d7cabe0368c08377bf7d3a584def6195e35", checked := Try.checked }
namespace Rows
def none {H : Type} : Left H := { results := [], args := [] }

/-- 'paddocklaw21.InputAll': WHATEVER THE INPUT: true; the input reads as it did. -/
def inputAllSpec : ChangeSpec := { name := "inputAll", fn := fun _ => fun
  | [d1, d2] => { results := [.lit (.bool true)], args := [d1, d2] }
  | _ => none }
def inputAllRow : OpenClaim := { program := "ytlckloeeimilhaa", sum := "134342086da7cd2d094724a96bb34d7cabe0368c08377bf7d3a584def6195e35", func := "paddock/paddocklaw21.InputAll", spec := "inputAll", inPlace := ["internal/bytealg.IndexByteString", "internal/bytealg.IndexString"], unfollowed := true, recurses := true, named := ["internal/bytealg.MaxLen"], apart := false }
def InputAllSaid : Prop := inputAllRow.holds Try.pinned (OpenSpec.ofChange inputAllSpec)

/-- ITS FALSE NEIGHBOUR: 'it returns false'. Refute it at one input. -/
def inputAllWrong : ChangeSpec := { name := "inputAll", fn := fun _ => fun
  | [d1, d2] => { results := [.lit (.bool false)], args := [d1, d2] }
  | _ => none }
def InputAllWrongFalsely : Prop := inputAllRow.holds Try.pinned (OpenSpec.ofChange inputAllWrong)

/-- 'paddocklaw21.InputTakes': WHATEVER THE INPUT: true; the input reads as it did. -/
def inputTakesSpec : ChangeSpec := { name := "inputTakes", fn := fun _ => fun
  | [d1, d2, d3] => { results := [.lit (.bool true)], args := [d1, d2, d3] }
  | _ => none }
def inputTakesRow : OpenClaim := { program := "ytlckloeeimilhaa", sum := "134342086da7cd2d094724a96bb34d7cabe0368c08377bf7d3a584def6195e35", func := "paddock/paddocklaw21.InputTakes", spec := "inputTakes", inPlace := ["internal/bytealg.IndexByteString", "internal/bytealg.IndexString"], unfollowed := true, recurses := true, named := ["internal/bytealg.MaxLen"], apart := false }
def InputTakesSaid : Prop := inputTakesRow.holds Try.pinned (OpenSpec.ofChange inputTakesSpec)

/-- ITS FALSE NEIGHBOUR: 'it returns false'. Refute it at one input. -/
def inputTakesWrong : ChangeSpec := { name := "inputTakes", fn := fun _ => fun
  | [d1, d2, d3] => { results := [.lit (.bool false)], args := [d1, d2, d3] }
  | _ => none }
def InputTakesWrongFalsely : Prop := inputTakesRow.holds Try.pinned (OpenSpec.ofChange inputTakesWrong)

/-- 'paddocklaw21.InputNil': WHATEVER THE INPUT: true; the input reads as it did. -/
def inputNilSpec : ChangeSpec := { name := "inputNil", fn := fun _ => fun
  | [d] => { results := [.lit (.bool true)], args := [d] }
  | _ => none }
def inputNilRow : OpenClaim := { program := "ytlckloeeimilhaa", sum := "134342086da7cd2d094724a96bb34d7cabe0368c08377bf7d3a584def6195e35", func := "paddock/paddocklaw21.InputNil", spec := "inputNil", inPlace := ["internal/bytealg.IndexByteString", "internal/bytealg.IndexString"], unfollowed := true, recurses := true, named := ["internal/bytealg.MaxLen"], apart := false }
def InputNilSaid : Prop := inputNilRow.holds Try.pinned (OpenSpec.ofChange inputNilSpec)

/-- ITS FALSE NEIGHBOUR: 'it returns false'. Refute it at one input. -/
def inputNilWrong : ChangeSpec := { name := "inputNil", fn := fun _ => fun
  | [d] => { results := [.lit (.bool false)], args := [d] }
  | _ => none }
def InputNilWrongFalsely : Prop := inputNilRow.holds Try.pinned (OpenSpec.ofChange inputNilWrong)

/- THE SECOND FORM. 'bulk': how many values and letters a reading holds, each counted each time it is reached (what is shared counts as often as it is met; a slice's spare places count too). A statement '..UptoSaid' is the law's where the arguments, and the package variables that the reading takes, are together of bulk at most 1048576: NARROWER than '..Said'. Prove '..Said' where nothing that the law and all that it calls make is longer than what came in: it says more and counts as full. Else prove '..UptoSaid'. A law counts once. -/
mutual
def uptoBulk {H : Type} : DataW H → Nat
  | .lit (.string bytes) => bytes.length + 1
  | .lit _ => 1
  | .nil => 1
  | .ptr d => uptoBulk d + 1
  | .slice elems spare => uptoBulkAll elems + uptoBulkAll spare + 1
  | .agg parts => uptoBulkAll parts + 1
  | .iface _ d => uptoBulk d + 1
  | .map entries => uptoBulkEntries entries + 1
  | .held _ => 1
def uptoBulkAll {H : Type} : List (DataW H) → Nat
  | [] => 0
  | d :: r => uptoBulk d + uptoBulkAll r
def uptoBulkEntries {H : Type} : List (Lit × DataW H) → Nat
  | [] => 0
  | x :: r => uptoBulkEntry x + uptoBulkEntries r
def uptoBulkEntry {H : Type} : Lit × DataW H → Nat
  | (.string bytes, d) => bytes.length + uptoBulk d + 1
  | (_, d) => uptoBulk d + 1
 end
def uptoSmall : (H : Type) → List (DataW H) → Bool := fun _ ds => decide (uptoBulkAll ds ≤ 1048576)
def OpenSpec.upto (s : _root_.Go.ChangeSpec) : _root_.Go.OpenSpec := { _root_.Go.OpenSpec.ofChange s with cond := some uptoSmall }

/-- 'paddocklaw21.InputAll', WHERE WHAT IT READS IS OF BULK AT MOST 1048576: true; the input reads as it did. -/
def inputAllUptoRow : OpenClaim := { program := "ytlckloeeimilhaa", sum := "134342086da7cd2d094724a96bb34d7cabe0368c08377bf7d3a584def6195e35", func := "paddock/paddocklaw21.InputAll", spec := "inputAll", inPlace := ["internal/bytealg.IndexByteString", "internal/bytealg.IndexString"], unfollowed := true, recurses := true, named := ["internal/bytealg.MaxLen"], apart := false, narrowed := true }
def InputAllUptoSaid : Prop := inputAllUptoRow.holds Try.pinned (OpenSpec.upto inputAllSpec)

/-- 'paddocklaw21.InputTakes', WHERE WHAT IT READS IS OF BULK AT MOST 1048576: true; the input reads as it did. -/
def inputTakesUptoRow : OpenClaim := { program := "ytlckloeeimilhaa", sum := "134342086da7cd2d094724a96bb34d7cabe0368c08377bf7d3a584def6195e35", func := "paddock/paddocklaw21.InputTakes", spec := "inputTakes", inPlace := ["internal/bytealg.IndexByteString", "internal/bytealg.IndexString"], unfollowed := true, recurses := true, named := ["internal/bytealg.MaxLen"], apart := false, narrowed := true }
def InputTakesUptoSaid : Prop := inputTakesUptoRow.holds Try.pinned (OpenSpec.upto inputTakesSpec)

/-- 'paddocklaw21.InputNil', WHERE WHAT IT READS IS OF BULK AT MOST 1048576: true; the input reads as it did. -/
def inputNilUptoRow : OpenClaim := { program := "ytlckloeeimilhaa", sum := "134342086da7cd2d094724a96bb34d7cabe0368c08377bf7d3a584def6195e35", func := "paddock/paddocklaw21.InputNil", spec := "inputNil", inPlace := ["internal/bytealg.IndexByteString", "internal/bytealg.IndexString"], unfollowed := true, recurses := true, named := ["internal/bytealg.MaxLen"], apart := false, narrowed := true }
def InputNilUptoSaid : Prop := inputNilUptoRow.holds Try.pinned (OpenSpec.upto inputNilSpec)

end Rows
end Go.Proofs.Ytlckloeeimilhaa
