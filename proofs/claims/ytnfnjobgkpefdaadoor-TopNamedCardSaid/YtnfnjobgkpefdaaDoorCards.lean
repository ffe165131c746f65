/-
  DERIVED. GIVEN WITH THE SEED: THE CARDS: each row of YtnfnjobgkpefdaaDoorRows.lean that lists a variable, with what it lists TIED to the program's text (the seventh form; the later family's looks); each row that meets fmt, with fmt's text TOLD by the authors' own Lean function (tested against real Go, not proved from fmt's source: count such statements apart). THE CARD IS WHAT COUNTS. Prove the row's statement (the work); the ties are given (YtnfnjobgkpefdaaDoorTie.lean); close each card by the builder's one call (the guide's Derived/Test/ToyasCard.lean, 'card_holds'). Laid BY PROGRAM, IN A SANDBOX (cutbox-door.mjs). By AI agents, Wed Nov 11 2026. No macro, syntax, notation, axiom, sorry.
-/
import Derived.Test.YtnfnjobgkpefdaaDoorRows
import GoSem.ClaimSeven
namespace Go.Proofs.YtnfnjobgkpefdaaDoor
namespace Rows

/-- THE TIED CARD OF 'paddocktop.TopNamed'. -/
def topNamedCard : Claim7 := { stood := { row := topNamedRow, standIns := [], harness := (true, "81e669a1574c2710116cfb4b757cb3cd88e119e2b48874f84cd130479b4fb4bd"), looks := false }, kinds := [], alts := [], laidByText := true, laidKinds := [.data, .data, .pinned], laidTests := true, laidLooks := .later }
def TopNamedCardSaid : Prop := Claim7.holds Tryd.pinned (.plain (OpenSpec.ofChange topNamedSpec)) topNamedCard

/-- THE SECOND FORM's CARD OF 'paddocktop.TopNamed'. -/
def topNamedUptoCard : Claim7 := { stood := { row := topNamedUptoRow, standIns := [], harness := (true, "81e669a1574c2710116cfb4b757cb3cd88e119e2b48874f84cd130479b4fb4bd"), looks := false }, kinds := [], alts := [], laidByText := true, laidKinds := [.data, .data, .pinned], laidTests := true, laidLooks := .later }
def TopNamedUptoCardSaid : Prop := Claim7.holds Tryd.pinned (.plain (OpenSpec.upto topNamedSpec)) topNamedUptoCard
end Rows
end Go.Proofs.YtnfnjobgkpefdaaDoor
