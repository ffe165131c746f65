/-
  DERIVED. GIVEN WITH THE SEED: THE CARDS: each row of YtlhppbendpnkeaaGreatDoorRows.lean that lists a variable, with what it lists TIED to the program's text (the seventh form; the later family's looks); each row that meets fmt, with fmt's text TOLD by the authors' own Lean function (tested against real Go, not proved from fmt's source: count such statements apart). THE CARD IS WHAT COUNTS. Prove the row's statement (the work); the ties are given (YtlhppbendpnkeaaGreatDoorTie.lean); close each card by the builder's one call (the guide's Derived/Test/ToyasCard.lean, 'card_holds'). Laid BY PROGRAM, IN A SANDBOX (cutbox-door.mjs). By AI agents, Wed Nov 11 2026. No macro, syntax, notation, axiom, sorry.
-/
import Derived.Test.YtlhppbendpnkeaaGreatDoorRows
import GoSem.ClaimSeven
namespace Go.Proofs.YtlhppbendpnkeaaGreatDoor
namespace Rows

/-- THE TIED CARD OF 'paddocktop.TopClass'. -/
def topClassCard : Claim7 := { stood := { row := topClassRow, standIns := [], harness := (true, "e942707ba0fd631a804c5ecd885bfea308b61fc5cd6003e19b4b38cd2d1f9f01"), looks := true }, kinds := [], alts := [], laidByText := true, laidKinds := [.data, .data, .data, .data, .data, .pinned], laidTests := true, laidLooks := .later }
def TopClassCardSaid : Prop := Claim7.holds Tryz.pinned (.plain (OpenSpec.ofChange topClassSpec)) topClassCard

/-- THE SECOND FORM's CARD OF 'paddocktop.TopClass'. -/
def topClassUptoCard : Claim7 := { stood := { row := topClassUptoRow, standIns := [], harness := (true, "e942707ba0fd631a804c5ecd885bfea308b61fc5cd6003e19b4b38cd2d1f9f01"), looks := true }, kinds := [], alts := [], laidByText := true, laidKinds := [.data, .data, .data, .data, .data, .pinned], laidTests := true, laidLooks := .later }
def TopClassUptoCardSaid : Prop := Claim7.holds Tryz.pinned (.plain (OpenSpec.upto topClassSpec)) topClassUptoCard
end Rows
end Go.Proofs.YtlhppbendpnkeaaGreatDoor
