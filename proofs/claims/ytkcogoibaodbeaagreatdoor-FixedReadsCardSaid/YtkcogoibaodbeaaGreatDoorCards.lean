/-
  DERIVED. GIVEN WITH THE SEED: THE CARDS: each row of YtkcogoibaodbeaaGreatDoorRows.lean that lists a variable, with what it lists TIED to the program's text (the seventh form; the later family's looks); each row that meets fmt, with fmt's text TOLD by the authors' own Lean function (tested against real Go, not proved from fmt's source: count such statements apart). THE CARD IS WHAT COUNTS. Prove the row's statement (the work); the ties are given (YtkcogoibaodbeaaGreatDoorTie.lean); close each card by the builder's one call (the guide's Derived/Test/ToyasCard.lean, 'card_holds'). Laid BY PROGRAM, IN A SANDBOX (cutbox-door.mjs). By AI agents, Wed Nov 11 2026. No macro, syntax, notation, axiom, sorry.
-/
import Derived.Test.YtkcogoibaodbeaaGreatDoorRows
import GoSem.ClaimSeven
namespace Go.Proofs.YtkcogoibaodbeaaGreatDoor
namespace Rows

/-- THE TIED CARD OF 'intermedelaw02.FixedReads'. -/
def fixedReadsCard : Claim7 := { stood := { row := fixedReadsRow, standIns := [], harness := (true, "37293c741c423f3005c5677b419c061d892e7ff5d3544ff497ed0c6f2a441767"), looks := false }, kinds := [], alts := [], laidByText := true, laidKinds := [.data, .pinned], laidTests := true, laidLooks := .later }
def FixedReadsCardSaid : Prop := Claim7.holds Tryz.pinned (.plain (OpenSpec.ofChange fixedReadsSpec)) fixedReadsCard

/-- THE SECOND FORM's CARD OF 'intermedelaw02.FixedReads'. -/
def fixedReadsUptoCard : Claim7 := { stood := { row := fixedReadsUptoRow, standIns := [], harness := (true, "37293c741c423f3005c5677b419c061d892e7ff5d3544ff497ed0c6f2a441767"), looks := false }, kinds := [], alts := [], laidByText := true, laidKinds := [.data, .pinned], laidTests := true, laidLooks := .later }
def FixedReadsUptoCardSaid : Prop := Claim7.holds Tryz.pinned (.plain (OpenSpec.upto fixedReadsSpec)) fixedReadsUptoCard
end Rows
end Go.Proofs.YtkcogoibaodbeaaGreatDoor
