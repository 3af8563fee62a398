/-
  DERIVED. GIVEN WITH THE SEED: THE CARDS: each row of YtmfoipjfnjmbiaaGreatDoorRows.lean that lists a variable, with what it lists TIED to the program's text (the seventh form; the later family's looks); each row that meets fmt, with fmt's text TOLD by the authors' own Lean function (tested against real Go, not proved from fmt's source: count such statements apart). THE CARD IS WHAT COUNTS. Prove the row's statement (the work); the ties are given (YtmfoipjfnjmbiaaGreatDoorTie.lean); close each card by the builder's one call (the guide's Derived/Test/ToyasCard.lean, 'card_holds'). Laid BY PROGRAM, IN A SANDBOX (cutbox-door.mjs). By AI agents, Wed Nov 11 2026. No macro, syntax, notation, axiom, sorry.
-/
import Derived.Test.YtmfoipjfnjmbiaaGreatDoorRows
import GoSem.ClaimSeven
namespace Go.Proofs.YtmfoipjfnjmbiaaGreatDoor
namespace Rows

/-- THE TIED CARD OF 'pandectlaw18.DbFirst'. -/
def dbFirstCard : Claim7 := { stood := { row := dbFirstRow, standIns := [], harness := (true, "c42432f33234fccb66ef333425bb0c8e722b2e2402cca124ac5a2b207615e3e9"), looks := true }, kinds := [], alts := [], laidByText := true, laidKinds := [.data, .data, .data], laidTests := true, laidLooks := .later }
def DbFirstCardSaid : Prop := Claim7.holds Tryz.pinned (.plain (OpenSpec.ofChange dbFirstSpec)) dbFirstCard

/-- THE SECOND FORM's CARD OF 'pandectlaw18.DbFirst'. -/
def dbFirstUptoCard : Claim7 := { stood := { row := dbFirstUptoRow, standIns := [], harness := (true, "c42432f33234fccb66ef333425bb0c8e722b2e2402cca124ac5a2b207615e3e9"), looks := true }, kinds := [], alts := [], laidByText := true, laidKinds := [.data, .data, .data], laidTests := true, laidLooks := .later }
def DbFirstUptoCardSaid : Prop := Claim7.holds Tryz.pinned (.plain (OpenSpec.upto dbFirstSpec)) dbFirstUptoCard
end Rows
end Go.Proofs.YtmfoipjfnjmbiaaGreatDoor
