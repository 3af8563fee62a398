/-
  DERIVED. GIVEN WITH THE SEED: THE CARDS: each row of YtepchpbcgcebgaaGreatDoorRows.lean that lists a variable, with what it lists TIED to the program's text (the seventh form; the later family's looks); each row that meets fmt, with fmt's text TOLD by the authors' own Lean function (tested against real Go, not proved from fmt's source: count such statements apart). THE CARD IS WHAT COUNTS. Prove the row's statement (the work); the ties are given (YtepchpbcgcebgaaGreatDoorTie.lean); close each card by the builder's one call (the guide's Derived/Test/ToyasCard.lean, 'card_holds'). Laid BY PROGRAM, IN A SANDBOX (cutbox-door.mjs). By AI agents, Wed Nov 11 2026. No macro, syntax, notation, axiom, sorry.
-/
import Derived.Test.YtepchpbcgcebgaaGreatDoorRows
import GoSem.ClaimSeven
namespace Go.Proofs.YtepchpbcgcebgaaGreatDoor
namespace Rows

/-- THE TIED CARD OF 'pandectlaw19.ViewNone'. -/
def viewNoneCard : Claim7 := { stood := { row := viewNoneRow, standIns := [], harness := (true, "d5f792b79f29892c8c03f114cbaa20735152cd747defdaba7fbe753508aae800"), looks := true }, kinds := [], alts := [], laidByText := true, laidKinds := [.data, .data, .data], laidTests := true, laidLooks := .later }
def ViewNoneCardSaid : Prop := Claim7.holds Tryz.pinned (.plain (OpenSpec.ofChange viewNoneSpec)) viewNoneCard

/-- THE TIED CARD OF 'pandectlaw23.PackNone'. -/
def packNoneCard : Claim7 := { stood := { row := packNoneRow, standIns := [], harness := (true, "d5f792b79f29892c8c03f114cbaa20735152cd747defdaba7fbe753508aae800"), looks := true }, kinds := [], alts := [], laidByText := true, laidKinds := [.data, .data, .data, .sentinel, .sentinel], laidTests := true, laidLooks := .later }
def PackNoneCardSaid : Prop := Claim7.holds Tryz.pinned (.plain (OpenSpec.ofChange packNoneSpec)) packNoneCard

/-- THE TIED CARD OF 'pandectlaw26.TrialShut'. -/
def trialShutCard : Claim7 := { stood := { row := trialShutRow, standIns := [], harness := (true, "d5f792b79f29892c8c03f114cbaa20735152cd747defdaba7fbe753508aae800"), looks := true }, kinds := [], alts := [], laidByText := true, laidKinds := [.data, .data, .data, .sentinel, .sentinel], laidTests := true, laidLooks := .later }
def TrialShutCardSaid : Prop := Claim7.holds Tryz.pinned (.plain (OpenSpec.ofChange trialShutSpec)) trialShutCard

/-- THE TIED CARD OF 'pandectlaw27.PlayForms'. -/
def playFormsCard : Claim7 := { stood := { row := playFormsRow, standIns := [], harness := (true, "d5f792b79f29892c8c03f114cbaa20735152cd747defdaba7fbe753508aae800"), looks := true }, kinds := [], alts := [], laidByText := true, laidKinds := [.data, .data, .data, .sentinel, .sentinel], laidTests := true, laidLooks := .later }
def PlayFormsCardSaid : Prop := Claim7.holds Tryz.pinned (.plain (OpenSpec.ofChange playFormsSpec)) playFormsCard

/-- THE SECOND FORM's CARD OF 'pandectlaw19.ViewNone'. -/
def viewNoneUptoCard : Claim7 := { stood := { row := viewNoneUptoRow, standIns := [], harness := (true, "d5f792b79f29892c8c03f114cbaa20735152cd747defdaba7fbe753508aae800"), looks := true }, kinds := [], alts := [], laidByText := true, laidKinds := [.data, .data, .data], laidTests := true, laidLooks := .later }
def ViewNoneUptoCardSaid : Prop := Claim7.holds Tryz.pinned (.plain (OpenSpec.upto viewNoneSpec)) viewNoneUptoCard

/-- THE SECOND FORM's CARD OF 'pandectlaw23.PackNone'. -/
def packNoneUptoCard : Claim7 := { stood := { row := packNoneUptoRow, standIns := [], harness := (true, "d5f792b79f29892c8c03f114cbaa20735152cd747defdaba7fbe753508aae800"), looks := true }, kinds := [], alts := [], laidByText := true, laidKinds := [.data, .data, .data, .sentinel, .sentinel], laidTests := true, laidLooks := .later }
def PackNoneUptoCardSaid : Prop := Claim7.holds Tryz.pinned (.plain (OpenSpec.upto packNoneSpec)) packNoneUptoCard

/-- THE SECOND FORM's CARD OF 'pandectlaw26.TrialShut'. -/
def trialShutUptoCard : Claim7 := { stood := { row := trialShutUptoRow, standIns := [], harness := (true, "d5f792b79f29892c8c03f114cbaa20735152cd747defdaba7fbe753508aae800"), looks := true }, kinds := [], alts := [], laidByText := true, laidKinds := [.data, .data, .data, .sentinel, .sentinel], laidTests := true, laidLooks := .later }
def TrialShutUptoCardSaid : Prop := Claim7.holds Tryz.pinned (.plain (OpenSpec.upto trialShutSpec)) trialShutUptoCard

/-- THE SECOND FORM's CARD OF 'pandectlaw27.PlayForms'. -/
def playFormsUptoCard : Claim7 := { stood := { row := playFormsUptoRow, standIns := [], harness := (true, "d5f792b79f29892c8c03f114cbaa20735152cd747defdaba7fbe753508aae800"), looks := true }, kinds := [], alts := [], laidByText := true, laidKinds := [.data, .data, .data, .sentinel, .sentinel], laidTests := true, laidLooks := .later }
def PlayFormsUptoCardSaid : Prop := Claim7.holds Tryz.pinned (.plain (OpenSpec.upto playFormsSpec)) playFormsUptoCard
end Rows
end Go.Proofs.YtepchpbcgcebgaaGreatDoor
