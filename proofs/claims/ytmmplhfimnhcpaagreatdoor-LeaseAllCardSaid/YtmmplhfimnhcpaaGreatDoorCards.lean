/-
  DERIVED. GIVEN WITH THE SEED: THE CARDS: each row of YtmmplhfimnhcpaaGreatDoorRows.lean that lists a variable, with what it lists TIED to the program's text (the seventh form; the later family's looks); each row that meets fmt, with fmt's text TOLD by the authors' own Lean function (tested against real Go, not proved from fmt's source: count such statements apart). THE CARD IS WHAT COUNTS. Prove the row's statement (the work); the ties are given (YtmmplhfimnhcpaaGreatDoorTie.lean); close each card by the builder's one call (the guide's Derived/Test/ToyasCard.lean, 'card_holds'). Laid BY PROGRAM, IN A SANDBOX (cutbox-door.mjs). By AI agents, Wed Nov 11 2026. No macro, syntax, notation, axiom, sorry.
-/
import Derived.Test.YtmmplhfimnhcpaaGreatDoorRows
import GoSem.ClaimSeven
namespace Go.Proofs.YtmmplhfimnhcpaaGreatDoor
namespace Rows

/-- THE TIED CARD OF 'pandectlaw18.DbNone'. -/
def dbNoneCard : Claim7 := { stood := { row := dbNoneRow, standIns := [], harness := (true, "067da6ad0366e017f0c7f385b001c94f161264bb5cf60a7714d0f77070022130"), looks := true }, kinds := [], alts := [], laidByText := true, laidKinds := [.data, .data, .data], laidTests := true, laidLooks := .later }
def DbNoneCardSaid : Prop := Claim7.holds Tryz.pinned (.plain (OpenSpec.ofChange dbNoneSpec)) dbNoneCard

/-- THE TIED CARD OF 'pandectlaw24.LeaseAll'. -/
def leaseAllCard : Claim7 := { stood := { row := leaseAllRow, standIns := [], harness := (true, "067da6ad0366e017f0c7f385b001c94f161264bb5cf60a7714d0f77070022130"), looks := true }, kinds := [], alts := [], laidByText := true, laidKinds := [.data, .data, .data], laidTests := true, laidLooks := .later }
def LeaseAllCardSaid : Prop := Claim7.holds Tryz.pinned (.plain (OpenSpec.ofChange leaseAllSpec)) leaseAllCard

/-- THE TIED CARD OF 'pandectlaw24.LeaseFiles'. -/
def leaseFilesCard : Claim7 := { stood := { row := leaseFilesRow, standIns := [], harness := (true, "067da6ad0366e017f0c7f385b001c94f161264bb5cf60a7714d0f77070022130"), looks := true }, kinds := [], alts := [], laidByText := true, laidKinds := [.data, .data, .data, .sentinel, .sentinel], laidTests := true, laidLooks := .later }
def LeaseFilesCardSaid : Prop := Claim7.holds Tryz.pinned (.plain (OpenSpec.ofChange leaseFilesSpec)) leaseFilesCard

/-- THE TIED CARD OF 'pandectlaw26.TrialKinds'. -/
def trialKindsCard : Claim7 := { stood := { row := trialKindsRow, standIns := [], harness := (true, "067da6ad0366e017f0c7f385b001c94f161264bb5cf60a7714d0f77070022130"), looks := true }, kinds := [], alts := [], laidByText := true, laidKinds := [.data, .data, .data, .sentinel, .sentinel], laidTests := true, laidLooks := .later }
def TrialKindsCardSaid : Prop := Claim7.holds Tryz.pinned (.plain (OpenSpec.ofChange trialKindsSpec)) trialKindsCard

/-- THE SECOND FORM's CARD OF 'pandectlaw18.DbNone'. -/
def dbNoneUptoCard : Claim7 := { stood := { row := dbNoneUptoRow, standIns := [], harness := (true, "067da6ad0366e017f0c7f385b001c94f161264bb5cf60a7714d0f77070022130"), looks := true }, kinds := [], alts := [], laidByText := true, laidKinds := [.data, .data, .data], laidTests := true, laidLooks := .later }
def DbNoneUptoCardSaid : Prop := Claim7.holds Tryz.pinned (.plain (OpenSpec.upto dbNoneSpec)) dbNoneUptoCard

/-- THE SECOND FORM's CARD OF 'pandectlaw24.LeaseAll'. -/
def leaseAllUptoCard : Claim7 := { stood := { row := leaseAllUptoRow, standIns := [], harness := (true, "067da6ad0366e017f0c7f385b001c94f161264bb5cf60a7714d0f77070022130"), looks := true }, kinds := [], alts := [], laidByText := true, laidKinds := [.data, .data, .data], laidTests := true, laidLooks := .later }
def LeaseAllUptoCardSaid : Prop := Claim7.holds Tryz.pinned (.plain (OpenSpec.upto leaseAllSpec)) leaseAllUptoCard

/-- THE SECOND FORM's CARD OF 'pandectlaw24.LeaseFiles'. -/
def leaseFilesUptoCard : Claim7 := { stood := { row := leaseFilesUptoRow, standIns := [], harness := (true, "067da6ad0366e017f0c7f385b001c94f161264bb5cf60a7714d0f77070022130"), looks := true }, kinds := [], alts := [], laidByText := true, laidKinds := [.data, .data, .data, .sentinel, .sentinel], laidTests := true, laidLooks := .later }
def LeaseFilesUptoCardSaid : Prop := Claim7.holds Tryz.pinned (.plain (OpenSpec.upto leaseFilesSpec)) leaseFilesUptoCard

/-- THE SECOND FORM's CARD OF 'pandectlaw26.TrialKinds'. -/
def trialKindsUptoCard : Claim7 := { stood := { row := trialKindsUptoRow, standIns := [], harness := (true, "067da6ad0366e017f0c7f385b001c94f161264bb5cf60a7714d0f77070022130"), looks := true }, kinds := [], alts := [], laidByText := true, laidKinds := [.data, .data, .data, .sentinel, .sentinel], laidTests := true, laidLooks := .later }
def TrialKindsUptoCardSaid : Prop := Claim7.holds Tryz.pinned (.plain (OpenSpec.upto trialKindsSpec)) trialKindsUptoCard
end Rows
end Go.Proofs.YtmmplhfimnhcpaaGreatDoor
