/-
  DERIVED. GIVEN WITH THE SEED: THE CARDS: each row of YtpjmolnkmlpfeaaGreatDoorRows.lean that lists a variable, with what it lists TIED to the program's text (the seventh form; the later family's looks); each row that meets fmt, with fmt's text TOLD by the authors' own Lean function (tested against real Go, not proved from fmt's source: count such statements apart). THE CARD IS WHAT COUNTS. Prove the row's statement (the work); the ties are given (YtpjmolnkmlpfeaaGreatDoorTie.lean); close each card by the builder's one call (the guide's Derived/Test/ToyasCard.lean, 'card_holds'). Laid BY PROGRAM, IN A SANDBOX (cutbox-door.mjs). By AI agents, Wed Nov 11 2026. No macro, syntax, notation, axiom, sorry.
-/
import Derived.Test.YtpjmolnkmlpfeaaGreatDoorRows
import GoSem.ClaimSeven
namespace Go.Proofs.YtpjmolnkmlpfeaaGreatDoor
namespace Rows

/-- THE TIED CARD OF 'scrivenerlaw27.JudgeLong'. -/
def judgeLongCard : Claim7 := { stood := { row := judgeLongRow, standIns := [], harness := (true, "b4dd24c7d2ba8d2efe694377ad4b143e1bf99c43f7f4c5af9d9c635b1e598bc1"), looks := false }, kinds := [], alts := [], laidByText := true, laidKinds := [.sentinel], laidTests := true, laidLooks := .later }
def JudgeLongCardSaid : Prop := Claim7.holds Tryz.pinned (.plain (OpenSpec.ofChange judgeLongSpec)) judgeLongCard

/-- THE TIED CARD OF 'scrivenerlaw27.JudgeMade'. -/
def judgeMadeCard : Claim7 := { stood := { row := judgeMadeRow, standIns := [], harness := (true, "b4dd24c7d2ba8d2efe694377ad4b143e1bf99c43f7f4c5af9d9c635b1e598bc1"), looks := false }, kinds := [], alts := [], laidByText := true, laidKinds := [.sentinel], laidTests := true, laidLooks := .later }
def JudgeMadeCardSaid : Prop := Claim7.holds Tryz.pinned (.plain (OpenSpec.ofChange judgeMadeSpec)) judgeMadeCard

/-- THE TIED CARD OF 'scrivenerlaw27.JudgeSerial'. -/
def judgeSerialCard : Claim7 := { stood := { row := judgeSerialRow, standIns := [], harness := (true, "b4dd24c7d2ba8d2efe694377ad4b143e1bf99c43f7f4c5af9d9c635b1e598bc1"), looks := false }, kinds := [], alts := [], laidByText := true, laidKinds := [.sentinel], laidTests := true, laidLooks := .later }
def JudgeSerialCardSaid : Prop := Claim7.holds Tryz.pinned (.plain (OpenSpec.ofChange judgeSerialSpec)) judgeSerialCard

/-- THE TIED CARD OF 'scrivenerlaw27.JudgeNever'. -/
def judgeNeverCard : Claim7 := { stood := { row := judgeNeverRow, standIns := [], harness := (true, "b4dd24c7d2ba8d2efe694377ad4b143e1bf99c43f7f4c5af9d9c635b1e598bc1"), looks := false }, kinds := [], alts := [], laidByText := true, laidKinds := [.sentinel], laidTests := true, laidLooks := .later }
def JudgeNeverCardSaid : Prop := Claim7.holds Tryz.pinned (.plain (OpenSpec.ofChange judgeNeverSpec)) judgeNeverCard

/-- THE TIED CARD OF 'scrivenerlaw27.JudgePrefix'. -/
def judgePrefixCard : Claim7 := { stood := { row := judgePrefixRow, standIns := [], harness := (true, "b4dd24c7d2ba8d2efe694377ad4b143e1bf99c43f7f4c5af9d9c635b1e598bc1"), looks := false }, kinds := [], alts := [], laidByText := true, laidKinds := [.sentinel], laidTests := true, laidLooks := .later }
def JudgePrefixCardSaid : Prop := Claim7.holds Tryz.pinned (.plain (OpenSpec.ofChange judgePrefixSpec)) judgePrefixCard

/-- THE TIED CARD OF 'scrivenerlaw27.JudgeDoes'. -/
def judgeDoesCard : Claim7 := { stood := { row := judgeDoesRow, standIns := [], harness := (true, "b4dd24c7d2ba8d2efe694377ad4b143e1bf99c43f7f4c5af9d9c635b1e598bc1"), looks := false }, kinds := [], alts := [], laidByText := true, laidKinds := [.sentinel], laidTests := true, laidLooks := .later }
def JudgeDoesCardSaid : Prop := Claim7.holds Tryz.pinned (.plain (OpenSpec.ofChange judgeDoesSpec)) judgeDoesCard

/-- THE SECOND FORM's CARD OF 'scrivenerlaw27.JudgeLong'. -/
def judgeLongUptoCard : Claim7 := { stood := { row := judgeLongUptoRow, standIns := [], harness := (true, "b4dd24c7d2ba8d2efe694377ad4b143e1bf99c43f7f4c5af9d9c635b1e598bc1"), looks := false }, kinds := [], alts := [], laidByText := true, laidKinds := [.sentinel], laidTests := true, laidLooks := .later }
def JudgeLongUptoCardSaid : Prop := Claim7.holds Tryz.pinned (.plain (OpenSpec.upto judgeLongSpec)) judgeLongUptoCard

/-- THE SECOND FORM's CARD OF 'scrivenerlaw27.JudgeMade'. -/
def judgeMadeUptoCard : Claim7 := { stood := { row := judgeMadeUptoRow, standIns := [], harness := (true, "b4dd24c7d2ba8d2efe694377ad4b143e1bf99c43f7f4c5af9d9c635b1e598bc1"), looks := false }, kinds := [], alts := [], laidByText := true, laidKinds := [.sentinel], laidTests := true, laidLooks := .later }
def JudgeMadeUptoCardSaid : Prop := Claim7.holds Tryz.pinned (.plain (OpenSpec.upto judgeMadeSpec)) judgeMadeUptoCard

/-- THE SECOND FORM's CARD OF 'scrivenerlaw27.JudgeSerial'. -/
def judgeSerialUptoCard : Claim7 := { stood := { row := judgeSerialUptoRow, standIns := [], harness := (true, "b4dd24c7d2ba8d2efe694377ad4b143e1bf99c43f7f4c5af9d9c635b1e598bc1"), looks := false }, kinds := [], alts := [], laidByText := true, laidKinds := [.sentinel], laidTests := true, laidLooks := .later }
def JudgeSerialUptoCardSaid : Prop := Claim7.holds Tryz.pinned (.plain (OpenSpec.upto judgeSerialSpec)) judgeSerialUptoCard

/-- THE SECOND FORM's CARD OF 'scrivenerlaw27.JudgeNever'. -/
def judgeNeverUptoCard : Claim7 := { stood := { row := judgeNeverUptoRow, standIns := [], harness := (true, "b4dd24c7d2ba8d2efe694377ad4b143e1bf99c43f7f4c5af9d9c635b1e598bc1"), looks := false }, kinds := [], alts := [], laidByText := true, laidKinds := [.sentinel], laidTests := true, laidLooks := .later }
def JudgeNeverUptoCardSaid : Prop := Claim7.holds Tryz.pinned (.plain (OpenSpec.upto judgeNeverSpec)) judgeNeverUptoCard

/-- THE SECOND FORM's CARD OF 'scrivenerlaw27.JudgePrefix'. -/
def judgePrefixUptoCard : Claim7 := { stood := { row := judgePrefixUptoRow, standIns := [], harness := (true, "b4dd24c7d2ba8d2efe694377ad4b143e1bf99c43f7f4c5af9d9c635b1e598bc1"), looks := false }, kinds := [], alts := [], laidByText := true, laidKinds := [.sentinel], laidTests := true, laidLooks := .later }
def JudgePrefixUptoCardSaid : Prop := Claim7.holds Tryz.pinned (.plain (OpenSpec.upto judgePrefixSpec)) judgePrefixUptoCard

/-- THE SECOND FORM's CARD OF 'scrivenerlaw27.JudgeDoes'. -/
def judgeDoesUptoCard : Claim7 := { stood := { row := judgeDoesUptoRow, standIns := [], harness := (true, "b4dd24c7d2ba8d2efe694377ad4b143e1bf99c43f7f4c5af9d9c635b1e598bc1"), looks := false }, kinds := [], alts := [], laidByText := true, laidKinds := [.sentinel], laidTests := true, laidLooks := .later }
def JudgeDoesUptoCardSaid : Prop := Claim7.holds Tryz.pinned (.plain (OpenSpec.upto judgeDoesSpec)) judgeDoesUptoCard
end Rows
end Go.Proofs.YtpjmolnkmlpfeaaGreatDoor
