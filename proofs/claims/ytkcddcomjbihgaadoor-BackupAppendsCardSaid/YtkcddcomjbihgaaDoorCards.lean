/-
  DERIVED. GIVEN WITH THE SEED: THE CARDS: each row of YtkcddcomjbihgaaDoorRows.lean that lists a variable, with what it lists TIED to the program's text (the seventh form; the later family's looks); each row that meets fmt, with fmt's text TOLD by the authors' own Lean function (tested against real Go, not proved from fmt's source: count such statements apart). THE CARD IS WHAT COUNTS. Prove the row's statement (the work); the ties are given (YtkcddcomjbihgaaDoorTie.lean); close each card by the builder's one call (the guide's Derived/Test/ToyasCard.lean, 'card_holds'). Laid BY PROGRAM, IN A SANDBOX (cutbox-door.mjs). By AI agents, Wed Nov 11 2026. No macro, syntax, notation, axiom, sorry.
-/
import Derived.Test.YtkcddcomjbihgaaDoorRows
import GoSem.ClaimSeven
namespace Go.Proofs.YtkcddcomjbihgaaDoor
namespace Rows

/-- THE TIED CARD OF 'shipwrightlaw26.BackupNotes'. -/
def backupNotesCard : Claim7 := { stood := { row := backupNotesRow, standIns := [], harness := (true, "5b1e172343d2d56beef138a388979c64f7d094d08edfdae6746276ce3a4b06b3"), looks := false }, kinds := [], alts := [], laidByText := true, laidKinds := [.data, .data], laidTests := true, laidLooks := .later }
def BackupNotesCardSaid : Prop := Claim7.holds Tryd.pinned (.plain (OpenSpec.ofChange backupNotesSpec)) backupNotesCard

/-- THE TIED CARD OF 'shipwrightlaw26.BackupBack'. -/
def backupBackCard : Claim7 := { stood := { row := backupBackRow, standIns := [], harness := (true, "5b1e172343d2d56beef138a388979c64f7d094d08edfdae6746276ce3a4b06b3"), looks := false }, kinds := [], alts := [], laidByText := true, laidKinds := [.data, .data], laidTests := true, laidLooks := .later }
def BackupBackCardSaid : Prop := Claim7.holds Tryd.pinned (.plain (OpenSpec.ofChange backupBackSpec)) backupBackCard

/-- THE TIED CARD OF 'shipwrightlaw26.BackupAppends'. -/
def backupAppendsCard : Claim7 := { stood := { row := backupAppendsRow, standIns := [], harness := (true, "5b1e172343d2d56beef138a388979c64f7d094d08edfdae6746276ce3a4b06b3"), looks := false }, kinds := [], alts := [], laidByText := true, laidKinds := [.data, .data], laidTests := true, laidLooks := .later }
def BackupAppendsCardSaid : Prop := Claim7.holds Tryd.pinned (.plain (OpenSpec.ofChange backupAppendsSpec)) backupAppendsCard

/-- THE TIED CARD OF 'shipwrightlaw26.BackupCalm'. -/
def backupCalmCard : Claim7 := { stood := { row := backupCalmRow, standIns := [], harness := (true, "5b1e172343d2d56beef138a388979c64f7d094d08edfdae6746276ce3a4b06b3"), looks := false }, kinds := [], alts := [], laidByText := true, laidKinds := [.data, .data], laidTests := true, laidLooks := .later }
def BackupCalmCardSaid : Prop := Claim7.holds Tryd.pinned (.plain (OpenSpec.ofChange backupCalmSpec)) backupCalmCard

/-- THE TIED CARD OF 'shipwrightlaw26.BackupPeers'. -/
def backupPeersCard : Claim7 := { stood := { row := backupPeersRow, standIns := [], harness := (true, "5b1e172343d2d56beef138a388979c64f7d094d08edfdae6746276ce3a4b06b3"), looks := false }, kinds := [], alts := [], laidByText := true, laidKinds := [.data, .data], laidTests := true, laidLooks := .later }
def BackupPeersCardSaid : Prop := Claim7.holds Tryd.pinned (.plain (OpenSpec.ofChange backupPeersSpec)) backupPeersCard

/-- THE TIED CARD OF 'shipwrightlaw26.BackupKeeps'. -/
def backupKeepsCard : Claim7 := { stood := { row := backupKeepsRow, standIns := [], harness := (true, "5b1e172343d2d56beef138a388979c64f7d094d08edfdae6746276ce3a4b06b3"), looks := false }, kinds := [], alts := [], laidByText := true, laidKinds := [.data, .data], laidTests := true, laidLooks := .later }
def BackupKeepsCardSaid : Prop := Claim7.holds Tryd.pinned (.plain (OpenSpec.ofChange backupKeepsSpec)) backupKeepsCard

/-- THE SECOND FORM's CARD OF 'shipwrightlaw26.BackupNotes'. -/
def backupNotesUptoCard : Claim7 := { stood := { row := backupNotesUptoRow, standIns := [], harness := (true, "5b1e172343d2d56beef138a388979c64f7d094d08edfdae6746276ce3a4b06b3"), looks := false }, kinds := [], alts := [], laidByText := true, laidKinds := [.data, .data], laidTests := true, laidLooks := .later }
def BackupNotesUptoCardSaid : Prop := Claim7.holds Tryd.pinned (.plain (OpenSpec.upto backupNotesSpec)) backupNotesUptoCard

/-- THE SECOND FORM's CARD OF 'shipwrightlaw26.BackupBack'. -/
def backupBackUptoCard : Claim7 := { stood := { row := backupBackUptoRow, standIns := [], harness := (true, "5b1e172343d2d56beef138a388979c64f7d094d08edfdae6746276ce3a4b06b3"), looks := false }, kinds := [], alts := [], laidByText := true, laidKinds := [.data, .data], laidTests := true, laidLooks := .later }
def BackupBackUptoCardSaid : Prop := Claim7.holds Tryd.pinned (.plain (OpenSpec.upto backupBackSpec)) backupBackUptoCard

/-- THE SECOND FORM's CARD OF 'shipwrightlaw26.BackupAppends'. -/
def backupAppendsUptoCard : Claim7 := { stood := { row := backupAppendsUptoRow, standIns := [], harness := (true, "5b1e172343d2d56beef138a388979c64f7d094d08edfdae6746276ce3a4b06b3"), looks := false }, kinds := [], alts := [], laidByText := true, laidKinds := [.data, .data], laidTests := true, laidLooks := .later }
def BackupAppendsUptoCardSaid : Prop := Claim7.holds Tryd.pinned (.plain (OpenSpec.upto backupAppendsSpec)) backupAppendsUptoCard

/-- THE SECOND FORM's CARD OF 'shipwrightlaw26.BackupCalm'. -/
def backupCalmUptoCard : Claim7 := { stood := { row := backupCalmUptoRow, standIns := [], harness := (true, "5b1e172343d2d56beef138a388979c64f7d094d08edfdae6746276ce3a4b06b3"), looks := false }, kinds := [], alts := [], laidByText := true, laidKinds := [.data, .data], laidTests := true, laidLooks := .later }
def BackupCalmUptoCardSaid : Prop := Claim7.holds Tryd.pinned (.plain (OpenSpec.upto backupCalmSpec)) backupCalmUptoCard

/-- THE SECOND FORM's CARD OF 'shipwrightlaw26.BackupPeers'. -/
def backupPeersUptoCard : Claim7 := { stood := { row := backupPeersUptoRow, standIns := [], harness := (true, "5b1e172343d2d56beef138a388979c64f7d094d08edfdae6746276ce3a4b06b3"), looks := false }, kinds := [], alts := [], laidByText := true, laidKinds := [.data, .data], laidTests := true, laidLooks := .later }
def BackupPeersUptoCardSaid : Prop := Claim7.holds Tryd.pinned (.plain (OpenSpec.upto backupPeersSpec)) backupPeersUptoCard

/-- THE SECOND FORM's CARD OF 'shipwrightlaw26.BackupKeeps'. -/
def backupKeepsUptoCard : Claim7 := { stood := { row := backupKeepsUptoRow, standIns := [], harness := (true, "5b1e172343d2d56beef138a388979c64f7d094d08edfdae6746276ce3a4b06b3"), looks := false }, kinds := [], alts := [], laidByText := true, laidKinds := [.data, .data], laidTests := true, laidLooks := .later }
def BackupKeepsUptoCardSaid : Prop := Claim7.holds Tryd.pinned (.plain (OpenSpec.upto backupKeepsSpec)) backupKeepsUptoCard
end Rows
end Go.Proofs.YtkcddcomjbihgaaDoor
