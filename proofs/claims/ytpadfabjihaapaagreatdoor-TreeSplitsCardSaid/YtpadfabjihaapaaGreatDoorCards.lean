/-
  DERIVED. GIVEN WITH THE SEED: THE CARDS: each row of YtpadfabjihaapaaGreatDoorRows.lean that lists a variable, with what it lists TIED to the program's text (the seventh form; the later family's looks); each row that meets fmt, with fmt's text TOLD by the authors' own Lean function (tested against real Go, not proved from fmt's source: count such statements apart). THE CARD IS WHAT COUNTS. Prove the row's statement (the work); the ties are given (YtpadfabjihaapaaGreatDoorTie.lean); close each card by the builder's one call (the guide's Derived/Test/ToyasCard.lean, 'card_holds'). Laid BY PROGRAM, IN A SANDBOX (cutbox-door.mjs). By AI agents, Wed Nov 11 2026. No macro, syntax, notation, axiom, sorry.
-/
import Derived.Test.YtpadfabjihaapaaGreatDoorRows
import GoSem.ClaimSeven
namespace Go.Proofs.YtpadfabjihaapaaGreatDoor
namespace Rows

/-- THE TIED CARD OF 'shipwrightlaw07.TreeSplits'. -/
def treeSplitsCard : Claim7 := { stood := { row := treeSplitsRow, standIns := [], harness := (true, "265a2f4411f1bf1bd7300877beff20e8d71a8552e3f5436d8d49b2d6170edeb1"), looks := false }, kinds := [], alts := [], laidByText := true, laidKinds := [.data, .data, .data, .pinned], laidTests := true, laidLooks := .later }
def TreeSplitsCardSaid : Prop := Claim7.holds Tryz.pinned (.plain (OpenSpec.ofChange treeSplitsSpec)) treeSplitsCard

/-- THE TIED CARD OF 'shipwrightlaw07.TreeDiffs'. -/
def treeDiffsCard : Claim7 := { stood := { row := treeDiffsRow, standIns := [], harness := (true, "265a2f4411f1bf1bd7300877beff20e8d71a8552e3f5436d8d49b2d6170edeb1"), looks := false }, kinds := [], alts := [], laidByText := true, laidKinds := [.data, .data, .data, .pinned], laidTests := true, laidLooks := .later }
def TreeDiffsCardSaid : Prop := Claim7.holds Tryz.pinned (.plain (OpenSpec.ofChange treeDiffsSpec)) treeDiffsCard

/-- THE TIED CARD OF 'shipwrightlaw07.TreeFiles'. -/
def treeFilesCard : Claim7 := { stood := { row := treeFilesRow, standIns := [], harness := (true, "265a2f4411f1bf1bd7300877beff20e8d71a8552e3f5436d8d49b2d6170edeb1"), looks := false }, kinds := [], alts := [], laidByText := true, laidKinds := [.data, .data, .data, .pinned], laidTests := true, laidLooks := .later }
def TreeFilesCardSaid : Prop := Claim7.holds Tryz.pinned (.plain (OpenSpec.ofChange treeFilesSpec)) treeFilesCard

/-- THE TIED CARD OF 'shipwrightlaw07.TreeTurns'. -/
def treeTurnsCard : Claim7 := { stood := { row := treeTurnsRow, standIns := [], harness := (true, "265a2f4411f1bf1bd7300877beff20e8d71a8552e3f5436d8d49b2d6170edeb1"), looks := false }, kinds := [], alts := [], laidByText := true, laidKinds := [.data, .data, .data, .pinned], laidTests := true, laidLooks := .later }
def TreeTurnsCardSaid : Prop := Claim7.holds Tryz.pinned (.plain (OpenSpec.ofChange treeTurnsSpec)) treeTurnsCard

/-- THE SECOND FORM's CARD OF 'shipwrightlaw07.TreeSplits'. -/
def treeSplitsUptoCard : Claim7 := { stood := { row := treeSplitsUptoRow, standIns := [], harness := (true, "265a2f4411f1bf1bd7300877beff20e8d71a8552e3f5436d8d49b2d6170edeb1"), looks := false }, kinds := [], alts := [], laidByText := true, laidKinds := [.data, .data, .data, .pinned], laidTests := true, laidLooks := .later }
def TreeSplitsUptoCardSaid : Prop := Claim7.holds Tryz.pinned (.plain (OpenSpec.upto treeSplitsSpec)) treeSplitsUptoCard

/-- THE SECOND FORM's CARD OF 'shipwrightlaw07.TreeDiffs'. -/
def treeDiffsUptoCard : Claim7 := { stood := { row := treeDiffsUptoRow, standIns := [], harness := (true, "265a2f4411f1bf1bd7300877beff20e8d71a8552e3f5436d8d49b2d6170edeb1"), looks := false }, kinds := [], alts := [], laidByText := true, laidKinds := [.data, .data, .data, .pinned], laidTests := true, laidLooks := .later }
def TreeDiffsUptoCardSaid : Prop := Claim7.holds Tryz.pinned (.plain (OpenSpec.upto treeDiffsSpec)) treeDiffsUptoCard

/-- THE SECOND FORM's CARD OF 'shipwrightlaw07.TreeFiles'. -/
def treeFilesUptoCard : Claim7 := { stood := { row := treeFilesUptoRow, standIns := [], harness := (true, "265a2f4411f1bf1bd7300877beff20e8d71a8552e3f5436d8d49b2d6170edeb1"), looks := false }, kinds := [], alts := [], laidByText := true, laidKinds := [.data, .data, .data, .pinned], laidTests := true, laidLooks := .later }
def TreeFilesUptoCardSaid : Prop := Claim7.holds Tryz.pinned (.plain (OpenSpec.upto treeFilesSpec)) treeFilesUptoCard

/-- THE SECOND FORM's CARD OF 'shipwrightlaw07.TreeTurns'. -/
def treeTurnsUptoCard : Claim7 := { stood := { row := treeTurnsUptoRow, standIns := [], harness := (true, "265a2f4411f1bf1bd7300877beff20e8d71a8552e3f5436d8d49b2d6170edeb1"), looks := false }, kinds := [], alts := [], laidByText := true, laidKinds := [.data, .data, .data, .pinned], laidTests := true, laidLooks := .later }
def TreeTurnsUptoCardSaid : Prop := Claim7.holds Tryz.pinned (.plain (OpenSpec.upto treeTurnsSpec)) treeTurnsUptoCard
end Rows
end Go.Proofs.YtpadfabjihaapaaGreatDoor
