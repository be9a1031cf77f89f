/-
  DERIVED. GIVEN WITH THE SEED: THE CARDS: each row of YtglcjdiejnennaaGreatDoorRows.lean that lists a variable, with what it lists TIED to the program's text (the seventh form; the later family's looks); each row that meets fmt, with fmt's text TOLD by the authors' own Lean function (tested against real Go, not proved from fmt's source: count such statements apart). THE CARD IS WHAT COUNTS. Prove the row's statement (the work); the ties are given (YtglcjdiejnennaaGreatDoorTie.lean); close each card by the builder's one call (the guide's Derived/Test/ToyasCard.lean, 'card_holds'). Laid BY PROGRAM, IN A SANDBOX (cutbox-door.mjs). By AI agents, Wed Nov 11 2026. No macro, syntax, notation, axiom, sorry.
-/
import Derived.Test.YtglcjdiejnennaaGreatDoorRows
import GoSem.ClaimSeven
namespace Go.Proofs.YtglcjdiejnennaaGreatDoor
namespace Rows

/-- THE TIED CARD OF 'shipwrightlaw09.RefsSound'. -/
def refsSoundCard : Claim7 := { stood := { row := refsSoundRow, standIns := [], harness := (true, "5cbe044443c84a601f88b4efde3c4b5483d717341fb4ba651c57c96e311e8f41"), looks := false }, kinds := [], alts := [], laidByText := true, laidKinds := [.data, .data, .data, .pinned], laidTests := true, laidLooks := .later }
def RefsSoundCardSaid : Prop := Claim7.holds Tryz.pinned (.plain (OpenSpec.ofChange refsSoundSpec)) refsSoundCard

/-- THE TIED CARD OF 'shipwrightlaw09.RefsMoves'. -/
def refsMovesCard : Claim7 := { stood := { row := refsMovesRow, standIns := [], harness := (true, "5cbe044443c84a601f88b4efde3c4b5483d717341fb4ba651c57c96e311e8f41"), looks := false }, kinds := [], alts := [], laidByText := true, laidKinds := [.data, .data, .data, .pinned], laidTests := true, laidLooks := .later }
def RefsMovesCardSaid : Prop := Claim7.holds Tryz.pinned (.plain (OpenSpec.ofChange refsMovesSpec)) refsMovesCard

/-- THE TIED CARD OF 'shipwrightlaw09.RefsHold'. -/
def refsHoldCard : Claim7 := { stood := { row := refsHoldRow, standIns := [], harness := (true, "5cbe044443c84a601f88b4efde3c4b5483d717341fb4ba651c57c96e311e8f41"), looks := false }, kinds := [], alts := [], laidByText := true, laidKinds := [.data, .data, .data, .pinned], laidTests := true, laidLooks := .later }
def RefsHoldCardSaid : Prop := Claim7.holds Tryz.pinned (.plain (OpenSpec.ofChange refsHoldSpec)) refsHoldCard

/-- THE SECOND FORM's CARD OF 'shipwrightlaw09.RefsSound'. -/
def refsSoundUptoCard : Claim7 := { stood := { row := refsSoundUptoRow, standIns := [], harness := (true, "5cbe044443c84a601f88b4efde3c4b5483d717341fb4ba651c57c96e311e8f41"), looks := false }, kinds := [], alts := [], laidByText := true, laidKinds := [.data, .data, .data, .pinned], laidTests := true, laidLooks := .later }
def RefsSoundUptoCardSaid : Prop := Claim7.holds Tryz.pinned (.plain (OpenSpec.upto refsSoundSpec)) refsSoundUptoCard

/-- THE SECOND FORM's CARD OF 'shipwrightlaw09.RefsMoves'. -/
def refsMovesUptoCard : Claim7 := { stood := { row := refsMovesUptoRow, standIns := [], harness := (true, "5cbe044443c84a601f88b4efde3c4b5483d717341fb4ba651c57c96e311e8f41"), looks := false }, kinds := [], alts := [], laidByText := true, laidKinds := [.data, .data, .data, .pinned], laidTests := true, laidLooks := .later }
def RefsMovesUptoCardSaid : Prop := Claim7.holds Tryz.pinned (.plain (OpenSpec.upto refsMovesSpec)) refsMovesUptoCard

/-- THE SECOND FORM's CARD OF 'shipwrightlaw09.RefsHold'. -/
def refsHoldUptoCard : Claim7 := { stood := { row := refsHoldUptoRow, standIns := [], harness := (true, "5cbe044443c84a601f88b4efde3c4b5483d717341fb4ba651c57c96e311e8f41"), looks := false }, kinds := [], alts := [], laidByText := true, laidKinds := [.data, .data, .data, .pinned], laidTests := true, laidLooks := .later }
def RefsHoldUptoCardSaid : Prop := Claim7.holds Tryz.pinned (.plain (OpenSpec.upto refsHoldSpec)) refsHoldUptoCard
end Rows
end Go.Proofs.YtglcjdiejnennaaGreatDoor
