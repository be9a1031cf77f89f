/-
  DERIVED. GIVEN WITH THE SEED: THE CARDS: each row of YtgcbkhmaabmdjaaDoorRows.lean that lists a variable, with what it lists TIED to the program's text (the seventh form; the later family's looks); each row that meets fmt, with fmt's text TOLD by the authors' own Lean function (tested against real Go, not proved from fmt's source: count such statements apart). THE CARD IS WHAT COUNTS. Prove the row's statement (the work); the ties are given (YtgcbkhmaabmdjaaDoorTie.lean); close each card by the builder's one call (the guide's Derived/Test/ToyasCard.lean, 'card_holds'). Laid BY PROGRAM, IN A SANDBOX (cutbox-door.mjs). By AI agents, Wed Nov 11 2026. No macro, syntax, notation, axiom, sorry.
-/
import Derived.Test.YtgcbkhmaabmdjaaDoorRows
import GoSem.ClaimSeven
namespace Go.Proofs.YtgcbkhmaabmdjaaDoor
namespace Rows

/-- THE TIED CARD OF 'shipwrightlaw18.EditApplies'. -/
def editAppliesCard : Claim7 := { stood := { row := editAppliesRow, standIns := [], harness := (true, "dad37f20f356ef30b875c9292f614d00bc55917eafbe74f9f0aff1e91c379f70"), looks := false }, kinds := [], alts := [], laidByText := true, laidKinds := [.data, .pinned], laidTests := true, laidLooks := .later }
def EditAppliesCardSaid : Prop := Claim7.holds Tryd.pinned (.plain (OpenSpec.ofChange editAppliesSpec)) editAppliesCard

/-- THE TIED CARD OF 'shipwrightlaw18.EditBack'. -/
def editBackCard : Claim7 := { stood := { row := editBackRow, standIns := [], harness := (true, "dad37f20f356ef30b875c9292f614d00bc55917eafbe74f9f0aff1e91c379f70"), looks := false }, kinds := [], alts := [], laidByText := true, laidKinds := [.data, .pinned], laidTests := true, laidLooks := .later }
def EditBackCardSaid : Prop := Claim7.holds Tryd.pinned (.plain (OpenSpec.ofChange editBackSpec)) editBackCard

/-- THE TIED CARD OF 'shipwrightlaw18.EditThen'. -/
def editThenCard : Claim7 := { stood := { row := editThenRow, standIns := [], harness := (true, "dad37f20f356ef30b875c9292f614d00bc55917eafbe74f9f0aff1e91c379f70"), looks := false }, kinds := [], alts := [], laidByText := true, laidKinds := [.data, .pinned], laidTests := true, laidLooks := .later }
def EditThenCardSaid : Prop := Claim7.holds Tryd.pinned (.plain (OpenSpec.ofChange editThenSpec)) editThenCard

/-- THE TIED CARD OF 'shipwrightlaw18.EditTogether'. -/
def editTogetherCard : Claim7 := { stood := { row := editTogetherRow, standIns := [], harness := (true, "dad37f20f356ef30b875c9292f614d00bc55917eafbe74f9f0aff1e91c379f70"), looks := false }, kinds := [], alts := [], laidByText := true, laidKinds := [.data, .pinned], laidTests := true, laidLooks := .later }
def EditTogetherCardSaid : Prop := Claim7.holds Tryd.pinned (.plain (OpenSpec.ofChange editTogetherSpec)) editTogetherCard

/-- THE SECOND FORM's CARD OF 'shipwrightlaw18.EditApplies'. -/
def editAppliesUptoCard : Claim7 := { stood := { row := editAppliesUptoRow, standIns := [], harness := (true, "dad37f20f356ef30b875c9292f614d00bc55917eafbe74f9f0aff1e91c379f70"), looks := false }, kinds := [], alts := [], laidByText := true, laidKinds := [.data, .pinned], laidTests := true, laidLooks := .later }
def EditAppliesUptoCardSaid : Prop := Claim7.holds Tryd.pinned (.plain (OpenSpec.upto editAppliesSpec)) editAppliesUptoCard

/-- THE SECOND FORM's CARD OF 'shipwrightlaw18.EditBack'. -/
def editBackUptoCard : Claim7 := { stood := { row := editBackUptoRow, standIns := [], harness := (true, "dad37f20f356ef30b875c9292f614d00bc55917eafbe74f9f0aff1e91c379f70"), looks := false }, kinds := [], alts := [], laidByText := true, laidKinds := [.data, .pinned], laidTests := true, laidLooks := .later }
def EditBackUptoCardSaid : Prop := Claim7.holds Tryd.pinned (.plain (OpenSpec.upto editBackSpec)) editBackUptoCard

/-- THE SECOND FORM's CARD OF 'shipwrightlaw18.EditThen'. -/
def editThenUptoCard : Claim7 := { stood := { row := editThenUptoRow, standIns := [], harness := (true, "dad37f20f356ef30b875c9292f614d00bc55917eafbe74f9f0aff1e91c379f70"), looks := false }, kinds := [], alts := [], laidByText := true, laidKinds := [.data, .pinned], laidTests := true, laidLooks := .later }
def EditThenUptoCardSaid : Prop := Claim7.holds Tryd.pinned (.plain (OpenSpec.upto editThenSpec)) editThenUptoCard

/-- THE SECOND FORM's CARD OF 'shipwrightlaw18.EditTogether'. -/
def editTogetherUptoCard : Claim7 := { stood := { row := editTogetherUptoRow, standIns := [], harness := (true, "dad37f20f356ef30b875c9292f614d00bc55917eafbe74f9f0aff1e91c379f70"), looks := false }, kinds := [], alts := [], laidByText := true, laidKinds := [.data, .pinned], laidTests := true, laidLooks := .later }
def EditTogetherUptoCardSaid : Prop := Claim7.holds Tryd.pinned (.plain (OpenSpec.upto editTogetherSpec)) editTogetherUptoCard
end Rows
end Go.Proofs.YtgcbkhmaabmdjaaDoor
