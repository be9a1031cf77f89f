/-
  DERIVED. GIVEN WITH THE SEED: THE CARDS: each row of YtpcpcjejdngllaaDoorRows.lean that lists a variable, with what it lists TIED to the program's text (the seventh form; the later family's looks); each row that meets fmt, with fmt's text TOLD by the authors' own Lean function (tested against real Go, not proved from fmt's source: count such statements apart). THE CARD IS WHAT COUNTS. Prove the row's statement (the work); the ties are given (YtpcpcjejdngllaaDoorTie.lean); close each card by the builder's one call (the guide's Derived/Test/ToyasCard.lean, 'card_holds'). Laid BY PROGRAM, IN A SANDBOX (cutbox-door.mjs). By AI agents, Wed Nov 11 2026. No macro, syntax, notation, axiom, sorry.
-/
import Derived.Test.YtpcpcjejdngllaaDoorRows
import GoSem.ClaimSeven
namespace Go.Proofs.YtpcpcjejdngllaaDoor
namespace Rows

/-- THE TIED CARD OF 'shipwrightlaw08.MergeMerges'. -/
def mergeMergesCard : Claim7 := { stood := { row := mergeMergesRow, standIns := [], harness := (true, "4e75c2b01c3107075779dc79a678b9ce39835df8b08482e61647974ceb5459c9"), looks := false }, kinds := [], alts := [], laidByText := true, laidKinds := [.data, .pinned], laidTests := true, laidLooks := .later }
def MergeMergesCardSaid : Prop := Claim7.holds Tryd.pinned (.plain (OpenSpec.ofChange mergeMergesSpec)) mergeMergesCard

/-- THE TIED CARD OF 'shipwrightlaw08.MergeChanged'. -/
def mergeChangedCard : Claim7 := { stood := { row := mergeChangedRow, standIns := [], harness := (true, "4e75c2b01c3107075779dc79a678b9ce39835df8b08482e61647974ceb5459c9"), looks := false }, kinds := [], alts := [], laidByText := true, laidKinds := [.data, .pinned], laidTests := true, laidLooks := .later }
def MergeChangedCardSaid : Prop := Claim7.holds Tryd.pinned (.plain (OpenSpec.ofChange mergeChangedSpec)) mergeChangedCard

/-- THE TIED CARD OF 'shipwrightlaw08.MergeSame'. -/
def mergeSameCard : Claim7 := { stood := { row := mergeSameRow, standIns := [], harness := (true, "4e75c2b01c3107075779dc79a678b9ce39835df8b08482e61647974ceb5459c9"), looks := false }, kinds := [], alts := [], laidByText := true, laidKinds := [.data, .pinned], laidTests := true, laidLooks := .later }
def MergeSameCardSaid : Prop := Claim7.holds Tryd.pinned (.plain (OpenSpec.ofChange mergeSameSpec)) mergeSameCard

/-- THE TIED CARD OF 'shipwrightlaw08.MergeSelf'. -/
def mergeSelfCard : Claim7 := { stood := { row := mergeSelfRow, standIns := [], harness := (true, "4e75c2b01c3107075779dc79a678b9ce39835df8b08482e61647974ceb5459c9"), looks := false }, kinds := [], alts := [], laidByText := true, laidKinds := [.data, .pinned], laidTests := true, laidLooks := .later }
def MergeSelfCardSaid : Prop := Claim7.holds Tryd.pinned (.plain (OpenSpec.ofChange mergeSelfSpec)) mergeSelfCard

/-- THE TIED CARD OF 'shipwrightlaw08.MergeTurned'. -/
def mergeTurnedCard : Claim7 := { stood := { row := mergeTurnedRow, standIns := [], harness := (true, "4e75c2b01c3107075779dc79a678b9ce39835df8b08482e61647974ceb5459c9"), looks := false }, kinds := [], alts := [], laidByText := true, laidKinds := [.data, .pinned], laidTests := true, laidLooks := .later }
def MergeTurnedCardSaid : Prop := Claim7.holds Tryd.pinned (.plain (OpenSpec.ofChange mergeTurnedSpec)) mergeTurnedCard

/-- THE TIED CARD OF 'shipwrightlaw08.MergeEach'. -/
def mergeEachCard : Claim7 := { stood := { row := mergeEachRow, standIns := [], harness := (true, "4e75c2b01c3107075779dc79a678b9ce39835df8b08482e61647974ceb5459c9"), looks := false }, kinds := [], alts := [], laidByText := true, laidKinds := [.data, .pinned], laidTests := true, laidLooks := .later }
def MergeEachCardSaid : Prop := Claim7.holds Tryd.pinned (.plain (OpenSpec.ofChange mergeEachSpec)) mergeEachCard

/-- THE TIED CARD OF 'shipwrightlaw08.MergeSettles'. -/
def mergeSettlesCard : Claim7 := { stood := { row := mergeSettlesRow, standIns := [], harness := (true, "4e75c2b01c3107075779dc79a678b9ce39835df8b08482e61647974ceb5459c9"), looks := false }, kinds := [], alts := [], laidByText := true, laidKinds := [.data, .pinned], laidTests := true, laidLooks := .later }
def MergeSettlesCardSaid : Prop := Claim7.holds Tryd.pinned (.plain (OpenSpec.ofChange mergeSettlesSpec)) mergeSettlesCard

/-- THE SECOND FORM's CARD OF 'shipwrightlaw08.MergeMerges'. -/
def mergeMergesUptoCard : Claim7 := { stood := { row := mergeMergesUptoRow, standIns := [], harness := (true, "4e75c2b01c3107075779dc79a678b9ce39835df8b08482e61647974ceb5459c9"), looks := false }, kinds := [], alts := [], laidByText := true, laidKinds := [.data, .pinned], laidTests := true, laidLooks := .later }
def MergeMergesUptoCardSaid : Prop := Claim7.holds Tryd.pinned (.plain (OpenSpec.upto mergeMergesSpec)) mergeMergesUptoCard

/-- THE SECOND FORM's CARD OF 'shipwrightlaw08.MergeChanged'. -/
def mergeChangedUptoCard : Claim7 := { stood := { row := mergeChangedUptoRow, standIns := [], harness := (true, "4e75c2b01c3107075779dc79a678b9ce39835df8b08482e61647974ceb5459c9"), looks := false }, kinds := [], alts := [], laidByText := true, laidKinds := [.data, .pinned], laidTests := true, laidLooks := .later }
def MergeChangedUptoCardSaid : Prop := Claim7.holds Tryd.pinned (.plain (OpenSpec.upto mergeChangedSpec)) mergeChangedUptoCard

/-- THE SECOND FORM's CARD OF 'shipwrightlaw08.MergeSame'. -/
def mergeSameUptoCard : Claim7 := { stood := { row := mergeSameUptoRow, standIns := [], harness := (true, "4e75c2b01c3107075779dc79a678b9ce39835df8b08482e61647974ceb5459c9"), looks := false }, kinds := [], alts := [], laidByText := true, laidKinds := [.data, .pinned], laidTests := true, laidLooks := .later }
def MergeSameUptoCardSaid : Prop := Claim7.holds Tryd.pinned (.plain (OpenSpec.upto mergeSameSpec)) mergeSameUptoCard

/-- THE SECOND FORM's CARD OF 'shipwrightlaw08.MergeSelf'. -/
def mergeSelfUptoCard : Claim7 := { stood := { row := mergeSelfUptoRow, standIns := [], harness := (true, "4e75c2b01c3107075779dc79a678b9ce39835df8b08482e61647974ceb5459c9"), looks := false }, kinds := [], alts := [], laidByText := true, laidKinds := [.data, .pinned], laidTests := true, laidLooks := .later }
def MergeSelfUptoCardSaid : Prop := Claim7.holds Tryd.pinned (.plain (OpenSpec.upto mergeSelfSpec)) mergeSelfUptoCard

/-- THE SECOND FORM's CARD OF 'shipwrightlaw08.MergeTurned'. -/
def mergeTurnedUptoCard : Claim7 := { stood := { row := mergeTurnedUptoRow, standIns := [], harness := (true, "4e75c2b01c3107075779dc79a678b9ce39835df8b08482e61647974ceb5459c9"), looks := false }, kinds := [], alts := [], laidByText := true, laidKinds := [.data, .pinned], laidTests := true, laidLooks := .later }
def MergeTurnedUptoCardSaid : Prop := Claim7.holds Tryd.pinned (.plain (OpenSpec.upto mergeTurnedSpec)) mergeTurnedUptoCard

/-- THE SECOND FORM's CARD OF 'shipwrightlaw08.MergeEach'. -/
def mergeEachUptoCard : Claim7 := { stood := { row := mergeEachUptoRow, standIns := [], harness := (true, "4e75c2b01c3107075779dc79a678b9ce39835df8b08482e61647974ceb5459c9"), looks := false }, kinds := [], alts := [], laidByText := true, laidKinds := [.data, .pinned], laidTests := true, laidLooks := .later }
def MergeEachUptoCardSaid : Prop := Claim7.holds Tryd.pinned (.plain (OpenSpec.upto mergeEachSpec)) mergeEachUptoCard

/-- THE SECOND FORM's CARD OF 'shipwrightlaw08.MergeSettles'. -/
def mergeSettlesUptoCard : Claim7 := { stood := { row := mergeSettlesUptoRow, standIns := [], harness := (true, "4e75c2b01c3107075779dc79a678b9ce39835df8b08482e61647974ceb5459c9"), looks := false }, kinds := [], alts := [], laidByText := true, laidKinds := [.data, .pinned], laidTests := true, laidLooks := .later }
def MergeSettlesUptoCardSaid : Prop := Claim7.holds Tryd.pinned (.plain (OpenSpec.upto mergeSettlesSpec)) mergeSettlesUptoCard
end Rows
end Go.Proofs.YtpcpcjejdngllaaDoor
