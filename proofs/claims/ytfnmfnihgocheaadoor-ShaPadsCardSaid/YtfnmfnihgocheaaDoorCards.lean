/-
  DERIVED. GIVEN WITH THE SEED: THE CARDS: each row of YtfnmfnihgocheaaDoorRows.lean that lists a variable, with what it lists TIED to the program's text (the seventh form; the later family's looks); each row that meets fmt, with fmt's text TOLD by the authors' own Lean function (tested against real Go, not proved from fmt's source: count such statements apart). THE CARD IS WHAT COUNTS. Prove the row's statement (the work); the ties are given (YtfnmfnihgocheaaDoorTie.lean); close each card by the builder's one call (the guide's Derived/Test/ToyasCard.lean, 'card_holds'). Laid BY PROGRAM, IN A SANDBOX (cutbox-door.mjs). By AI agents, Wed Nov 11 2026. No macro, syntax, notation, axiom, sorry.
-/
import Derived.Test.YtfnmfnihgocheaaDoorRows
import GoSem.ClaimSeven
namespace Go.Proofs.YtfnmfnihgocheaaDoor
namespace Rows

/-- THE TIED CARD OF 'shipwrightlaw03.ShaSums'. -/
def shaSumsCard : Claim7 := { stood := { row := shaSumsRow, standIns := [], harness := (true, "99a2e4c3481b0efb91b319475a3716703ef690b9552cfe091d77fe47e0f65efb"), looks := false }, kinds := [], alts := [], laidByText := true, laidKinds := [.data, .data], laidTests := true, laidLooks := .later }
def ShaSumsCardSaid : Prop := Claim7.holds Tryd.pinned (.plain (OpenSpec.ofChange shaSumsSpec)) shaSumsCard

/-- THE TIED CARD OF 'shipwrightlaw03.ShaBlocks'. -/
def shaBlocksCard : Claim7 := { stood := { row := shaBlocksRow, standIns := [], harness := (true, "99a2e4c3481b0efb91b319475a3716703ef690b9552cfe091d77fe47e0f65efb"), looks := false }, kinds := [], alts := [], laidByText := true, laidKinds := [.data, .data], laidTests := true, laidLooks := .later }
def ShaBlocksCardSaid : Prop := Claim7.holds Tryd.pinned (.plain (OpenSpec.ofChange shaBlocksSpec)) shaBlocksCard

/-- THE TIED CARD OF 'shipwrightlaw03.ShaPads'. -/
def shaPadsCard : Claim7 := { stood := { row := shaPadsRow, standIns := [], harness := (true, "99a2e4c3481b0efb91b319475a3716703ef690b9552cfe091d77fe47e0f65efb"), looks := false }, kinds := [], alts := [], laidByText := true, laidKinds := [.data, .data], laidTests := true, laidLooks := .later }
def ShaPadsCardSaid : Prop := Claim7.holds Tryd.pinned (.plain (OpenSpec.ofChange shaPadsSpec)) shaPadsCard

/-- THE TIED CARD OF 'shipwrightlaw03.ShaStep'. -/
def shaStepCard : Claim7 := { stood := { row := shaStepRow, standIns := [], harness := (true, "99a2e4c3481b0efb91b319475a3716703ef690b9552cfe091d77fe47e0f65efb"), looks := false }, kinds := [], alts := [], laidByText := true, laidKinds := [.data, .data], laidTests := true, laidLooks := .later }
def ShaStepCardSaid : Prop := Claim7.holds Tryd.pinned (.plain (OpenSpec.ofChange shaStepSpec)) shaStepCard

/-- THE TIED CARD OF 'shipwrightlaw03.ShaBack'. -/
def shaBackCard : Claim7 := { stood := { row := shaBackRow, standIns := [], harness := (true, "99a2e4c3481b0efb91b319475a3716703ef690b9552cfe091d77fe47e0f65efb"), looks := false }, kinds := [], alts := [], laidByText := true, laidKinds := [.data, .data], laidTests := true, laidLooks := .later }
def ShaBackCardSaid : Prop := Claim7.holds Tryd.pinned (.plain (OpenSpec.ofChange shaBackSpec)) shaBackCard

/-- THE TIED CARD OF 'shipwrightlaw03.ShaTexts'. -/
def shaTextsCard : Claim7 := { stood := { row := shaTextsRow, standIns := [], harness := (true, "99a2e4c3481b0efb91b319475a3716703ef690b9552cfe091d77fe47e0f65efb"), looks := false }, kinds := [], alts := [], laidByText := true, laidKinds := [.data, .data], laidTests := true, laidLooks := .later }
def ShaTextsCardSaid : Prop := Claim7.holds Tryd.pinned (.plain (OpenSpec.ofChange shaTextsSpec)) shaTextsCard

/-- THE SECOND FORM's CARD OF 'shipwrightlaw03.ShaSums'. -/
def shaSumsUptoCard : Claim7 := { stood := { row := shaSumsUptoRow, standIns := [], harness := (true, "99a2e4c3481b0efb91b319475a3716703ef690b9552cfe091d77fe47e0f65efb"), looks := false }, kinds := [], alts := [], laidByText := true, laidKinds := [.data, .data], laidTests := true, laidLooks := .later }
def ShaSumsUptoCardSaid : Prop := Claim7.holds Tryd.pinned (.plain (OpenSpec.upto shaSumsSpec)) shaSumsUptoCard

/-- THE SECOND FORM's CARD OF 'shipwrightlaw03.ShaBlocks'. -/
def shaBlocksUptoCard : Claim7 := { stood := { row := shaBlocksUptoRow, standIns := [], harness := (true, "99a2e4c3481b0efb91b319475a3716703ef690b9552cfe091d77fe47e0f65efb"), looks := false }, kinds := [], alts := [], laidByText := true, laidKinds := [.data, .data], laidTests := true, laidLooks := .later }
def ShaBlocksUptoCardSaid : Prop := Claim7.holds Tryd.pinned (.plain (OpenSpec.upto shaBlocksSpec)) shaBlocksUptoCard

/-- THE SECOND FORM's CARD OF 'shipwrightlaw03.ShaPads'. -/
def shaPadsUptoCard : Claim7 := { stood := { row := shaPadsUptoRow, standIns := [], harness := (true, "99a2e4c3481b0efb91b319475a3716703ef690b9552cfe091d77fe47e0f65efb"), looks := false }, kinds := [], alts := [], laidByText := true, laidKinds := [.data, .data], laidTests := true, laidLooks := .later }
def ShaPadsUptoCardSaid : Prop := Claim7.holds Tryd.pinned (.plain (OpenSpec.upto shaPadsSpec)) shaPadsUptoCard

/-- THE SECOND FORM's CARD OF 'shipwrightlaw03.ShaStep'. -/
def shaStepUptoCard : Claim7 := { stood := { row := shaStepUptoRow, standIns := [], harness := (true, "99a2e4c3481b0efb91b319475a3716703ef690b9552cfe091d77fe47e0f65efb"), looks := false }, kinds := [], alts := [], laidByText := true, laidKinds := [.data, .data], laidTests := true, laidLooks := .later }
def ShaStepUptoCardSaid : Prop := Claim7.holds Tryd.pinned (.plain (OpenSpec.upto shaStepSpec)) shaStepUptoCard

/-- THE SECOND FORM's CARD OF 'shipwrightlaw03.ShaBack'. -/
def shaBackUptoCard : Claim7 := { stood := { row := shaBackUptoRow, standIns := [], harness := (true, "99a2e4c3481b0efb91b319475a3716703ef690b9552cfe091d77fe47e0f65efb"), looks := false }, kinds := [], alts := [], laidByText := true, laidKinds := [.data, .data], laidTests := true, laidLooks := .later }
def ShaBackUptoCardSaid : Prop := Claim7.holds Tryd.pinned (.plain (OpenSpec.upto shaBackSpec)) shaBackUptoCard

/-- THE SECOND FORM's CARD OF 'shipwrightlaw03.ShaTexts'. -/
def shaTextsUptoCard : Claim7 := { stood := { row := shaTextsUptoRow, standIns := [], harness := (true, "99a2e4c3481b0efb91b319475a3716703ef690b9552cfe091d77fe47e0f65efb"), looks := false }, kinds := [], alts := [], laidByText := true, laidKinds := [.data, .data], laidTests := true, laidLooks := .later }
def ShaTextsUptoCardSaid : Prop := Claim7.holds Tryd.pinned (.plain (OpenSpec.upto shaTextsSpec)) shaTextsUptoCard
end Rows
end Go.Proofs.YtfnmfnihgocheaaDoor
