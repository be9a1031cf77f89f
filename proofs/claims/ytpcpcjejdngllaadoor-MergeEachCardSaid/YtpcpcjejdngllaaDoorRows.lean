/-
  NARROWER THAN 'FOR EVERY INPUT', by the rows' own cells (each row's printed sentence says how): MergeMerges: laid · MergeChanged: laid · MergeSame: laid · MergeSelf: laid · MergeTurned: laid · MergeEach: laid · MergeSettles: laid.
  DERIVED. THE GIVEN ROWS OF THIS SEAT. 7 by the template 'for every input the law returns true; each argument reads behind the call as it read before'; 0 by the template 'total and deterministic' (their statements: YtpcpcjejdngllaaDoorTotals.lean).
  GIVEN WITH THE SEED: the statements are not yours to turn. If you find one false, say at which input.
  Laid BY PROGRAM, IN A SANDBOX (cutbox-rows.mjs): the forced cells as the released guide's own fill.sh prints them over the translation 96b8dbf4de38b9eb… (all of the seat's roots in one cut). By AI agents, Wed Nov 11 2026. No macro, syntax, notation, axiom, sorry.
-/
import Derived.Test.YtpcpcjejdngllaaDoorChecked
import GoSem.PinnedTables
import GoSem.Claim
import GoSem.ClaimJoined
import GoSem.ClaimMapViews
import Derived.JoinedTies
import Derived.KernelRfl
namespace Go.Proofs.YtpcpcjejdngllaaDoor
/- THE CELL 'sum', in the pinned program and in every row, IS THE sha256 OF THE DUMP (.gsa) THAT YtpcpcjejdngllaaDoorProg.lean LOADS. Nothing in Lean hashes anything: it is a label: what it is worth is what the hold of that sum in a sandbox is worth. -/
noncomputable def Tryd.pinned : Pinned := { name := "ytpcpcjejdngllaadoor", sum := "96b8dbf4de38b9eb409628fb6ac2e5a645c2628dc7c01c5e37a93f24cbc8a368", checked := Tryd.checked }
namespace Rows
def none {H : Type} : Left H := { results := [], args := [] }

/- WHAT THE LISTED PACKAGE-LEVEL VARIABLES READ AS WHEN THE CALL BEGINS. Each datum BY PROGRAM (the guide's laid-datum.mjs) off the statement by which the dump's own 'gosem.cut.vars' lays the variable. In a bare row this is a premise. The card (YtpcpcjejdngllaaDoorCards.lean) ties it to the program's text. -/
def laid_unicode_utf8_acceptRanges {H : Type} : DataW H := .agg [.agg [.lit (.int .u8 128), .lit (.int .u8 191)], .agg [.lit (.int .u8 160), .lit (.int .u8 191)], .agg [.lit (.int .u8 128), .lit (.int .u8 159)], .agg [.lit (.int .u8 144), .lit (.int .u8 191)], .agg [.lit (.int .u8 128), .lit (.int .u8 143)], .agg [.lit (.int .u8 0), .lit (.int .u8 0)], .agg [.lit (.int .u8 0), .lit (.int .u8 0)], .agg [.lit (.int .u8 0), .lit (.int .u8 0)], .agg [.lit (.int .u8 0), .lit (.int .u8 0)], .agg [.lit (.int .u8 0), .lit (.int .u8 0)], .agg [.lit (.int .u8 0), .lit (.int .u8 0)], .agg [.lit (.int .u8 0), .lit (.int .u8 0)], .agg [.lit (.int .u8 0), .lit (.int .u8 0)], .agg [.lit (.int .u8 0), .lit (.int .u8 0)], .agg [.lit (.int .u8 0), .lit (.int .u8 0)], .agg [.lit (.int .u8 0), .lit (.int .u8 0)]]
/-- One of Go's own tables, pinned by name: the form's constant. -/
def laid_unicode_utf8_first : DataW Unit := Go.Pinned.utf8First

/-- 'shipwrightlaw08.MergeMerges': WHATEVER THE INPUT: true; the input reads as it did. -/
def mergeMergesSpec : ChangeSpec := { name := "mergeMerges", fn := fun _ => fun
  | [d] => { results := [.lit (.bool true)], args := [d] }
  | _ => none }
def mergeMergesRow : OpenClaim := { program := "ytpcpcjejdngllaadoor", sum := "96b8dbf4de38b9eb409628fb6ac2e5a645c2628dc7c01c5e37a93f24cbc8a368", func := "shipwright/shipwrightlaw08.MergeMerges", spec := "mergeMerges", inPlace := ["internal/bytealg.IndexByteString", "internal/bytealg.IndexString"], unfollowed := true, recurses := true, named := ["unicode/utf8.first", "unicode/utf8.acceptRanges", "internal/bytealg.MaxLen"], apart := false, laid := [("unicode/utf8.acceptRanges", laid_unicode_utf8_acceptRanges), ("unicode/utf8.first", laid_unicode_utf8_first)] }
def MergeMergesSaid : Prop := mergeMergesRow.holds Tryd.pinned (OpenSpec.ofChange mergeMergesSpec)

/-- ITS FALSE NEIGHBOUR: 'it returns false'. Refute it at one input. -/
def mergeMergesWrong : ChangeSpec := { name := "mergeMerges", fn := fun _ => fun
  | [d] => { results := [.lit (.bool false)], args := [d] }
  | _ => none }
def MergeMergesWrongFalsely : Prop := mergeMergesRow.holds Tryd.pinned (OpenSpec.ofChange mergeMergesWrong)

/-- 'shipwrightlaw08.MergeChanged': WHATEVER THE INPUT: true; the input reads as it did. -/
def mergeChangedSpec : ChangeSpec := { name := "mergeChanged", fn := fun _ => fun
  | [d1, d2] => { results := [.lit (.bool true)], args := [d1, d2] }
  | _ => none }
def mergeChangedRow : OpenClaim := { program := "ytpcpcjejdngllaadoor", sum := "96b8dbf4de38b9eb409628fb6ac2e5a645c2628dc7c01c5e37a93f24cbc8a368", func := "shipwright/shipwrightlaw08.MergeChanged", spec := "mergeChanged", inPlace := ["internal/bytealg.IndexByteString", "internal/bytealg.IndexString"], unfollowed := true, recurses := true, named := ["unicode/utf8.first", "unicode/utf8.acceptRanges", "internal/bytealg.MaxLen"], apart := false, laid := [("unicode/utf8.acceptRanges", laid_unicode_utf8_acceptRanges), ("unicode/utf8.first", laid_unicode_utf8_first)] }
def MergeChangedSaid : Prop := mergeChangedRow.holds Tryd.pinned (OpenSpec.ofChange mergeChangedSpec)

/-- ITS FALSE NEIGHBOUR: 'it returns false'. Refute it at one input. -/
def mergeChangedWrong : ChangeSpec := { name := "mergeChanged", fn := fun _ => fun
  | [d1, d2] => { results := [.lit (.bool false)], args := [d1, d2] }
  | _ => none }
def MergeChangedWrongFalsely : Prop := mergeChangedRow.holds Tryd.pinned (OpenSpec.ofChange mergeChangedWrong)

/-- 'shipwrightlaw08.MergeSame': WHATEVER THE INPUT: true; the input reads as it did. -/
def mergeSameSpec : ChangeSpec := { name := "mergeSame", fn := fun _ => fun
  | [d1, d2] => { results := [.lit (.bool true)], args := [d1, d2] }
  | _ => none }
def mergeSameRow : OpenClaim := { program := "ytpcpcjejdngllaadoor", sum := "96b8dbf4de38b9eb409628fb6ac2e5a645c2628dc7c01c5e37a93f24cbc8a368", func := "shipwright/shipwrightlaw08.MergeSame", spec := "mergeSame", inPlace := ["internal/bytealg.IndexByteString", "internal/bytealg.IndexString"], unfollowed := true, recurses := true, named := ["unicode/utf8.first", "unicode/utf8.acceptRanges", "internal/bytealg.MaxLen"], apart := false, laid := [("unicode/utf8.acceptRanges", laid_unicode_utf8_acceptRanges), ("unicode/utf8.first", laid_unicode_utf8_first)] }
def MergeSameSaid : Prop := mergeSameRow.holds Tryd.pinned (OpenSpec.ofChange mergeSameSpec)

/-- ITS FALSE NEIGHBOUR: 'it returns false'. Refute it at one input. -/
def mergeSameWrong : ChangeSpec := { name := "mergeSame", fn := fun _ => fun
  | [d1, d2] => { results := [.lit (.bool false)], args := [d1, d2] }
  | _ => none }
def MergeSameWrongFalsely : Prop := mergeSameRow.holds Tryd.pinned (OpenSpec.ofChange mergeSameWrong)

/-- 'shipwrightlaw08.MergeSelf': WHATEVER THE INPUT: true; the input reads as it did. -/
def mergeSelfSpec : ChangeSpec := { name := "mergeSelf", fn := fun _ => fun
  | [d1, d2] => { results := [.lit (.bool true)], args := [d1, d2] }
  | _ => none }
def mergeSelfRow : OpenClaim := { program := "ytpcpcjejdngllaadoor", sum := "96b8dbf4de38b9eb409628fb6ac2e5a645c2628dc7c01c5e37a93f24cbc8a368", func := "shipwright/shipwrightlaw08.MergeSelf", spec := "mergeSelf", inPlace := ["internal/bytealg.IndexByteString", "internal/bytealg.IndexString"], unfollowed := true, recurses := true, named := ["unicode/utf8.first", "unicode/utf8.acceptRanges", "internal/bytealg.MaxLen"], apart := false, laid := [("unicode/utf8.acceptRanges", laid_unicode_utf8_acceptRanges), ("unicode/utf8.first", laid_unicode_utf8_first)] }
def MergeSelfSaid : Prop := mergeSelfRow.holds Tryd.pinned (OpenSpec.ofChange mergeSelfSpec)

/-- ITS FALSE NEIGHBOUR: 'it returns false'. Refute it at one input. -/
def mergeSelfWrong : ChangeSpec := { name := "mergeSelf", fn := fun _ => fun
  | [d1, d2] => { results := [.lit (.bool false)], args := [d1, d2] }
  | _ => none }
def MergeSelfWrongFalsely : Prop := mergeSelfRow.holds Tryd.pinned (OpenSpec.ofChange mergeSelfWrong)

/-- 'shipwrightlaw08.MergeTurned': WHATEVER THE INPUT: true; the input reads as it did. -/
def mergeTurnedSpec : ChangeSpec := { name := "mergeTurned", fn := fun _ => fun
  | [d] => { results := [.lit (.bool true)], args := [d] }
  | _ => none }
def mergeTurnedRow : OpenClaim := { program := "ytpcpcjejdngllaadoor", sum := "96b8dbf4de38b9eb409628fb6ac2e5a645c2628dc7c01c5e37a93f24cbc8a368", func := "shipwright/shipwrightlaw08.MergeTurned", spec := "mergeTurned", inPlace := ["internal/bytealg.IndexByteString", "internal/bytealg.IndexString"], unfollowed := true, recurses := true, named := ["unicode/utf8.first", "unicode/utf8.acceptRanges", "internal/bytealg.MaxLen"], apart := false, laid := [("unicode/utf8.acceptRanges", laid_unicode_utf8_acceptRanges), ("unicode/utf8.first", laid_unicode_utf8_first)] }
def MergeTurnedSaid : Prop := mergeTurnedRow.holds Tryd.pinned (OpenSpec.ofChange mergeTurnedSpec)

/-- ITS FALSE NEIGHBOUR: 'it returns false'. Refute it at one input. -/
def mergeTurnedWrong : ChangeSpec := { name := "mergeTurned", fn := fun _ => fun
  | [d] => { results := [.lit (.bool false)], args := [d] }
  | _ => none }
def MergeTurnedWrongFalsely : Prop := mergeTurnedRow.holds Tryd.pinned (OpenSpec.ofChange mergeTurnedWrong)

/-- 'shipwrightlaw08.MergeEach': WHATEVER THE INPUT: true; the input reads as it did. -/
def mergeEachSpec : ChangeSpec := { name := "mergeEach", fn := fun _ => fun
  | [d] => { results := [.lit (.bool true)], args := [d] }
  | _ => none }
def mergeEachRow : OpenClaim := { program := "ytpcpcjejdngllaadoor", sum := "96b8dbf4de38b9eb409628fb6ac2e5a645c2628dc7c01c5e37a93f24cbc8a368", func := "shipwright/shipwrightlaw08.MergeEach", spec := "mergeEach", inPlace := ["internal/bytealg.IndexByteString", "internal/bytealg.IndexString"], unfollowed := true, recurses := true, named := ["unicode/utf8.first", "unicode/utf8.acceptRanges", "internal/bytealg.MaxLen"], apart := false, laid := [("unicode/utf8.acceptRanges", laid_unicode_utf8_acceptRanges), ("unicode/utf8.first", laid_unicode_utf8_first)] }
def MergeEachSaid : Prop := mergeEachRow.holds Tryd.pinned (OpenSpec.ofChange mergeEachSpec)

/-- ITS FALSE NEIGHBOUR: 'it returns false'. Refute it at one input. -/
def mergeEachWrong : ChangeSpec := { name := "mergeEach", fn := fun _ => fun
  | [d] => { results := [.lit (.bool false)], args := [d] }
  | _ => none }
def MergeEachWrongFalsely : Prop := mergeEachRow.holds Tryd.pinned (OpenSpec.ofChange mergeEachWrong)

/-- 'shipwrightlaw08.MergeSettles': WHATEVER THE INPUT: true; the input reads as it did. -/
def mergeSettlesSpec : ChangeSpec := { name := "mergeSettles", fn := fun _ => fun
  | [d1, d2] => { results := [.lit (.bool true)], args := [d1, d2] }
  | _ => none }
def mergeSettlesRow : OpenClaim := { program := "ytpcpcjejdngllaadoor", sum := "96b8dbf4de38b9eb409628fb6ac2e5a645c2628dc7c01c5e37a93f24cbc8a368", func := "shipwright/shipwrightlaw08.MergeSettles", spec := "mergeSettles", inPlace := ["internal/bytealg.IndexByteString", "internal/bytealg.IndexString"], unfollowed := true, recurses := true, named := ["unicode/utf8.first", "unicode/utf8.acceptRanges", "internal/bytealg.MaxLen"], apart := false, laid := [("unicode/utf8.acceptRanges", laid_unicode_utf8_acceptRanges), ("unicode/utf8.first", laid_unicode_utf8_first)] }
def MergeSettlesSaid : Prop := mergeSettlesRow.holds Tryd.pinned (OpenSpec.ofChange mergeSettlesSpec)

/-- ITS FALSE NEIGHBOUR: 'it returns false'. Refute it at one input. -/
def mergeSettlesWrong : ChangeSpec := { name := "mergeSettles", fn := fun _ => fun
  | [d1, d2] => { results := [.lit (.bool false)], args := [d1, d2] }
  | _ => none }
def MergeSettlesWrongFalsely : Prop := mergeSettlesRow.holds Tryd.pinned (OpenSpec.ofChange mergeSettlesWrong)

/- THE SECOND FORM. 'bulk': how many values and letters a reading holds, each counted each time it is reached (what is shared counts as often as it is met; a slice's spare places count too). A statement '..UptoSaid' is the law's where the arguments, and the package variables that the reading takes, are together of bulk at most 1048576: NARROWER than '..Said'. Prove '..Said' where nothing that the law and all that it calls make is longer than what came in: it says more and counts as full. Else prove '..UptoSaid'. A law counts once. -/
mutual
def uptoBulk {H : Type} : DataW H → Nat
  | .lit (.string bytes) => bytes.length + 1
  | .lit _ => 1
  | .nil => 1
  | .ptr d => uptoBulk d + 1
  | .slice elems spare => uptoBulkAll elems + uptoBulkAll spare + 1
  | .agg parts => uptoBulkAll parts + 1
  | .iface _ d => uptoBulk d + 1
  | .map entries => uptoBulkEntries entries + 1
  | .held _ => 1
def uptoBulkAll {H : Type} : List (DataW H) → Nat
  | [] => 0
  | d :: r => uptoBulk d + uptoBulkAll r
def uptoBulkEntries {H : Type} : List (Lit × DataW H) → Nat
  | [] => 0
  | x :: r => uptoBulkEntry x + uptoBulkEntries r
def uptoBulkEntry {H : Type} : Lit × DataW H → Nat
  | (.string bytes, d) => bytes.length + uptoBulk d + 1
  | (_, d) => uptoBulk d + 1
 end
def uptoSmall : (H : Type) → List (DataW H) → Bool := fun _ ds => decide (uptoBulkAll ds ≤ 1048576)
def OpenSpec.upto (s : _root_.Go.ChangeSpec) : _root_.Go.OpenSpec := { _root_.Go.OpenSpec.ofChange s with cond := some uptoSmall }

/-- 'shipwrightlaw08.MergeMerges', WHERE WHAT IT READS IS OF BULK AT MOST 1048576: true; the input reads as it did. -/
def mergeMergesUptoRow : OpenClaim := { program := "ytpcpcjejdngllaadoor", sum := "96b8dbf4de38b9eb409628fb6ac2e5a645c2628dc7c01c5e37a93f24cbc8a368", func := "shipwright/shipwrightlaw08.MergeMerges", spec := "mergeMerges", inPlace := ["internal/bytealg.IndexByteString", "internal/bytealg.IndexString"], unfollowed := true, recurses := true, named := ["unicode/utf8.first", "unicode/utf8.acceptRanges", "internal/bytealg.MaxLen"], apart := false, laid := [("unicode/utf8.acceptRanges", laid_unicode_utf8_acceptRanges), ("unicode/utf8.first", laid_unicode_utf8_first)], narrowed := true }
def MergeMergesUptoSaid : Prop := mergeMergesUptoRow.holds Tryd.pinned (OpenSpec.upto mergeMergesSpec)

/-- 'shipwrightlaw08.MergeChanged', WHERE WHAT IT READS IS OF BULK AT MOST 1048576: true; the input reads as it did. -/
def mergeChangedUptoRow : OpenClaim := { program := "ytpcpcjejdngllaadoor", sum := "96b8dbf4de38b9eb409628fb6ac2e5a645c2628dc7c01c5e37a93f24cbc8a368", func := "shipwright/shipwrightlaw08.MergeChanged", spec := "mergeChanged", inPlace := ["internal/bytealg.IndexByteString", "internal/bytealg.IndexString"], unfollowed := true, recurses := true, named := ["unicode/utf8.first", "unicode/utf8.acceptRanges", "internal/bytealg.MaxLen"], apart := false, laid := [("unicode/utf8.acceptRanges", laid_unicode_utf8_acceptRanges), ("unicode/utf8.first", laid_unicode_utf8_first)], narrowed := true }
def MergeChangedUptoSaid : Prop := mergeChangedUptoRow.holds Tryd.pinned (OpenSpec.upto mergeChangedSpec)

/-- 'shipwrightlaw08.MergeSame', WHERE WHAT IT READS IS OF BULK AT MOST 1048576: true; the input reads as it did. -/
def mergeSameUptoRow : OpenClaim := { program := "ytpcpcjejdngllaadoor", sum := "96b8dbf4de38b9eb409628fb6ac2e5a645c2628dc7c01c5e37a93f24cbc8a368", func := "shipwright/shipwrightlaw08.MergeSame", spec := "mergeSame", inPlace := ["internal/bytealg.IndexByteString", "internal/bytealg.IndexString"], unfollowed := true, recurses := true, named := ["unicode/utf8.first", "unicode/utf8.acceptRanges", "internal/bytealg.MaxLen"], apart := false, laid := [("unicode/utf8.acceptRanges", laid_unicode_utf8_acceptRanges), ("unicode/utf8.first", laid_unicode_utf8_first)], narrowed := true }
def MergeSameUptoSaid : Prop := mergeSameUptoRow.holds Tryd.pinned (OpenSpec.upto mergeSameSpec)

/-- 'shipwrightlaw08.MergeSelf', WHERE WHAT IT READS IS OF BULK AT MOST 1048576: true; the input reads as it did. -/
def mergeSelfUptoRow : OpenClaim := { program := "ytpcpcjejdngllaadoor", sum := "96b8dbf4de38b9eb409628fb6ac2e5a645c2628dc7c01c5e37a93f24cbc8a368", func := "shipwright/shipwrightlaw08.MergeSelf", spec := "mergeSelf", inPlace := ["internal/bytealg.IndexByteString", "internal/bytealg.IndexString"], unfollowed := true, recurses := true, named := ["unicode/utf8.first", "unicode/utf8.acceptRanges", "internal/bytealg.MaxLen"], apart := false, laid := [("unicode/utf8.acceptRanges", laid_unicode_utf8_acceptRanges), ("unicode/utf8.first", laid_unicode_utf8_first)], narrowed := true }
def MergeSelfUptoSaid : Prop := mergeSelfUptoRow.holds Tryd.pinned (OpenSpec.upto mergeSelfSpec)

/-- 'shipwrightlaw08.MergeTurned', WHERE WHAT IT READS IS OF BULK AT MOST 1048576: true; the input reads as it did. -/
def mergeTurnedUptoRow : OpenClaim := { program := "ytpcpcjejdngllaadoor", sum := "96b8dbf4de38b9eb409628fb6ac2e5a645c2628dc7c01c5e37a93f24cbc8a368", func := "shipwright/shipwrightlaw08.MergeTurned", spec := "mergeTurned", inPlace := ["internal/bytealg.IndexByteString", "internal/bytealg.IndexString"], unfollowed := true, recurses := true, named := ["unicode/utf8.first", "unicode/utf8.acceptRanges", "internal/bytealg.MaxLen"], apart := false, laid := [("unicode/utf8.acceptRanges", laid_unicode_utf8_acceptRanges), ("unicode/utf8.first", laid_unicode_utf8_first)], narrowed := true }
def MergeTurnedUptoSaid : Prop := mergeTurnedUptoRow.holds Tryd.pinned (OpenSpec.upto mergeTurnedSpec)

/-- 'shipwrightlaw08.MergeEach', WHERE WHAT IT READS IS OF BULK AT MOST 1048576: true; the input reads as it did. -/
def mergeEachUptoRow : OpenClaim := { program := "ytpcpcjejdngllaadoor", sum := "96b8dbf4de38b9eb409628fb6ac2e5a645c2628dc7c01c5e37a93f24cbc8a368", func := "shipwright/shipwrightlaw08.MergeEach", spec := "mergeEach", inPlace := ["internal/bytealg.IndexByteString", "internal/bytealg.IndexString"], unfollowed := true, recurses := true, named := ["unicode/utf8.first", "unicode/utf8.acceptRanges", "internal/bytealg.MaxLen"], apart := false, laid := [("unicode/utf8.acceptRanges", laid_unicode_utf8_acceptRanges), ("unicode/utf8.first", laid_unicode_utf8_first)], narrowed := true }
def MergeEachUptoSaid : Prop := mergeEachUptoRow.holds Tryd.pinned (OpenSpec.upto mergeEachSpec)

/-- 'shipwrightlaw08.MergeSettles', WHERE WHAT IT READS IS OF BULK AT MOST 1048576: true; the input reads as it did. -/
def mergeSettlesUptoRow : OpenClaim := { program := "ytpcpcjejdngllaadoor", sum := "96b8dbf4de38b9eb409628fb6ac2e5a645c2628dc7c01c5e37a93f24cbc8a368", func := "shipwright/shipwrightlaw08.MergeSettles", spec := "mergeSettles", inPlace := ["internal/bytealg.IndexByteString", "internal/bytealg.IndexString"], unfollowed := true, recurses := true, named := ["unicode/utf8.first", "unicode/utf8.acceptRanges", "internal/bytealg.MaxLen"], apart := false, laid := [("unicode/utf8.acceptRanges", laid_unicode_utf8_acceptRanges), ("unicode/utf8.first", laid_unicode_utf8_first)], narrowed := true }
def MergeSettlesUptoSaid : Prop := mergeSettlesUptoRow.holds Tryd.pinned (OpenSpec.upto mergeSettlesSpec)

end Rows
end Go.Proofs.YtpcpcjejdngllaaDoor
