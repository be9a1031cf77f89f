/-
  No cell of these rows narrows 'for every input' (looked for: loops, veiled, ifaces, maps, wideKeys, modest, calm, conditions, laid).
  DERIVED. THE GIVEN ROWS OF THIS SEAT. 3 by the template 'for every input the law returns true; each argument reads behind the call as it read before'; 0 by the template 'total and deterministic' (their statements: YtcdlmappcbbacaaTotals.lean).
  GIVEN WITH THE SEED: the statements are not yours to turn. If you find one false, say at which input.
  Laid BY PROGRAM, IN A SANDBOX (cutbox-rows.mjs): the forced cells as the released guide's own fill.sh prints them over the translation 6e11a0b11235fbf4… (all of the seat's roots in one cut). By AI agents, Wed Nov 11 2026. No macro, syntax, notation, axiom, sorry.
-/
import Derived.Test.YtcdlmappcbbacaaChecked
import GoSem.Claim
import GoSem.ClaimJoined
import GoSem.ClaimMapViews
import Derived.JoinedTies
import Derived.KernelRfl
namespace Go.Proofs.Ytcdlmappcbbacaa
/- THE CELL 'sum', in the pinned program and in every row, IS THE sha256 OF THE DUMP (.gsa) THAT YtcdlmappcbbacaaProg.lean LOADS. Nothing in Lean hashes anything: it is a label: what it is worth is what the hold of that sum in a sandbox is worth. -/
noncomputable def Try.pinned : Pinned := { name := "ytcdlmappcbbacaa", sum := "6e11a0b11235fbf4df696aa004e06b649482ac20eb7e8226e5129b7ad32dd3cf", checked := Try.checked }
namespace Rows
def none {H : Type} : Left H := { results := [], args := [] }

/-- 'shipwrightlaw05.ObjectDecodes': WHATEVER THE INPUT: true; the input reads as it did. -/
def objectDecodesSpec : ChangeSpec := { name := "objectDecodes", fn := fun _ => fun
  | [d] => { results := [.lit (.bool true)], args := [d] }
  | _ => none }
def objectDecodesRow : OpenClaim := { program := "ytcdlmappcbbacaa", sum := "6e11a0b11235fbf4df696aa004e06b649482ac20eb7e8226e5129b7ad32dd3cf", func := "shipwright/shipwrightlaw05.ObjectDecodes", spec := "objectDecodes", apart := false }
def ObjectDecodesSaid : Prop := objectDecodesRow.holds Try.pinned (OpenSpec.ofChange objectDecodesSpec)

/-- ITS FALSE NEIGHBOUR: 'it returns false'. Refute it at one input. -/
def objectDecodesWrong : ChangeSpec := { name := "objectDecodes", fn := fun _ => fun
  | [d] => { results := [.lit (.bool false)], args := [d] }
  | _ => none }
def ObjectDecodesWrongFalsely : Prop := objectDecodesRow.holds Try.pinned (OpenSpec.ofChange objectDecodesWrong)

/-- 'shipwrightlaw05.ObjectAgain': WHATEVER THE INPUT: true; the input reads as it did. -/
def objectAgainSpec : ChangeSpec := { name := "objectAgain", fn := fun _ => fun
  | [d] => { results := [.lit (.bool true)], args := [d] }
  | _ => none }
def objectAgainRow : OpenClaim := { program := "ytcdlmappcbbacaa", sum := "6e11a0b11235fbf4df696aa004e06b649482ac20eb7e8226e5129b7ad32dd3cf", func := "shipwright/shipwrightlaw05.ObjectAgain", spec := "objectAgain", apart := false }
def ObjectAgainSaid : Prop := objectAgainRow.holds Try.pinned (OpenSpec.ofChange objectAgainSpec)

/-- ITS FALSE NEIGHBOUR: 'it returns false'. Refute it at one input. -/
def objectAgainWrong : ChangeSpec := { name := "objectAgain", fn := fun _ => fun
  | [d] => { results := [.lit (.bool false)], args := [d] }
  | _ => none }
def ObjectAgainWrongFalsely : Prop := objectAgainRow.holds Try.pinned (OpenSpec.ofChange objectAgainWrong)

/-- 'shipwrightlaw05.ObjectTells': WHATEVER THE INPUT: true; the input reads as it did. -/
def objectTellsSpec : ChangeSpec := { name := "objectTells", fn := fun _ => fun
  | [d1, d2, d3] => { results := [.lit (.bool true)], args := [d1, d2, d3] }
  | _ => none }
def objectTellsRow : OpenClaim := { program := "ytcdlmappcbbacaa", sum := "6e11a0b11235fbf4df696aa004e06b649482ac20eb7e8226e5129b7ad32dd3cf", func := "shipwright/shipwrightlaw05.ObjectTells", spec := "objectTells", apart := false }
def ObjectTellsSaid : Prop := objectTellsRow.holds Try.pinned (OpenSpec.ofChange objectTellsSpec)

/-- ITS FALSE NEIGHBOUR: 'it returns false'. Refute it at one input. -/
def objectTellsWrong : ChangeSpec := { name := "objectTells", fn := fun _ => fun
  | [d1, d2, d3] => { results := [.lit (.bool false)], args := [d1, d2, d3] }
  | _ => none }
def ObjectTellsWrongFalsely : Prop := objectTellsRow.holds Try.pinned (OpenSpec.ofChange objectTellsWrong)

/- THE SECOND FORM. 'bulk': how many values and letters a reading holds, each counted each time it is reached (what is shared counts as often as it is met; a slice's spare places count too). A statement '..UptoSaid' is the law's where the arguments, and the package variables that the reading takes, are together of bulk at most 1048576: NARROWER than '..Said'. Prove '..Said' where nothing that the law and all that it calls make is longer than what came in: it says more and counts as full. Else prove '..UptoSaid'. A law counts once. -/
mutual
def uptoBulk {H : Type} : DataW H → Nat
  | .lit (.string bytes) => bytes.length + 1
  | .lit _ => 1
  | .nil => 1
  | .ptr d => uptoBulk d + 1
  | .slice elems spare => uptoBulkAll elems + uptoBulkAll spare + 1
  | .agg parts => uptoBulkAll parts + 1
  | .iface _ d => uptoBulk d + 1
  | .map entries => uptoBulkEntries entries + 1
  | .held _ => 1
def uptoBulkAll {H : Type} : List (DataW H) → Nat
  | [] => 0
  | d :: r => uptoBulk d + uptoBulkAll r
def uptoBulkEntries {H : Type} : List (Lit × DataW H) → Nat
  | [] => 0
  | x :: r => uptoBulkEntry x + uptoBulkEntries r
def uptoBulkEntry {H : Type} : Lit × DataW H → Nat
  | (.string bytes, d) => bytes.length + uptoBulk d + 1
  | (_, d) => uptoBulk d + 1
 end
def uptoSmall : (H : Type) → List (DataW H) → Bool := fun _ ds => decide (uptoBulkAll ds ≤ 1048576)
def OpenSpec.upto (s : _root_.Go.ChangeSpec) : _root_.Go.OpenSpec := { _root_.Go.OpenSpec.ofChange s with cond := some uptoSmall }

/-- 'shipwrightlaw05.ObjectDecodes', WHERE WHAT IT READS IS OF BULK AT MOST 1048576: true; the input reads as it did. -/
def objectDecodesUptoRow : OpenClaim := { program := "ytcdlmappcbbacaa", sum := "6e11a0b11235fbf4df696aa004e06b649482ac20eb7e8226e5129b7ad32dd3cf", func := "shipwright/shipwrightlaw05.ObjectDecodes", spec := "objectDecodes", apart := false, narrowed := true }
def ObjectDecodesUptoSaid : Prop := objectDecodesUptoRow.holds Try.pinned (OpenSpec.upto objectDecodesSpec)

/-- 'shipwrightlaw05.ObjectAgain', WHERE WHAT IT READS IS OF BULK AT MOST 1048576: true; the input reads as it did. -/
def objectAgainUptoRow : OpenClaim := { program := "ytcdlmappcbbacaa", sum := "6e11a0b11235fbf4df696aa004e06b649482ac20eb7e8226e5129b7ad32dd3cf", func := "shipwright/shipwrightlaw05.ObjectAgain", spec := "objectAgain", apart := false, narrowed := true }
def ObjectAgainUptoSaid : Prop := objectAgainUptoRow.holds Try.pinned (OpenSpec.upto objectAgainSpec)

/-- 'shipwrightlaw05.ObjectTells', WHERE WHAT IT READS IS OF BULK AT MOST 1048576: true; the input reads as it did. -/
def objectTellsUptoRow : OpenClaim := { program := "ytcdlmappcbbacaa", sum := "6e11a0b11235fbf4df696aa004e06b649482ac20eb7e8226e5129b7ad32dd3cf", func := "shipwright/shipwrightlaw05.ObjectTells", spec := "objectTells", apart := false, narrowed := true }
def ObjectTellsUptoSaid : Prop := objectTellsUptoRow.holds Try.pinned (OpenSpec.upto objectTellsSpec)

end Rows
end Go.Proofs.Ytcdlmappcbbacaa
