/- How the law OctetReads' argument, a slice of asks, reads. -/
import Derived.Test.YtkaadagffkgkdaaOpen
import Derived.Test.YtkaadagffkgkdaaOctG
namespace Go.Proofs.Ytkaadagffkgkdaa
open Go.RowKit Go.Deep Go.ChangeShapes Go.WideShapes
set_option linter.unusedVariables false

/-- An ask's cells: its kind, its number. -/
def askC (x : Int × Int) : List Value := [.int .i64 x.1, .int .i64 x.2]
def askOk (x : Int × Int) : Prop := (-9223372036854775808 ≤ x.1 ∧ x.1 ≤ 9223372036854775807) ∧ -9223372036854775808 ≤ x.2 ∧ x.2 ≤ 9223372036854775807
theorem wf_bd {n : Int} (h : (Lit.int .i64 n).wf = true) : -9223372036854775808 ≤ n ∧ n ≤ 9223372036854775807 := by simpa [Lit.wf, IntKind.min, IntKind.max, IntKind.signed, IntKind.bits] using h
theorem openAsks {H : Type} {enc : TypeId × Value → H} {w : World} {v : Value} {d : DataW H} {p : List MemPlace} {r : Reach} {b0 : Nat}
    (hv : Value.okWide Try.prog w r b0 26 v) (h : DataW.Trod enc Try.prog w 0 (fun _ => true) true 26 v d p) :
    ∃ xs : List (Int × Int), IsSl w v 2 xs.length (xs.flatMap askC) ∧ (∀ x ∈ xs, askOk x) ∧ ((d = .nil ∧ xs = []) ∨ ∃ el sp, d = .slice el sp ∧ el.length = xs.length) := by
  refine open_sl Try.underlying26 (k := 2) (by kernel_rfl) (by omega) askC askOk ?_ hv h
  intro n cs y hy
  obtain ⟨y0, y1, m, _, hl, h0, h1⟩ := trod_struct2 Try.underlying34 hy
  obtain ⟨a, e0, _, wa⟩ := DataW.trod_int Try.underlying3 h0
  obtain ⟨b, e1, _, wb⟩ := DataW.trod_int Try.underlying3 h1
  rw [show Try.prog.cellsOf 34 = 2 from by kernel_rfl] at hl
  match cs, hl with
  | [c0, c1], _ =>
    rw [show Try.prog.cellsOf 3 = 1 from by kernel_rfl] at e0 e1
    simp at e0 e1
    subst e0
    subst e1
    exact ⟨(a, b), rfl, rfl, wf_bd wa, wf_bd wb⟩
end Go.Proofs.Ytkaadagffkgkdaa
