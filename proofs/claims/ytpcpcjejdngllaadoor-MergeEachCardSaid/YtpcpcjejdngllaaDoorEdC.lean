/- The walks of slices.Equal at edits, edit.Same, the reference's Same. -/
import Derived.Test.YtpcpcjejdngllaaDoorEdA
import Derived.Laws.StructEq
namespace Go.Proofs.YtpcpcjejdngllaaDoor
open Go.RowKit
set_option linter.unusedVariables false

theorem ba_eq (a b : ByteArray) : (a.toList == b.toList) = decide (a = b) := by
  rw [ByteArray.toList_eq, ByteArray.toList_eq, Bool.eq_iff_iff, beq_iff_eq, decide_eq_true_iff]
  obtain ⟨⟨x⟩⟩ := a
  obtain ⟨⟨y⟩⟩ := b
  simp
theorem ed_eq_iff (x y : Ed) : decide (x = y) = (decide (x.path = y.path) && (x.at_ == y.at_ && (x.n == y.n && decide (x.text = y.text)))) := by
  rw [Bool.eq_iff_iff]
  cases x
  cases y
  simp

end Go.Proofs.YtpcpcjejdngllaaDoor
