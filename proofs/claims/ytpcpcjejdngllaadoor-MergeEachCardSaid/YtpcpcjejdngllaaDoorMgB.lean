/- What stands at a path in three repositories: trio.merged, trio.clashes. -/
import Derived.Test.YtpcpcjejdngllaaDoorMgA
import Derived.Test.YtpcpcjejdngllaaDoorEdC
import Derived.Laws.StructEq
namespace Go.Proofs.YtpcpcjejdngllaaDoor
open Go.RowKit
set_option linter.unusedVariables false
set_option linter.unusedSimpArgs false

abbrev Mb := Bool × ByteArray
theorem mb_eq_iff (x y : Mb) : decide (x = y) = ((x.1 == y.1) && decide (x.2 = y.2)) := by
  rw [Bool.eq_iff_iff]
  obtain ⟨a, s⟩ := x
  obtain ⟨b, t⟩ := y
  simp
set_option maxRecDepth 100000 in
theorem mbNeq (w : World) (x y : Mb) : (binOp .neq 72 (.agg #[.bool x.1, .string x.2]) (.agg #[.bool y.1, .string y.2])).run Tryd.prog w = .ok (.bool (!decide (x = y))) w := by
  rw [run_neq_struct, show (10000 : Nat) = 9999 + 1 from rfl, run_equalIn_agg _ _ _ _ _ Tryd.underlying72 (by kernel_rfl)]
  simp only [Program.fieldsOf, Tryd.underlying72]
  have ed := mb_eq_iff x y
  simp only [← ba_eq] at ed
  simp [go_sem]
  rw [ed]
  by_cases c0 : x.1 = y.1
  · by_cases c3 : x.2.toList = y.2.toList <;> simp [c0, c3]
  · simp [c0]
set_option maxRecDepth 100000 in
theorem mbEql (w : World) (x y : Mb) : (binOp .eql 72 (.agg #[.bool x.1, .string x.2]) (.agg #[.bool y.1, .string y.2])).run Tryd.prog w = .ok (.bool (decide (x = y))) w := by
  rw [run_eql_struct, show (10000 : Nat) = 9999 + 1 from rfl, run_equalIn_agg _ _ _ _ _ Tryd.underlying72 (by kernel_rfl)]
  simp only [Program.fieldsOf, Tryd.underlying72]
  have ed := mb_eq_iff x y
  simp only [← ba_eq] at ed
  simp [go_sem]
  rw [ed]
  by_cases c0 : x.1 = y.1
  · by_cases c3 : x.2.toList = y.2.toList <;> simp [c0, c3]
  · simp [c0]
def trC (m0 m1 m2 : Mb) : List Value := [.bool m0.1, .string m0.2, .bool m1.1, .string m1.2, .bool m2.1, .string m2.2]
def mergedM (m0 m1 m2 : Mb) : Mb := if decide (m1 = m0) = true then m2 else m1
def clashM (m0 m1 m2 : Mb) : Bool := !decide (m0 = m1) && (!decide (m0 = m2) && !decide (m1 = m2))
set_option maxHeartbeats 1000000 in
theorem trioMerged (w : World) (m0 m1 m2 : Mb) :
    Calls Tryd.prog 54 #[.agg #[.bool m0.1, .string m0.2, .bool m1.1, .string m1.2, .bool m2.1, .string m2.2]] w fun e w' => e = .returned (.agg (mC (mergedM m0 m1 m2)).toArray) ∧ Ext w w' := by
  obtain ⟨R, hR⟩ : ∃ R, mergedM m0 m1 m2 = R := ⟨_, rfl⟩
  rw [hR]
  have HR := Lib.hid hR
  clear hR
  have heq := mbEql
  cases hd : decide (m1 = m0) with
  | true =>
    obtain rfl : m2 = R := by rw [← HR.out]; unfold mergedM; rw [hd]; rfl
    go_enter Tryd.func54, Tryd.ntmps54
    go_wp2_with fail
    have bR := blk_new (w := w.alloc (.cells #[.bool m0.1, .string m0.2, .bool m1.1, .string m1.2, .bool m2.1, .string m2.2] 74)) (b := w.heap.size + 1) (o := .cells #[.bool m2.1, .string m2.2] 72) (by simp)
    refine bodyPost_ret (results_cellM rfl _ _ (w.heap.size + 1) _ _ _ _ (by rfl) bR Tryd.underlying72 rfl (info2 _ _)) rfl ?_
    exact ⟨rfl, ((Ext.refl w).alloc _).alloc _⟩
  | false =>
    obtain rfl : m1 = R := by rw [← HR.out]; unfold mergedM; rw [hd]; rfl
    go_enter Tryd.func54, Tryd.ntmps54
    go_wp2_with fail
    have bR := blk_new (w := w.alloc (.cells #[.bool m0.1, .string m0.2, .bool m1.1, .string m1.2, .bool m2.1, .string m2.2] 74)) (b := w.heap.size + 1) (o := .cells #[.bool m1.1, .string m1.2] 72) (by simp)
    refine bodyPost_ret (results_cellM rfl _ _ (w.heap.size + 1) _ _ _ _ (by rfl) bR Tryd.underlying72 rfl (info2 _ _)) rfl ?_
    exact ⟨rfl, ((Ext.refl w).alloc _).alloc _⟩
set_option maxHeartbeats 1000000 in
theorem trioClashes (w : World) (m0 m1 m2 : Mb) :
    Calls Tryd.prog 55 #[.agg #[.bool m0.1, .string m0.2, .bool m1.1, .string m1.2, .bool m2.1, .string m2.2]] w fun e w' => e = .returned (.bool (clashM m0 m1 m2)) ∧ Ext w w' := by
  obtain ⟨R, hR⟩ : ∃ R, clashM m0 m1 m2 = R := ⟨_, rfl⟩
  rw [hR]
  have HR := Lib.hid hR
  clear hR
  have hne := mbNeq
  cases h1 : decide (m0 = m1) with
  | true =>
    obtain rfl : false = R := by rw [← HR.out]; unfold clashM; rw [h1]; rfl
    go_enter Tryd.func55, Tryd.ntmps55
    go_wp2_with fail
    go_ret
    exact ⟨rfl, (Ext.refl w).alloc _⟩
  | false =>
    cases h2 : decide (m0 = m2) with
    | true =>
      obtain rfl : false = R := by rw [← HR.out]; unfold clashM; rw [h1, h2]; rfl
      go_enter Tryd.func55, Tryd.ntmps55
      go_wp2_with fail
      go_ret
      exact ⟨rfl, (Ext.refl w).alloc _⟩
    | false =>
      obtain rfl : (!decide (m1 = m2)) = R := by rw [← HR.out]; unfold clashM; rw [h1, h2]; rfl
      clear HR
      cases h3 : decide (m1 = m2) with
      | true =>
        go_enter Tryd.func55, Tryd.ntmps55
        go_wp2_with fail
        go_ret
        exact ⟨rfl, (Ext.refl w).alloc _⟩
      | false =>
        go_enter Tryd.func55, Tryd.ntmps55
        go_wp2_with fail
        go_ret
        exact ⟨rfl, (Ext.refl w).alloc _⟩
end Go.Proofs.YtpcpcjejdngllaaDoor
