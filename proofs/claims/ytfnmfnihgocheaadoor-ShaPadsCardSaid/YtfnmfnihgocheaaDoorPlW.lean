/- The walk of the statement ShaPads. -/
import Derived.Test.YtfnmfnihgocheaaDoorPlC
import Derived.Test.YtfnmfnihgocheaaDoorShJ
namespace Go.Proofs.YtfnmfnihgocheaaDoor
open Go.RowKit
set_option linter.unusedVariables false
set_option linter.unusedSimpArgs false

theorem equal_64 (w : World) : (Op.equalIn 10000 33 (.agg (kTab.map uc32).toArray) (.agg (kTab.map uc32).toArray)).run Tryd.prog w = .ok true w := by
  obtain ⟨i, hi⟩ := Option.isSome_iff_exists.1 infoU32
  rw [show (10000 : Nat) = 9998 + 1 + 1 from rfl, run_equalIn_array (P := Tryd.prog) (w := w) _ _ _ Tryd.underlying33 hi, show Tryd.prog.cellsOf 28 = 1 from by kernel_rfl]
  exact eqItems_u32 w _ kTab _ (fun i hi => by have := List.mem_range.1 hi; exact this)
theorem refStart' (w : World) :
    Calls Tryd.prog 21 #[] w fun e w' => e = .returned (.agg startS.cs) ∧ Ext w w' := refStart w

set_option maxHeartbeats 4000000 in
set_option maxRecDepth 100000 in
theorem walkShaPads (w : World) (v : Value) (l : List UInt8) (h : IsB w v l) (hK : Tabs w) :
    Calls Tryd.prog 5 #[v] w fun e w' => e = .returned (.bool true) ∧ Below w.heap.size w w' := by
  have hx := h
  obtain ⟨ao, cap, rfl, b1, m1, z1, g1⟩ := h.opened
  clear z1 g1 h
  go_enter Tryd.func5, Tryd.ntmps5
  go_wp2_with fail
  refine Calls.mono (wakes03 _ hK) ?_
  rintro e w1 ⟨rfl, x1⟩
  by_cases hlen : l.length > 20000
  · go_wp2
    go_ret
    exact ⟨rfl, x1⟩
  · go_wp2_with fail
    refine Calls.mono (shaPad _ _ l (hx.ext x1) (by omega)) ?_
    rintro e w2 ⟨v2, rfl, own2, x2⟩
    have X2 := x1.trans x2
    go_wp2_with fail
    refine Calls.mono (refPad _ _ l (hx.ext X2) (by omega)) ?_
    rintro e w3 ⟨v3, rfl, own3, x3⟩
    have X3 := X2.trans x3
    have hP2 := (IsB.of_owns own2).ext x3
    have hP3 := IsB.of_owns own3
    have hBB : (padL l == padL l) = true := by simp
    go_wp2_with fail
    refine Calls.mono (refSame _ v2 v3 (padL l) (padL l) hP2 hP3) ?_
    rintro e w4 ⟨rfl, hw4⟩
    have x4 := toExt hw4
    have X4 := X3.trans x4
    rw [hBB]
    clear hw4 hP2 hP3 own2 own3 hBB
    go_wp2_with fail
    refine Calls.mono (shaConstants _ (hK.ext X4)) ?_
    rintro e w5 ⟨rfl, x5⟩
    go_wp2_with fail
    refine Calls.mono (refConstants _) ?_
    rintro e w6 ⟨rfl, x6⟩
    have heq := equal_64 w6
    have X6 := X4.trans (x5.trans x6)
    go_wp2_with fail
    refine Calls.mono (refTable _) ?_
    rintro e w7 ⟨rfl, x7⟩
    go_wp2_with fail
    refine Calls.mono (refConstants _) ?_
    rintro e w8 ⟨rfl, x8⟩
    have heq8 := equal_64 w8
    have X8 := X6.trans (x7.trans x8)
    clear heq
    go_wp2_with fail
    refine Calls.mono (shaStart _ (hK.ext X8)) ?_
    rintro e w9 ⟨rfl, x9⟩
    go_wp2_with fail
    refine Calls.mono (refStart' _) ?_
    rintro e wa ⟨rfl, xa⟩
    have heqa := equal_8 wa startS
    clear heq8
    go_wp2
    go_ret
    exact ⟨rfl, X8.trans (x9.trans xa)⟩
end Go.Proofs.YtfnmfnihgocheaaDoor
