/- Digests held against each other; the walk of the statement ShaSums. -/
import Derived.Test.YtfnmfnihgocheaaDoorShH
import Derived.ChangeKeysEq
import Derived.Laws.StructEq
namespace Go.Proofs.YtfnmfnihgocheaaDoor
open Go.RowKit
set_option linter.unusedVariables false
set_option linter.unusedSimpArgs false


set_option maxHeartbeats 4000000 in
set_option maxRecDepth 100000 in
theorem walkShaSums (w : World) (v : Value) (l : List UInt8) (h : IsB w v l) (hK : Tabs w) :
    Calls Tryd.prog 3 #[v] w fun e w' => e = .returned (.bool true) ∧ Below w.heap.size w w' := by
  have hx := h
  obtain ⟨ao, cap, rfl, b1, m1, z1, g1⟩ := h.opened
  clear z1 g1 h
  go_enter Tryd.func3, Tryd.ntmps3
  go_wp2_with fail
  refine Calls.mono (wakes03 _ hK) ?_
  rintro e w1 ⟨rfl, x1⟩
  by_cases hlen : l.length > 3000
  · go_wp2
    go_ret
    exact ⟨rfl, x1⟩
  · go_wp2_with fail
    refine Calls.mono (shaSum _ _ l (hx.ext x1) (by omega) (hK.ext x1)) ?_
    rintro e w2 ⟨rfl, x2⟩
    go_wp2_with fail
    refine Calls.mono (refSum _ _ l (hx.ext (x1.trans x2)) (by omega)) ?_
    rintro e w3 ⟨rfl, x3⟩
    have heq := equal_id w3 (shaL l) (shaL l) (shaL_len l) (shaL_len l)
    rw [decide_eq_true rfl] at heq
    generalize ((shaL l).map bc).toArray = A at *
    go_wp2
    go_ret
    exact ⟨rfl, (x1.trans x2).trans x3⟩
end Go.Proofs.YtfnmfnihgocheaaDoor
