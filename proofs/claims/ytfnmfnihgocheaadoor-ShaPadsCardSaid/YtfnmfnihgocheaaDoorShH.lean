/- The walk of law03's wakes. -/
import Derived.Test.YtfnmfnihgocheaaDoorShF
import Derived.Test.YtfnmfnihgocheaaDoorShG
import Derived.Lib.SmallJoins
namespace Go.Proofs.YtfnmfnihgocheaaDoor
open Go.RowKit
set_option linter.unusedVariables false

theorem IsB.newF {w : World} {e : TypeId} {f : Nat × Nat} {c : Array Value} {n b : Nat} (l : List UInt8) (hb : w.heap.size = b) (hn : l.length = n) (hc : c.toList = l.map bc) (hm : n ≤ 9223372036854775807) : IsB (w.alloc (.cells c e f)) (.slice (some ⟨b, 0, none⟩) n n) l := by
  subst hn
  subst hb
  refine ⟨by simp, _, _, rfl, Nat.le_refl _, hm, (fun h => by cases h), fun i hi => ⟨_, 0, rfl, ?_⟩⟩
  rw [Nat.zero_add, block_cell (heap_alloc_new w (.cells c e f)), ← hc, Array.getElem?_toList]

theorem wk_abc : textL (shaL [97, 98, 99]) = [98, 97, 55, 56, 49, 54, 98, 102, 56, 102, 48, 49, 99, 102, 101, 97, 52, 49, 52, 49, 52, 48, 100, 101, 53, 100, 97, 101, 50, 50, 50, 51, 98, 48, 48, 51, 54, 49, 97, 51, 57, 54, 49, 55, 55, 97, 57, 99, 98, 52, 49, 48, 102, 102, 54, 49, 102, 50, 48, 48, 49, 53, 97, 100] := by
  decide +kernel

set_option maxHeartbeats 4000000 in
set_option maxRecDepth 100000 in
theorem wakes03 (w : World) (hK : Tabs w) : Calls Tryd.prog 9 #[] w fun e w' => e = .returned (.bool true) ∧ Ext w w' := by
  have hcv := Lib.run_convert_bytes_const (P := Tryd.prog) w 22 5 #[.int .u8 97, .int .u8 98, .int .u8 99] 3 3 Tryd.underlying22 Tryd.underlying5
  go_enter Tryd.func9, Tryd.ntmps9
  go_wp2_with fail
  refine Calls.mono (shaSum _ _ [97, 98, 99] (IsB.newF [97, 98, 99] rfl rfl rfl (by decide)) (by simp) (hK.ext ((Ext.refl _).alloc _))) ?_
  rintro e w1 ⟨rfl, x1⟩
  go_wp2_with fail
  refine Calls.mono (shaText _ _ (shaL_len _)) ?_
  rintro e w2 ⟨rfl, x2⟩
  rw [wk_abc]
  go_wp2
  go_ret
  exact ⟨rfl, (((Ext.refl w).alloc _).trans x1).trans x2⟩
end Go.Proofs.YtfnmfnihgocheaaDoor
