/- The walk of sha's Less. -/
import Derived.Test.YtfnmfnihgocheaaDoorShI
namespace Go.Proofs.YtfnmfnihgocheaaDoor
open Go.RowKit
set_option linter.unusedVariables false
set_option linter.unusedSimpArgs false

def lessL : List UInt8 → List UInt8 → Bool
  | [], _ => false
  | _ :: _, [] => false
  | a :: x, b :: y => if a = b then lessL x y else decide (a.toNat < b.toNat)

set_option maxHeartbeats 4000000 in
set_option maxRecDepth 100000 in
theorem shaLess (w : World) (l1 l2 : List UInt8) (h1 : l1.length = 32) (h2 : l2.length = 32) :
    Calls Tryd.prog 28 #[.agg (l1.map bc).toArray, .agg (l2.map bc).toArray] w fun e w' => e = .returned (.bool (lessL l1 l2)) ∧ Ext w w' := by
  generalize hL : lessL l1 l2 = L
  go_enter Tryd.func28, Tryd.ntmps28
  go_wp2_with fail
  have b0 := blk_old (o := .cells (l2.map bc).toArray 25) (heap_alloc_new w (.cells (l1.map bc).toArray 25))
  have b1 := blk_new (w := w.alloc (.cells (l1.map bc).toArray 25)) (b := w.heap.size + 1) (o := .cells (l2.map bc).toArray 25) (by simp)
  have X1 : Ext w ((w.alloc (.cells (l1.map bc).toArray 25)).alloc (.cells (l2.map bc).toArray 25)) := ((Ext.refl w).alloc _).alloc _
  generalize hG : w.heap.size = G at *
  go_loopg [6] 32 (fun g s6 wr => ∃ k : Nat, k ≤ 32 ∧ 32 - k ≤ g ∧ s6 = .int .i64 k ∧ L = lessL (l1.drop k) (l2.drop k) ∧ wr.heap[G]? = some (.cells (l1.map bc).toArray 25 (0, 0)) ∧ wr.heap[G + 1]? = some (.cells (l2.map bc).toArray 25 (0, 0)) ∧ Ext w wr)
  case atStart => exact ⟨0, Nat.zero_le _, by omega, rfl, hL.symm, b0, b1, X1⟩
  case round =>
    clear b0 b1 X1 hL
    obtain ⟨k, hk, hg, rfl, heq, b0, b1, xr⟩ := hrel
    by_cases hlt : k < 32
    · have c0 : wr.cell? ⟨G, k, none⟩ = some (.int .u8 (l1[k].toNat : Int)) := by rw [block_cell b0]; simp [bc, show k < l1.length from by omega]
      have c1 : wr.cell? ⟨G + 1, k, none⟩ = some (.int .u8 (l2[k].toNat : Int)) := by rw [block_cell b1]; simp [bc, show k < l2.length from by omega]
      rw [List.drop_eq_getElem_cons (show k < l1.length from by omega), List.drop_eq_getElem_cons (show k < l2.length from by omega), lessL] at heq
      generalize l1[k] = x at *
      generalize l2[k] = y at *
      have HB0 := Lib.hid b0
      have HB1 := Lib.hid b1
      clear b0 b1
      by_cases hxy : x = y
      · rw [if_pos hxy] at heq
        have HE := Lib.hid heq
        have e1 := u8_eq x
        subst hxy
        clear heq
        go_wp2_with fail
        go_quiet (fail)
        go_wp2_with fail
        go_roundg (32 - (k + 1))
        case measure => omega
        case rel => exact ⟨k + 1, by omega, by omega, by go_num, HE.out, ((Ext.refl wr).drewN _).keeps HB0.out, ((Ext.refl wr).drewN _).keeps HB1.out, xr.drewN _⟩
      · rw [if_neg hxy] at heq
        have HE := Lib.hid heq
        have e1 := u8_ne hxy
        clear heq
        go_wp2_with fail
        go_quiet (fail)
        go_wp2_with fail
        go_quiet (fail)
        go_wp2
        go_ret
        exact ⟨by rw [HE.out]; rfl, (xr.drewN _).drewN _⟩
    · have : k = 32 := by omega
      subst this
      have hE : L = false := by rw [heq, List.drop_eq_nil_of_le (by omega)]; rfl
      clear heq
      go_wp2
      go_ret
      exact ⟨by rw [hE]; rfl, xr⟩
end Go.Proofs.YtfnmfnihgocheaaDoor
