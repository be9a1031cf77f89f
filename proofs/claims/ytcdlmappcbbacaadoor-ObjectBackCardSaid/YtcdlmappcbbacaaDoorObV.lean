/- The walk of the statements' 'wakes'. -/
import Derived.Test.YtcdlmappcbbacaaDoorObU
import Derived.Test.YtcdlmappcbbacaaDoorObO
namespace Go.Proofs.YtcdlmappcbbacaaDoor
open Go.RowKit
set_option linter.unusedVariables false
set_option linter.unusedSimpArgs false

theorem note_empty : (⟨#[]⟩ : ByteArray).toList = [] := by rw [ByteArray.toList_eq]
theorem chk_a : checkB { zObj 1 with bytes := [97] } = true := by
  unfold checkB plainB restB headB
  simp [zObj, note_empty, entsB]
  decide
theorem chk_b : checkB (zObj 2) = true := by
  unfold checkB plainB restB headB
  simp [zObj, note_empty, entsB]
  decide
theorem enc_a : encO { zObj 1 with bytes := [97] } = [1, 0, 1, 97] := by
  unfold encO
  rw [chk_a]
  rfl
theorem dec_b : decP [2, 0] = (zObj 2, 0) := by
  have h : encB (zObj 2) = [2, 0] := by rfl
  rw [← h]
  exact dec_enc chk_b (zObj_ok 2 (by decide))
theorem name_a : nameB ⟨#[97, 46, 103, 111]⟩ = true := by
  unfold nameB endOk
  simp only [ByteArray.toList_eq]
  decide

set_option maxHeartbeats 8000000 in
set_option maxRecDepth 100000 in
theorem wakes05 (w : World) : Calls Tryd.prog 5 #[] w fun e w' => e = .returned (.bool true) ∧ Ext w w' := by
  go_enter Tryd.func5, Tryd.ntmps5
  go_wp2_with fail
  have hO : IsObj (w.alloc (.cells #[.int .u8 97] 5)) (objC (.slice (some ⟨w.heap.size, 0, none⟩) 1 1) (.slice none 0 0) (.slice none 0 0) { zObj 1 with bytes := [97] }).toArray (.slice (some ⟨w.heap.size, 0, none⟩) 1 1) (.slice none 0 0) (.slice none 0 0) { zObj 1 with bytes := [97] } :=
    ⟨rfl, ⟨by decide, by decide, by simp [zObj], by simp [zObj], rfl, by simp [zObj], by simp [zObj], by decide, Nat.zero_le _⟩, IsB.new [97] rfl rfl rfl (by decide), IsSl.nil _ _, IsSl.nil _ _⟩
  refine Calls.mono (objEncode _ _ _ _ _ _ hO) ?_
  rintro e w1 ⟨v1, rfl, own1, x1⟩
  rw [enc_a] at own1
  rw [chk_a]
  unfold chkE
  rw [if_pos rfl]
  obtain ⟨g1, c1, rfl⟩ := row_form own1 (by decide)
  have X1 := ((Ext.refl w).alloc (.cells #[.int .u8 97] 5)).trans x1
  have q3 : w1.cell? ⟨g1, 3, none⟩ = some (.int .u8 97) := own1.cellAt 3 (by decide)
  clear own1 hO
  go_wp2_with fail
  refine Calls.mono (objDecode _ _ [2, 0] (IsB.new [2, 0] rfl rfl rfl (by decide)) (by decide)) ?_
  rintro e w2 ⟨QR, vb, ve, vp, rfl, hR, x2⟩
  rw [dec_b] at hR ⊢
  have X2 := (X1.alloc (.cells #[.int .u8 2, .int .u8 0] 5)).trans x2
  have q3 := x2.cell (((Ext.refl w1).alloc (.cells #[.int .u8 2, .int .u8 0] 5)).cell q3)
  have hsz := hR.size
  have hob := hR.one
  have hA := (obj_at (heap_alloc_new w2 (.cells QR 29)) hR.eq hR.ok).c0
  have hA : (w2.alloc (.cells QR 29)).cell? ⟨w2.heap.size, 0, none⟩ = some (.int .i64 2) := hA
  have X3 := X2.alloc (.cells QR 29)
  have q3 := ((Ext.refl w2).alloc (.cells QR 29)).cell q3
  have hinfo := hR.info
  clear hR
  go_wp2_with (first
    | ((with_reducible refine at_store 29 (.tmp 3) (.tmp 14) ?_); refine wpl_store (by rfl) 29 (.tmp 3) (.tmp 14) rfl w2.heap.size QR (by rfl) (by rfl) 29 _ (heap_alloc_new _ _) hinfo (by rw [hsz]; rfl) hob ?_; rw [World.setRow_alloc_new])
    | (go_at_call 18; refine Calls.mono (objName _ _ (by decide)) ?_; rw [name_a]; rintro e w3 ⟨rfl, x3⟩))
  go_ret
  exact ⟨rfl, X3.trans x3⟩
end Go.Proofs.YtcdlmappcbbacaaDoor
