/- The walk of sha's Text. -/
import Derived.Test.YtfnmfnihgocheaaDoorShE
import Derived.Test.YtfnmfnihgocheaaDoorIdE
import Derived.Laws.IdiomStrings
import Derived.Lib.BufferRead
namespace Go.Proofs.YtfnmfnihgocheaaDoor
open Go.RowKit
set_option linter.unusedVariables false
set_option linter.unusedSimpArgs false

def digS : List UInt8 := [48, 49, 50, 51, 52, 53, 54, 55, 56, 57, 97, 98, 99, 100, 101, 102]
def hexB (c : UInt8) : List UInt8 := [digS.getD (c.toNat / 16) 0, digS.getD (c.toNat % 16) 0]
/-- The digits of a digest. -/
def textL (l : List UInt8) : List UInt8 := l.flatMap hexB

theorem and15 : ∀ c : Nat, c < 256 → bits BinOp.and IntKind.u8 (c : Int) 15 = (c : Int) % 16 := by
  decide +kernel
theorem dig_get : ∀ j : Nat, (h : j < 16) → (⟨#[48, 49, 50, 51, 52, 53, 54, 55, 56, 57, 97, 98, 99, 100, 101, 102]⟩ : ByteArray)[j]'h = digS.getD j 0 := by
  decide +kernel

set_option maxHeartbeats 4000000 in
set_option maxRecDepth 100000 in
theorem shaText (w : World) (l : List UInt8) (hl : l.length = 32) :
    Calls Tryd.prog 25 #[.agg (l.map bc).toArray] w fun e w' => e = .returned (.string ⟨(textL l).toArray⟩) ∧ Ext w w' := by
  have hQs : (Tryd.prog.info? 25).map (·.size) = some (l.map bc).toArray.size := by rw [List.size_toArray, List.length_map, hl]; kernel_rfl
  have hQi : ∀ i (hi : i < l.length), (l.map bc).toArray[i]? = some (.int .u8 (l[i].toNat : Int)) := by
    intro i hi
    simp [bc, hi]
  generalize (l.map bc).toArray = QA at *
  go_enter Tryd.func25, Tryd.ntmps25
  go_wp2_with (refine wpList_load_row rfl 25 (.tmp 1) rfl w.heap.size (by rfl) 25 QA (0, 0) _ (heap_alloc_new _ _) Tryd.underlying25 rfl hQs ?_)
  go_loopg [3, 7] 32 (fun g s3 s7 wr => ∃ i : Nat, i ≤ 32 ∧ 32 - i ≤ g ∧ s7 = .int .i64 i ∧ wr.ownsRow w.heap.size 5 1 s3 (2 * i) ((textL (l.take i)).map bc) ∧ Ext w wr)
  case atStart => exact ⟨0, Nat.zero_le _, by omega, rfl, World.ownsRow_nil _ _ _ _, (Ext.refl _).alloc _⟩
  case round =>
    obtain ⟨r, hi, hg, rfl, hown, xr⟩ := hrel
    by_cases hlt : r < 32
    · have hix := run_index_id wr QA r hlt _ (hQi r (by omega))
      have hstep : textL (l.take (r + 1)) = textL (l.take r) ++ hexB l[r] := by
        unfold textL
        rw [List.take_add_one, List.getElem?_eq_getElem (by omega), List.flatMap_append]
        simp
      obtain ⟨c, hc⟩ : ∃ c : Nat, l[r].toNat = c := ⟨_, rfl⟩
      have hc2 : c < 256 := by rw [← hc]; exact l[r].toNat_lt
      have hhex : hexB l[r] = [digS.getD (c / 16) 0, digS.getD (c % 16) 0] := by unfold hexB; rw [hc]
      rw [hhex] at hstep
      have HS := Lib.hid hstep
      rw [hc] at hix
      clear hstep hhex hc
      have n1 : (0 : Int) ≤ (c : Int) / 16 := by omega
      have n2 : (c : Int) / 16 < 16 := by omega
      have n3 := and15 c hc2
      have n4 : (0 : Int) ≤ (c : Int) % 16 := by omega
      have n5 : (c : Int) % 16 < 16 := by omega
      go_wp2_with fail
      refine wp_region_noPanic ?_
      refine wp_region_any (by kernel_rfl) ?_
      refine wpAny_take (i := 0) (v := ?v0) rfl (by kernel_rfl) (by kernel_rfl) (by kernel_rfl) (fun _ _ _ h => h) (Or.inl ⟨by rfl, ?hy0⟩) ?_
      case hy0 => intro w; go_simp; try with_reducible rfl
      simp only [Act.put, List.setIfInBounds_toArray, List.set_cons_zero, List.set_cons_succ, List.getElem_toArray, List.getElem_cons_zero, List.getElem_cons_succ]
      refine wpAny_take (i := 1) (v := ?v1) rfl (by kernel_rfl) (by kernel_rfl) (by kernel_rfl) (fun _ _ _ h => h) (Or.inl ⟨by rfl, ?hy1⟩) ?_
      case hy1 => intro w; go_simp; try with_reducible rfl
      simp only [Act.put, List.setIfInBounds_toArray, List.set_cons_zero, List.set_cons_succ, List.getElem_toArray, List.getElem_cons_zero, List.getElem_cons_succ]
      refine wpAny_take (i := 2) (v := ?v2) rfl (by kernel_rfl) (by kernel_rfl) (by kernel_rfl) (fun _ _ _ h => h) (Or.inl ⟨by rfl, ?hy2⟩) ?_
      case hy2 => intro w; go_simp; try with_reducible rfl
      simp only [Act.put, List.setIfInBounds_toArray, List.set_cons_zero, List.set_cons_succ, List.getElem_toArray, List.getElem_cons_zero, List.getElem_cons_succ]
      refine wpAny_take (i := 3) (v := ?v3) rfl (by kernel_rfl) (by kernel_rfl) (by kernel_rfl) (fun _ _ _ h => h) (Or.inl ⟨by rfl, ?hy3⟩) ?_
      case hy3 => intro w; go_simp; try with_reducible rfl
      simp only [Act.put, List.setIfInBounds_toArray, List.set_cons_zero, List.set_cons_succ, List.getElem_toArray, List.getElem_cons_zero, List.getElem_cons_succ]
      refine wpAny_take (i := 4) (v := ?v4) rfl (by kernel_rfl) (by kernel_rfl) (by kernel_rfl) (fun _ _ _ h => h) (Or.inl ⟨by rfl, ?hy4⟩) ?_
      case hy4 => intro w; go_simp; try with_reducible rfl
      simp only [Act.put, List.setIfInBounds_toArray, List.set_cons_zero, List.set_cons_succ, List.getElem_toArray, List.getElem_cons_zero, List.getElem_cons_succ]
      refine wpAny_take (i := 5) (v := ?v5) rfl (by kernel_rfl) (by kernel_rfl) (by kernel_rfl) (fun _ _ _ h => h) (Or.inl ⟨by rfl, ?hy5⟩) ?_
      case hy5 => intro w; go_simp; try with_reducible rfl
      simp only [Act.put, List.setIfInBounds_toArray, List.set_cons_zero, List.set_cons_succ, List.getElem_toArray, List.getElem_cons_zero, List.getElem_cons_succ]
      refine wpAny_take (i := 6) (v := ?v6) rfl (by kernel_rfl) (by kernel_rfl) (by kernel_rfl) (fun _ _ _ h => h) (Or.inl ⟨by rfl, ?hy6⟩) ?_
      case hy6 => intro w; go_simp; try with_reducible rfl
      simp only [Act.put, List.setIfInBounds_toArray, List.set_cons_zero, List.set_cons_succ, List.getElem_toArray, List.getElem_cons_zero, List.getElem_cons_succ]
      refine wpAny_all (rs := [7]) (by kernel_rfl) (by simp) ?_
      intro i hi3
      obtain rfl : i = 7 := by simpa using hi3
      refine wpOp_run rfl (by rfl) ?_
      go_simp
      have k1 : ((c : Int) / 16).toNat = c / 16 := by omega
      have k2 : ((c : Int) % 16).toNat = c % 16 := by omega
      simp only [k1, k2, dig_get]
      generalize hd1 : digS.getD (c / 16) 0 = d1 at *
      generalize hd2 : digS.getD (c % 16) 0 = d2 at *
      obtain ⟨i0, hi0, hz0, hz1, hz2⟩ := info_parts infoByte
      have own1 : ((wr.alloc (.cells #[.int .u8 (d1.toNat : Int), .int .u8 (d2.toNat : Int)] 5)).drew).ownsRow w.heap.size 5 1 u3 (2 * r) ((textL (l.take r)).map bc) := ownsRow_ext hown (((Ext.refl wr).alloc _).drew)
      refine wpAny_all (rs := [8]) (by kernel_rfl) (by simp) ?_
      intro i hi3
      obtain rfl : i = 8 := by simpa using hi3
      refine wpOp_run rfl (by rfl) (wp_append_own _ (.tmp 10) (.tmp 17) 22 rfl w.heap.size 5 i0 (.int .u8 0) 1 1 Tryd.underlying22 hi0 hz0 hz1 hz2 rfl (by omega) u3 (2 * r) _ (by rfl) own1 ⟨wr.heap.size, 0, none⟩ 2 2 [bc d1, bc d2] (by rfl) rfl ?_ (bc_one [d1, d2]) (by unfold maxLen; omega) (by omega) (by have := xr.size; simp; omega) ?_)
      · intro j u hj
        rw [Addr.add_lit, Nat.zero_add]
        show (wr.alloc (.cells #[bc d1, bc d2] 5)).cell? ⟨wr.heap.size, j, none⟩ = some u
        rw [World.cell?_alloc_new, ← hj, ← Array.getElem?_toList]
      intro v' w' own' gr' _
      have x' := own_base own1 gr' ((xr.alloc (.cells #[.int .u8 (d1.toNat : Int), .int .u8 (d2.toNat : Int)] 5)).drew) (Nat.le_refl _)
      refine wpAny_all (rs := [9]) (by kernel_rfl) (by simp) ?_
      intro i hi3
      obtain rfl : i = 9 := by simpa using hi3
      refine wpOp_run rfl (by rfl) ?_
      go_simp
      refine wpAny_done (by kernel_rfl) ?_ _
      refine NoPanic.normal ?_
      go_wp2_with fail
      go_roundg (32 - (r + 1))
      case measure => omega
      case rel => exact ⟨r + 1, by omega, by omega, by go_num, by rw [HS.out, List.map_append]; exact own', x'⟩
    · have : r = 32 := by omega
      subst this
      rw [List.take_of_length_le (by omega)] at hown
      have hB : IsB wr _ (textL l) := IsB.of_owns hown
      have hcv := conv_str (P := Tryd.prog) hB 22 9 5 Tryd.underlying22 Tryd.underlying5 Tryd.underlying9
      go_wp2
      go_ret
      exact ⟨rfl, xr⟩
end Go.Proofs.YtfnmfnihgocheaaDoor
