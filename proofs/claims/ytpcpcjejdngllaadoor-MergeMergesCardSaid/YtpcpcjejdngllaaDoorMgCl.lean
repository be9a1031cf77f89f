/- The walk of merge.Clashes. -/
import Derived.Test.YtpcpcjejdngllaaDoorMgR
import Derived.Test.YtpcpcjejdngllaaDoorMgG
namespace Go.Proofs.YtpcpcjejdngllaaDoor
open Go.RowKit
set_option linter.unusedVariables false
set_option linter.unusedSimpArgs false

/-- The paths of the clashes, and the error. -/
def clashesL (f0 f1 f2 : List Fl) : List ByteArray × Int :=
  if (repoB f0 && (repoB f1 && repoB f2)) = false then ([], 170) else ((clsL (trosM f0 f1 f2)).map Prod.fst, 0)
theorem trosM_len {f0 f1 f2 : List Fl} (h0 : f0.length ≤ 1000) (h1 : f1.length ≤ 1000) (h2 : f2.length ≤ 1000) : (trosM f0 f1 f2).length ≤ 3000 := by
  unfold trosM trosL pathsL
  rw [List.length_map]
  have := foldP_len (allP [f0, f1, f2]) []
  simp [allP] at this
  simp [allP]
  omega

set_option maxHeartbeats 8000000 in
set_option maxRecDepth 100000 in
theorem mergeClashes (w : World) (v0 v1 v2 : Value) (f0 f1 f2 : List Fl) (h0 : IsF w v0 f0) (h1 : IsF w v1 f1) (h2 : IsF w v2 f2) :
    Calls Tryd.prog 13 #[.agg #[v0], .agg #[v1], .agg #[v2]] w fun e w' => ∃ v, e = .returned (.tuple #[v, .int .i64 (clashesL f0 f1 f2).2]) ∧
      IsStr w' v (clashesL f0 f1 f2).1 ∧ Ext w w' := by
  obtain ⟨D, hD⟩ : ∃ D, clashesL f0 f1 f2 = D := ⟨_, rfl⟩
  rw [hD]
  have HD := Lib.hid hD
  clear hD
  obtain ⟨a0, c0, rfl, -⟩ := h0.opened
  obtain ⟨a1, c1, rfl, -⟩ := h1.opened
  obtain ⟨a2, c2, rfl, -⟩ := h2.opened
  have X5 : Ext w ((((w.alloc (.cells #[.slice a0 f0.length c0] 24)).alloc (.cells #[.slice a1 f1.length c1] 24)).alloc (.cells #[.slice a2 f2.length c2] 24)).alloc (.cells #[.slice a0 f0.length c0, .slice a1 f1.length c1, .slice a2 f2.length c2] 24)) := ((((Ext.refl w).alloc _).alloc _).alloc _).alloc _
  have q0 := blk_old (o := (.cells #[.slice a0 f0.length c0, .slice a1 f1.length c1, .slice a2 f2.length c2] 24)) (blk_old (o := (.cells #[.slice a2 f2.length c2] 24)) (blk_old (o := (.cells #[.slice a1 f1.length c1] 24)) (heap_alloc_new w (.cells #[.slice a0 f0.length c0] 24))))
  have q1 := blk_old (o := (.cells #[.slice a0 f0.length c0, .slice a1 f1.length c1, .slice a2 f2.length c2] 24)) (blk_old (o := (.cells #[.slice a2 f2.length c2] 24)) (blk_new (w := w.alloc (.cells #[.slice a0 f0.length c0] 24)) (b := w.heap.size + 1) (o := (.cells #[.slice a1 f1.length c1] 24)) (by simp)))
  have q2 := blk_old (o := (.cells #[.slice a0 f0.length c0, .slice a1 f1.length c1, .slice a2 f2.length c2] 24)) (blk_new (w := (w.alloc (.cells #[.slice a0 f0.length c0] 24)).alloc (.cells #[.slice a1 f1.length c1] 24)) (b := w.heap.size + 1 + 1) (o := (.cells #[.slice a2 f2.length c2] 24)) (by simp))
  have q4 := blk_new (w := ((w.alloc (.cells #[.slice a0 f0.length c0] 24)).alloc (.cells #[.slice a1 f1.length c1] 24)).alloc (.cells #[.slice a2 f2.length c2] 24)) (b := w.heap.size + 1 + 1 + 1) (o := (.cells #[.slice a0 f0.length c0, .slice a1 f1.length c1, .slice a2 f2.length c2] 24)) (by simp)
  go_enter Tryd.func13, Tryd.ntmps13
  go_wp2_with fail
  generalize (((w.alloc (.cells #[.slice a0 f0.length c0] 24)).alloc (.cells #[.slice a1 f1.length c1] 24)).alloc (.cells #[.slice a2 f2.length c2] 24)).alloc (.cells #[.slice a0 f0.length c0, .slice a1 f1.length c1, .slice a2 f2.length c2] 24) = w5 at *
  generalize hG : w.heap.size = G at *
  have HF0 := Lib.hid (h0.ext X5)
  have HF1 := Lib.hid (h1.ext X5)
  have HF2 := Lib.hid (h2.ext X5)
  clear h0 h1 h2
  refine Calls.mono (mergeChecked w5 _ [(_, f0), (_, f1), (_, f2)] (isRs3 q4 HF0.out HF1.out HF2.out) (by simp)) ?_
  rintro e w6 ⟨rfl, x6⟩
  have hall : ([((.slice a0 f0.length c0 : Value), f0), ((.slice a1 f1.length c1 : Value), f1), ((.slice a2 f2.length c2 : Value), f2)].all fun x => repoB x.2) = (repoB f0 && (repoB f1 && repoB f2)) := by simp
  rw [hall]
  clear hall q4
  have X6 := X5.trans x6
  have r0 : w6.cell? ⟨G, 0, none⟩ = some (.slice a0 f0.length c0) := by rw [block_cell (x6.keeps q0)]; rfl
  have r1 : w6.cell? ⟨G + 1, 0, none⟩ = some (.slice a1 f1.length c1) := by rw [block_cell (x6.keeps q1)]; rfl
  have r2 : w6.cell? ⟨G + 1 + 1, 0, none⟩ = some (.slice a2 f2.length c2) := by rw [block_cell (x6.keeps q2)]; rfl
  clear q0 q1 q2
  cases hrr : (repoB f0 && (repoB f1 && repoB f2)) with
  | false =>
    obtain rfl : ([], 170) = D := by rw [← HD.out]; unfold clashesL; rw [hrr]; rfl
    simp only [show errR false = 170 from rfl]
    go_wp2_with fail
    refine bodyPost_ret (results_TT rfl _ _) rfl ?_
    exact ⟨_, rfl, IsSl.nil _ _, X6⟩
  | true =>
    have hD2 : D = ((clsL (trosM f0 f1 f2)).map Prod.fst, 0) := by rw [← HD.out]; unfold clashesL; rw [hrr]; rfl
    simp only [show errR true = 0 from rfl]
    have hb := hrr
    simp only [Bool.and_eq_true] at hb
    obtain ⟨hb0, hb1, hb2⟩ := hb
    have e0 := repo_len hb0
    have e1 := repo_len hb1
    have e2 := repo_len hb2
    have hxl := Nat.le_trans (clsL_len _) (trosM_len (f0 := f0) (f1 := f1) (f2 := f2) (by omega) (by omega) (by omega))
    go_wp2_with fail
    refine Calls.mono (mergeFound w6 _ _ _ f0 f1 f2 (HF0.out.ext x6) (HF1.out.ext x6) (HF2.out.ext x6) (repo_sorted hb0) (repo_sorted hb1) (repo_sorted hb2) (by omega) (by omega) (by omega)) ?_
    rintro e w7 ⟨vc, vr, rfl, ownC, ownR, x7⟩
    have hC : clsL (trosL f0 f1 f2 (pathsL [f0, f1, f2])) = clsL (trosM f0 f1 f2) := rfl
    rw [hC] at ownC
    clear hC HD
    generalize clsL (trosM f0 f1 f2) = CL at *
    have HD2 := Lib.hid hD2
    clear hD2
    generalize mgdL (trosL f0 f1 f2 (pathsL [f0, f1, f2])) = ML at *
    obtain ⟨ac, cc, rfl⟩ := slice_shape ownC
    obtain ⟨ar, cr, rfl⟩ := slice_shape ownR
    have x8 : Ext w6 (w7.alloc (.cells #[.slice ar ML.length cr] 24)) := x7.alloc _
    have IC : IsC w7 (.slice ac CL.length cc) CL := ⟨IsSl.of_owns ownC⟩
    have IC := IC.ext ((Ext.refl w7).alloc (.cells #[.slice ar ML.length cr] 24))
    have X8 := X6.trans x8
    clear ownC ownR r0 r1 r2 hrr hb0 hb1 hb2 x7 x8 e0 e1 e2
    obtain ⟨_, _, e1, hb1, hm1, _, g1⟩ := IC.opened
    simp only [Value.slice.injEq, true_and] at e1
    obtain ⟨rfl, rfl⟩ := e1
    have G1 := Lib.hid g1
    clear g1 IC
    go_wp2_with fail
    generalize w7.alloc (.cells #[.slice ar ML.length cr] 24) = w8 at *
    go_loopg [11, 32] CL.length (fun g s11 s32 wr => ∃ k : Nat, k ≤ CL.length ∧ CL.length - k ≤ g ∧ s32 = .int .i64 (k : Int) ∧ wr.ownsRow w8.heap.size 9 1 s11 k (((CL.take k).map Prod.fst).map .string) ∧ Ext w8 wr)
    case atStart => exact ⟨0, by omega, by omega, rfl, World.ownsRow_nil _ _ _ _, Ext.refl _⟩
    case round =>
      obtain ⟨k, hk, hg, rfl, own, xr⟩ := hrel
      by_cases hlt : k < CL.length
      · obtain ⟨p1, o1, rfl, e0, e1, e2, e3, e4, e5, e6⟩ := G1.out k hlt
        have e0 := xr.cell e0
        have e1 := xr.cell e1
        have e2 := xr.cell e2
        have e3 := xr.cell e3
        have e4 := xr.cell e4
        have e5 := xr.cell e5
        have e6 := xr.cell e6
        have HT := Lib.hid (show (CL.take (k + 1)).map Prod.fst = (CL.take k).map Prod.fst ++ [CL[k].1] by rw [List.take_succ_eq_append_getElem hlt, List.map_append]; rfl)
        generalize (CL.take k).map Prod.fst = F at *
        generalize CL[k] = z at *
        obtain ⟨z0, ⟨d0, t0⟩, ⟨d1, t1⟩, ⟨d2, t2⟩⟩ := z
        dsimp only at e0 e1 e2 e3 e4 e5 e6 HT
        have bN := heap_alloc_new wr (.cells #[.string z0, .string t0, .string t1, .string t2, .bool d0, .bool d1, .bool d2] 40)
        have y := (Ext.refl wr).alloc (.cells #[.string z0, .string t0, .string t1, .string t2, .bool d0, .bool d1, .bool d2] 40)
        have n0 := (block_cell bN 0).trans (show _ = some (Value.string z0) from rfl)
        have own6 := (own.alloc (.cells #[.string z0, .string t0, .string t1, .string t2, .bool d0, .bool d1, .bool d2] 40)).alloc (.cells #[.string z0] 9)
        have xr6 := (xr.trans y).alloc (.cells #[.string z0] 9)
        have hw06 := xr6.size
        clear bN y
        go_wp2_with (at_builtin; go_must (refine wp_app (w := (wr.alloc (.cells #[.string z0, .string t0, .string t1, .string t2, .bool d0, .bool d1, .bool d2] 40)).alloc (.cells #[.string z0] 9)) tyS rfl (.tmp 36) (.tmp 39) rfl w8.heap.size _ k _ own6 (by rfl) _ 1 [.string z0] (sl_one_new (H := wr.heap.size + 1) (w := wr.alloc (.cells #[.string z0, .string t0, .string t1, .string t2, .bool d0, .bool d1, .bool d2] 40)) (n := 1) (e := 9) (Q := [.string z0]) (by simp) rfl) (by rfl) strv_one (by omega) (by omega) hw06 ?_); intro v7 w15 own7 gr7)
        have xw7 := own_base own6 gr7 xr6 (Nat.le_refl _)
        go_roundg (CL.length - (k + 1))
        case measure => omega
        case rel => exact ⟨k + 1, by omega, by omega, by go_num, by rw [HT.out, List.map_append]; exact own7, xw7⟩
      · obtain rfl : k = CL.length := by omega
        rw [List.take_of_length_le (Nat.le_refl _)] at own
        go_wp2_with fail
        refine bodyPost_ret (results_TT rfl _ _) rfl ?_
        have hl : (CL.map Prod.fst).length = CL.length := List.length_map _
        have own := IsSl.of_owns own
        rw [← hl] at own
        rw [HD2.out]
        exact ⟨_, rfl, own, X8.trans xr⟩
end Go.Proofs.YtpcpcjejdngllaaDoor
