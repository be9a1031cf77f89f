/- The walk of the reference's Apply. -/
import Derived.Test.YtglcjdiejnennaaGreatDoorRfKd
import Derived.Test.YtglcjdiejnennaaGreatDoorRegG
import Derived.Test.YtglcjdiejnennaaGreatDoorRegC
import Derived.Test.YtglcjdiejnennaaGreatDoorRegP
import Derived.Test.YtglcjdiejnennaaGreatDoorObL
import Derived.Deep.DeepAppendWide
import Derived.Deep.DeepCutAuto
namespace Go.Proofs.YtglcjdiejnennaaGreatDoor
open Go.RowKit
set_option linter.unusedVariables false
set_option linter.unusedSimpArgs false

set_option maxHeartbeats 40000000 in
set_option maxRecDepth 100000 in
theorem refApplyM (w : World) (v : Value) (l : List Rf) (h : IsR w v l) (hl : l.length ≤ 100) (m : Mv) (hm : MvOk m) (hcz : zr m.fr = true) :
    Calls Tryz.prog 21 #[.agg #[v], .agg (mvC m).toArray] w fun e w' => ∃ v', e = .returned (.tuple #[.agg #[v'], .int .i64 (applyS l m).2]) ∧ IsR w' v' (applyS l m).1 ∧ Ext w w' := by
  obtain ⟨zE, tyE⟩ := tyRf
  obtain ⟨R, hR⟩ : ∃ R, applyS l m = R := ⟨_, rfl⟩
  rw [hR]
  have HR := Lib.hid hR
  clear hR
  obtain ⟨ao, cap0, rfl⟩ := sl_len h.sl
  have HOK := Lib.hid h.ok
  obtain ⟨nm, fr, dst⟩ := m
  have HCZ := Lib.hid (show zr fr = true from hcz)
  clear hcz
  obtain ⟨hfl, hdl, hnl⟩ := hm
  simp only at hfl hdl hnl
  have hif : (Tryz.prog.info? 33).map (·.size) = some (fr.map bc).length := by simpa using id_size hfl
  have hit : (Tryz.prog.info? 33).map (·.size) = some (dst.map bc).length := by simpa using id_size hdl
  have efz := fun w => eql_id w fr z32 hfl rfl
  have etz := fun w => eql_id w dst z32 hdl rfl
  have nfz := fun w => neq_id w fr z32 hfl rfl
  have hw1 : ∀ W1 : World, W1 = w.alloc (.cells #[.slice ao l.length cap0] 63) → W1.heap.size = w.heap.size + 1 := fun _ e => by subst e; simp
  obtain ⟨w1, h1⟩ : ∃ w1, w1 = w.alloc (.cells #[.slice ao l.length cap0] 63) := ⟨_, rfl⟩
  obtain ⟨w2, h2⟩ : ∃ w2, w2 = w1.alloc (.cells (mvC ⟨nm, fr, dst⟩).toArray 65) := ⟨_, rfl⟩
  obtain ⟨w3, h3⟩ : ∃ w3, w3 = w2.alloc (.cells #[.slice none 0 0] 63) := ⟨_, rfl⟩
  obtain ⟨w5, h5⟩ : ∃ w5, w5 = w3.alloc (.cells (z32.map bc).toArray 33) := ⟨_, rfl⟩
  have s1 : w1.heap.size = w.heap.size + 1 := by rw [h1]; simp
  have s2 : w2.heap.size = w.heap.size + 2 := by rw [h2]; simp; omega
  have s3 : w3.heap.size = w.heap.size + 3 := by rw [h3]; simp; omega
  have e5 : Ext w3 w5 := by rw [h5]; exact (Ext.refl _).alloc _
  have e3 : Ext w2 w3 := by rw [h3]; exact (Ext.refl _).alloc _
  have e2 : Ext w1 w2 := by rw [h2]; exact (Ext.refl _).alloc _
  have e1 : Ext w w1 := by rw [h1]; exact (Ext.refl _).alloc _
  have b0 : w5.heap[w.heap.size]? = some (.cells #[.slice ao l.length cap0] 63 (0, 0)) := (e2.trans (e3.trans e5)).keeps (by rw [h1]; exact heap_alloc_new w _)
  have bM : w5.heap[w.heap.size + 1]? = some (.cells (mvC ⟨nm, fr, dst⟩).toArray 65 (0, 0)) := (e3.trans e5).keeps (by rw [← s1, h2]; exact heap_alloc_new w1 _)
  have bR : w5.heap[w.heap.size + 2]? = some (.cells #[.slice none 0 0] 63 (0, 0)) := e5.keeps (by rw [← s2, h3]; exact heap_alloc_new w2 _)
  have bZ : w5.heap[w.heap.size + 3]? = some (.cells (z32.map bc).toArray 33 (0, 0)) := by rw [← s3, h5]; exact heap_alloc_new w3 _
  have X : Ext w w5 := e1.trans (e2.trans (e3.trans e5))
  have HF := h.ext X
  have c2 := (block_cell b0 0).trans (show _ = some (Value.slice ao l.length cap0) from rfl)
  obtain ⟨cM, hfr, hto⟩ := mv_parts (m := ⟨nm, fr, dst⟩) ⟨hfl, hdl, hnl⟩ bM
  simp only at cM hfr hto
  obtain ⟨_, k1, m1⟩ := sl_cap h.sl
  clear h b0 bM e1 e2 e3 e5 hw1
  go_enter Tryz.func21, Tryz.ntmps21
  go_upto_region 1 with fail
  rw [← h1, ← h2, ← h3]
  have H5 := Lib.hid h5
  have S3 := Lib.hid s3
  clear h1 h2 h3 h5 s1 s2 s3
  go_upto_region 2 with ((with_reducible refine at_store 33 (.tmp 6) (.tmp 12) ?_); refine wpl_store (by rfl) 33 (.tmp 6) (.tmp 12) rfl _ (z32.map bc).toArray (by rfl) (by rfl) 33 _ (heap_alloc_new _ _) (id_size rfl) rfl (id_one _) ?_; rw [World.setRow_alloc_new])
  rw [← H5.out, S3.out]
  generalize hG : w.heap.size = G at *
  go_wp2_with fail
  refine Calls.mono (refRight09 _ _ l HF) ?_
  rintro e wA ⟨rfl, y⟩
  replace c2 := y.cell c2
  replace cM := y.cell cM
  replace hfr := rangeAt_ext hfr y
  replace hto := rangeAt_ext hto y
  replace bR := y.keeps bR
  replace bZ := y.keeps bZ
  replace X := X.trans y
  replace HF := HF.ext y
  clear y
  cases hr : okR l with
  | false =>
    obtain rfl : ([], 190) = R := by rw [← HR.out]; unfold applyS; simp [hr]
    have f0 := block_free bR 0
    have k0 := block_cell bR 0
    clear HR
    go_wp2_with (first
        | ((with_reducible refine at_load 33 (.tmp 23) ?_); refine wpl_mid (by rfl) 33 (.tmp 23) rfl (G + 1) 1 (by rfl) (fr.map bc) _ hfr Tryz.underlying33 rfl hif ?_)
        | ((with_reducible refine at_load 33 (.tmp 42) ?_); refine wpl_mid (by rfl) 33 (.tmp 42) rfl (G + 1) 1 (by rfl) (fr.map bc) _ hfr Tryz.underlying33 rfl hif ?_)
        | ((with_reducible refine at_load 33 (.tmp 51) ?_); refine wpl_mid (by rfl) 33 (.tmp 51) rfl (G + 1) 1 (by rfl) (fr.map bc) _ hfr Tryz.underlying33 rfl hif ?_)
        | ((with_reducible refine at_load 33 (.tmp 62) ?_); refine wpl_mid (by rfl) 33 (.tmp 62) rfl (G + 1) 1 (by rfl) (fr.map bc) _ hfr Tryz.underlying33 rfl hif ?_)
        | ((with_reducible refine at_load 33 (.tmp 28) ?_); refine wpl_mid (by rfl) 33 (.tmp 28) rfl (G + 1) 33 (by rfl) (dst.map bc) _ hto Tryz.underlying33 rfl hit ?_)
        | ((with_reducible refine at_load 33 (.tmp 77) ?_); refine wpl_mid (by rfl) 33 (.tmp 77) rfl (G + 1) 33 (by rfl) (dst.map bc) _ hto Tryz.underlying33 rfl hit ?_)
        | ((with_reducible refine at_load 33 (.tmp 105) ?_); refine wpl_mid (by rfl) 33 (.tmp 105) rfl (G + 1) 33 (by rfl) (dst.map bc) _ hto Tryz.underlying33 rfl hit ?_)
        | ((with_reducible refine at_load 33 (.tmp 136) ?_); refine wpl_mid (by rfl) 33 (.tmp 136) rfl (G + 1) 33 (by rfl) (dst.map bc) _ hto Tryz.underlying33 rfl hit ?_)
        | ((with_reducible refine at_load 33 (.tmp 6) ?_); refine wpl_load (by rfl) 33 (.tmp 6) rfl (G + 3) (by rfl) 33 (z32.map bc).toArray (0, 0) _ bZ Tryz.underlying33 rfl (id_size rfl) ?_))
    have bF := block_setCell bR (i := 0) (.slice none 0 0)
    exact bodyPost_ret (results_cell_tmp rfl _ _ (G + 2) _ _ _ _ (by rfl) bF Tryz.underlying63 rfl (info63 _)) rfl ⟨_, rfl, isR_nil _, X.setCell (p := ⟨G + 2, 0, none⟩) (by show w.heap.size ≤ G + 2; omega) _⟩
  | true =>
  go_wp2_with (first
    | ((with_reducible refine at_load 33 (.tmp 23) ?_); refine wpl_mid (by rfl) 33 (.tmp 23) rfl (G + 1) 1 (by rfl) (fr.map bc) _ hfr Tryz.underlying33 rfl hif ?_)
    | ((with_reducible refine at_load 33 (.tmp 42) ?_); refine wpl_mid (by rfl) 33 (.tmp 42) rfl (G + 1) 1 (by rfl) (fr.map bc) _ hfr Tryz.underlying33 rfl hif ?_)
    | ((with_reducible refine at_load 33 (.tmp 51) ?_); refine wpl_mid (by rfl) 33 (.tmp 51) rfl (G + 1) 1 (by rfl) (fr.map bc) _ hfr Tryz.underlying33 rfl hif ?_)
    | ((with_reducible refine at_load 33 (.tmp 62) ?_); refine wpl_mid (by rfl) 33 (.tmp 62) rfl (G + 1) 1 (by rfl) (fr.map bc) _ hfr Tryz.underlying33 rfl hif ?_)
    | ((with_reducible refine at_load 33 (.tmp 28) ?_); refine wpl_mid (by rfl) 33 (.tmp 28) rfl (G + 1) 33 (by rfl) (dst.map bc) _ hto Tryz.underlying33 rfl hit ?_)
    | ((with_reducible refine at_load 33 (.tmp 77) ?_); refine wpl_mid (by rfl) 33 (.tmp 77) rfl (G + 1) 33 (by rfl) (dst.map bc) _ hto Tryz.underlying33 rfl hit ?_)
    | ((with_reducible refine at_load 33 (.tmp 105) ?_); refine wpl_mid (by rfl) 33 (.tmp 105) rfl (G + 1) 33 (by rfl) (dst.map bc) _ hto Tryz.underlying33 rfl hit ?_)
    | ((with_reducible refine at_load 33 (.tmp 136) ?_); refine wpl_mid (by rfl) 33 (.tmp 136) rfl (G + 1) 33 (by rfl) (dst.map bc) _ hto Tryz.underlying33 rfl hit ?_)
    | ((with_reducible refine at_load 33 (.tmp 6) ?_); refine wpl_load (by rfl) 33 (.tmp 6) rfl (G + 3) (by rfl) 33 (z32.map bc).toArray (0, 0) _ bZ Tryz.underlying33 rfl (id_size rfl) ?_))
  refine Calls.mono (refName _ nm (by omega)) ?_
  rintro e wB ⟨rfl, hq⟩
  have y : Ext wA wB := by rw [hq]; exact Ext.refl _
  replace c2 := y.cell c2
  replace cM := y.cell cM
  replace hfr := rangeAt_ext hfr y
  replace hto := rangeAt_ext hto y
  replace bR := y.keeps bR
  replace bZ := y.keeps bZ
  replace X := X.trans y
  replace HF := HF.ext y
  clear y hq
  cases hn : nameB nm with
  | false =>
    obtain rfl : ([], 190) = R := by rw [← HR.out]; unfold applyS; simp [hr, hn]
    have f0 := block_free bR 0
    have k0 := block_cell bR 0
    clear HR
    go_wp2_with (first
        | ((with_reducible refine at_load 33 (.tmp 23) ?_); refine wpl_mid (by rfl) 33 (.tmp 23) rfl (G + 1) 1 (by rfl) (fr.map bc) _ hfr Tryz.underlying33 rfl hif ?_)
        | ((with_reducible refine at_load 33 (.tmp 42) ?_); refine wpl_mid (by rfl) 33 (.tmp 42) rfl (G + 1) 1 (by rfl) (fr.map bc) _ hfr Tryz.underlying33 rfl hif ?_)
        | ((with_reducible refine at_load 33 (.tmp 51) ?_); refine wpl_mid (by rfl) 33 (.tmp 51) rfl (G + 1) 1 (by rfl) (fr.map bc) _ hfr Tryz.underlying33 rfl hif ?_)
        | ((with_reducible refine at_load 33 (.tmp 62) ?_); refine wpl_mid (by rfl) 33 (.tmp 62) rfl (G + 1) 1 (by rfl) (fr.map bc) _ hfr Tryz.underlying33 rfl hif ?_)
        | ((with_reducible refine at_load 33 (.tmp 28) ?_); refine wpl_mid (by rfl) 33 (.tmp 28) rfl (G + 1) 33 (by rfl) (dst.map bc) _ hto Tryz.underlying33 rfl hit ?_)
        | ((with_reducible refine at_load 33 (.tmp 77) ?_); refine wpl_mid (by rfl) 33 (.tmp 77) rfl (G + 1) 33 (by rfl) (dst.map bc) _ hto Tryz.underlying33 rfl hit ?_)
        | ((with_reducible refine at_load 33 (.tmp 105) ?_); refine wpl_mid (by rfl) 33 (.tmp 105) rfl (G + 1) 33 (by rfl) (dst.map bc) _ hto Tryz.underlying33 rfl hit ?_)
        | ((with_reducible refine at_load 33 (.tmp 136) ?_); refine wpl_mid (by rfl) 33 (.tmp 136) rfl (G + 1) 33 (by rfl) (dst.map bc) _ hto Tryz.underlying33 rfl hit ?_)
        | ((with_reducible refine at_load 33 (.tmp 6) ?_); refine wpl_load (by rfl) 33 (.tmp 6) rfl (G + 3) (by rfl) 33 (z32.map bc).toArray (0, 0) _ bZ Tryz.underlying33 rfl (id_size rfl) ?_))
    have bF := block_setCell bR (i := 0) (.slice none 0 0)
    exact bodyPost_ret (results_cell_tmp rfl _ _ (G + 2) _ _ _ _ (by rfl) bF Tryz.underlying63 rfl (info63 _)) rfl ⟨_, rfl, isR_nil _, X.setCell (p := ⟨G + 2, 0, none⟩) (by show w.heap.size ≤ G + 2; omega) _⟩
  | true =>
  cases hzf : zr fr with
  | true =>
    rw [show decide (fr = z32) = true from hzf] at efz nfz
    cases hzt : zr dst with
    | true =>
      rw [show decide (dst = z32) = true from hzt] at etz
      obtain rfl : ([], 190) = R := by rw [← HR.out]; unfold applyS; simp [hr, hn, hzf, hzt]
      have f0 := block_free bR 0
      have k0 := block_cell bR 0
      clear HR
      go_wp2_with (first
          | ((with_reducible refine at_load 33 (.tmp 23) ?_); refine wpl_mid (by rfl) 33 (.tmp 23) rfl (G + 1) 1 (by rfl) (fr.map bc) _ hfr Tryz.underlying33 rfl hif ?_)
          | ((with_reducible refine at_load 33 (.tmp 42) ?_); refine wpl_mid (by rfl) 33 (.tmp 42) rfl (G + 1) 1 (by rfl) (fr.map bc) _ hfr Tryz.underlying33 rfl hif ?_)
          | ((with_reducible refine at_load 33 (.tmp 51) ?_); refine wpl_mid (by rfl) 33 (.tmp 51) rfl (G + 1) 1 (by rfl) (fr.map bc) _ hfr Tryz.underlying33 rfl hif ?_)
          | ((with_reducible refine at_load 33 (.tmp 62) ?_); refine wpl_mid (by rfl) 33 (.tmp 62) rfl (G + 1) 1 (by rfl) (fr.map bc) _ hfr Tryz.underlying33 rfl hif ?_)
          | ((with_reducible refine at_load 33 (.tmp 28) ?_); refine wpl_mid (by rfl) 33 (.tmp 28) rfl (G + 1) 33 (by rfl) (dst.map bc) _ hto Tryz.underlying33 rfl hit ?_)
          | ((with_reducible refine at_load 33 (.tmp 77) ?_); refine wpl_mid (by rfl) 33 (.tmp 77) rfl (G + 1) 33 (by rfl) (dst.map bc) _ hto Tryz.underlying33 rfl hit ?_)
          | ((with_reducible refine at_load 33 (.tmp 105) ?_); refine wpl_mid (by rfl) 33 (.tmp 105) rfl (G + 1) 33 (by rfl) (dst.map bc) _ hto Tryz.underlying33 rfl hit ?_)
          | ((with_reducible refine at_load 33 (.tmp 136) ?_); refine wpl_mid (by rfl) 33 (.tmp 136) rfl (G + 1) 33 (by rfl) (dst.map bc) _ hto Tryz.underlying33 rfl hit ?_)
          | ((with_reducible refine at_load 33 (.tmp 6) ?_); refine wpl_load (by rfl) 33 (.tmp 6) rfl (G + 3) (by rfl) 33 (z32.map bc).toArray (0, 0) _ bZ Tryz.underlying33 rfl (id_size rfl) ?_))
      have bF := block_setCell bR (i := 0) (.slice none 0 0)
      exact bodyPost_ret (results_cell_tmp rfl _ _ (G + 2) _ _ _ _ (by rfl) bF Tryz.underlying63 rfl (info63 _)) rfl ⟨_, rfl, isR_nil _, X.setCell (p := ⟨G + 2, 0, none⟩) (by show w.heap.size ≤ G + 2; omega) _⟩
    | false =>
      rw [show decide (dst = z32) = false from hzt] at etz
      go_wp2_with (first
          | ((with_reducible refine at_load 33 (.tmp 23) ?_); refine wpl_mid (by rfl) 33 (.tmp 23) rfl (G + 1) 1 (by rfl) (fr.map bc) _ hfr Tryz.underlying33 rfl hif ?_)
          | ((with_reducible refine at_load 33 (.tmp 42) ?_); refine wpl_mid (by rfl) 33 (.tmp 42) rfl (G + 1) 1 (by rfl) (fr.map bc) _ hfr Tryz.underlying33 rfl hif ?_)
          | ((with_reducible refine at_load 33 (.tmp 51) ?_); refine wpl_mid (by rfl) 33 (.tmp 51) rfl (G + 1) 1 (by rfl) (fr.map bc) _ hfr Tryz.underlying33 rfl hif ?_)
          | ((with_reducible refine at_load 33 (.tmp 62) ?_); refine wpl_mid (by rfl) 33 (.tmp 62) rfl (G + 1) 1 (by rfl) (fr.map bc) _ hfr Tryz.underlying33 rfl hif ?_)
          | ((with_reducible refine at_load 33 (.tmp 28) ?_); refine wpl_mid (by rfl) 33 (.tmp 28) rfl (G + 1) 33 (by rfl) (dst.map bc) _ hto Tryz.underlying33 rfl hit ?_)
          | ((with_reducible refine at_load 33 (.tmp 77) ?_); refine wpl_mid (by rfl) 33 (.tmp 77) rfl (G + 1) 33 (by rfl) (dst.map bc) _ hto Tryz.underlying33 rfl hit ?_)
          | ((with_reducible refine at_load 33 (.tmp 105) ?_); refine wpl_mid (by rfl) 33 (.tmp 105) rfl (G + 1) 33 (by rfl) (dst.map bc) _ hto Tryz.underlying33 rfl hit ?_)
          | ((with_reducible refine at_load 33 (.tmp 136) ?_); refine wpl_mid (by rfl) 33 (.tmp 136) rfl (G + 1) 33 (by rfl) (dst.map bc) _ hto Tryz.underlying33 rfl hit ?_)
          | ((with_reducible refine at_load 33 (.tmp 6) ?_); refine wpl_load (by rfl) 33 (.tmp 6) rfl (G + 3) (by rfl) 33 (z32.map bc).toArray (0, 0) _ bZ Tryz.underlying33 rfl (id_size rfl) ?_))
      refine Calls.mono (refGet09 _ _ l HF nm) ?_
      rintro e w3 ⟨rfl, y⟩
      replace c2 := y.cell c2
      replace cM := y.cell cM
      replace hfr := rangeAt_ext hfr y
      replace hto := rangeAt_ext hto y
      replace bR := y.keeps bR
      replace bZ := y.keeps bZ
      replace X := X.trans y
      replace HF := HF.ext y
      clear y
      have hE : RfOk ⟨nm, dst⟩ := ⟨hdl, hnl⟩
      have hg := gtV_is nm l
      cases hgt : getR l nm with
      | none =>
        rw [hgt] at hg
        simp only at hg
        rw [hg]
        go_upto_region 5 with ((with_reducible refine at_store 33 (.tmp 7) (.tmp 40) ?_); refine wpl_store (by rfl) 33 (.tmp 7) (.tmp 40) rfl _ (z32.map bc).toArray (by rfl) (by rfl) 33 _ (heap_alloc_new _ _) (id_size rfl) (id_same (a := z32) rfl rfl) (id_one _) ?_; rw [World.setRow_alloc_new])
        have bT := heap_alloc_new w3 (.cells (z32.map bc).toArray 33)
        have y : Ext w3 (w3.alloc (.cells (z32.map bc).toArray 33)) := (Ext.refl _).alloc _
        replace c2 := y.cell c2
        replace cM := y.cell cM
        replace hfr := rangeAt_ext hfr y
        replace hto := rangeAt_ext hto y
        replace bR := y.keeps bR
        replace bZ := y.keeps bZ
        replace X := X.trans y
        replace HF := HF.ext y
        clear y
        generalize w3.alloc (.cells (z32.map bc).toArray 33) = w4 at *
        generalize w3.heap.size = GT at *
        by_cases h8 : l.length = 8
        · have h8' : ((l.length : Int) == 8) = true := by rw [beq_iff_eq]; omega
          have H8 := Lib.hid h8
          clear h8
          obtain rfl : ([], 6) = R := by rw [← HR.out]; unfold applyS; simp [hr, hn, hzf, hzt, hgt, H8.out]
          have f0 := block_free bR 0
          have k0 := block_cell bR 0
          clear HR
          go_wp2_with (first
              | ((with_reducible refine at_load 33 (.tmp 23) ?_); refine wpl_mid (by rfl) 33 (.tmp 23) rfl (G + 1) 1 (by rfl) (fr.map bc) _ hfr Tryz.underlying33 rfl hif ?_)
              | ((with_reducible refine at_load 33 (.tmp 42) ?_); refine wpl_mid (by rfl) 33 (.tmp 42) rfl (G + 1) 1 (by rfl) (fr.map bc) _ hfr Tryz.underlying33 rfl hif ?_)
              | ((with_reducible refine at_load 33 (.tmp 51) ?_); refine wpl_mid (by rfl) 33 (.tmp 51) rfl (G + 1) 1 (by rfl) (fr.map bc) _ hfr Tryz.underlying33 rfl hif ?_)
              | ((with_reducible refine at_load 33 (.tmp 62) ?_); refine wpl_mid (by rfl) 33 (.tmp 62) rfl (G + 1) 1 (by rfl) (fr.map bc) _ hfr Tryz.underlying33 rfl hif ?_)
              | ((with_reducible refine at_load 33 (.tmp 28) ?_); refine wpl_mid (by rfl) 33 (.tmp 28) rfl (G + 1) 33 (by rfl) (dst.map bc) _ hto Tryz.underlying33 rfl hit ?_)
              | ((with_reducible refine at_load 33 (.tmp 77) ?_); refine wpl_mid (by rfl) 33 (.tmp 77) rfl (G + 1) 33 (by rfl) (dst.map bc) _ hto Tryz.underlying33 rfl hit ?_)
              | ((with_reducible refine at_load 33 (.tmp 105) ?_); refine wpl_mid (by rfl) 33 (.tmp 105) rfl (G + 1) 33 (by rfl) (dst.map bc) _ hto Tryz.underlying33 rfl hit ?_)
              | ((with_reducible refine at_load 33 (.tmp 136) ?_); refine wpl_mid (by rfl) 33 (.tmp 136) rfl (G + 1) 33 (by rfl) (dst.map bc) _ hto Tryz.underlying33 rfl hit ?_)
              | ((with_reducible refine at_load 33 (.tmp 6) ?_); refine wpl_load (by rfl) 33 (.tmp 6) rfl (G + 3) (by rfl) 33 (z32.map bc).toArray (0, 0) _ bZ Tryz.underlying33 rfl (id_size rfl) ?_))
          have bF := block_setCell bR (i := 0) (.slice none 0 0)
          exact bodyPost_ret (results_cell_tmp rfl _ _ (G + 2) _ _ _ _ (by rfl) bF Tryz.underlying63 rfl (info63 _)) rfl ⟨_, rfl, isR_nil _, X.setCell (p := ⟨G + 2, 0, none⟩) (by show w.heap.size ≤ G + 2; omega) _⟩
        · have h8' : ((l.length : Int) == 8) = false := by rw [beq_eq_false_iff_ne]; omega
          have hRR : R = (stepL nm dst l false, 0) := by rw [← HR.out]; unfold applyS; simp [hr, hn, hzf, hzt, hgt, h8]
          have HRR := Lib.hid hRR
          clear hRR HR
          obtain ⟨w6, hw6⟩ : ∃ x, x = w4 := ⟨_, rfl⟩
          subst hw6
          have hbl := fun w => build_rf w ⟨nm, dst⟩ hE
          have hbd := built_rf nm dst hdl
          obtain ⟨FIN, hFIN⟩ : ∃ FIN, stepL nm dst l false = FIN := ⟨_, rfl⟩
          obtain ⟨GO, hGO⟩ : ∃ GO, w6.heap.size = GO := ⟨_, rfl⟩
          have hGO2 : G + 4 ≤ GO := by rw [← hGO]; exact block_lt bZ
          obtain ⟨wM, hwM⟩ : ∃ wM, wM = w6.alloc (.cells #[.slice none 0 0] 63) := ⟨_, rfl⟩
          have bO : wM.heap[GO]? = some (.cells #[.slice none 0 0] 63 (0, 0)) := by rw [hwM, ← hGO]; exact heap_alloc_new w6 _
          have xM : Ext w6 wM := by rw [hwM]; exact (Ext.refl w6).alloc _
          have HM := Lib.hid hwM
          have HGO := Lib.hid hGO
          clear hwM hGO
          go_upto_region 14 with (first
              | ((with_reducible refine at_store 63 (.tmp 9) (.tmp 76) ?_); refine wpl_store (by rfl) 63 (.tmp 9) (.tmp 76) rfl _ #[.slice none 0 0] (by rfl) (by rfl) 63 _ (heap_alloc_new _ _) (info63 _) rfl rfl ?_; rw [World.setRow_alloc_new])
              | ((with_reducible refine at_load 33 (.tmp 23) ?_); refine wpl_mid (by rfl) 33 (.tmp 23) rfl (G + 1) 1 (by rfl) (fr.map bc) _ hfr Tryz.underlying33 rfl hif ?_)
              | ((with_reducible refine at_load 33 (.tmp 42) ?_); refine wpl_mid (by rfl) 33 (.tmp 42) rfl (G + 1) 1 (by rfl) (fr.map bc) _ hfr Tryz.underlying33 rfl hif ?_)
              | ((with_reducible refine at_load 33 (.tmp 51) ?_); refine wpl_mid (by rfl) 33 (.tmp 51) rfl (G + 1) 1 (by rfl) (fr.map bc) _ hfr Tryz.underlying33 rfl hif ?_)
              | ((with_reducible refine at_load 33 (.tmp 62) ?_); refine wpl_mid (by rfl) 33 (.tmp 62) rfl (G + 1) 1 (by rfl) (fr.map bc) _ hfr Tryz.underlying33 rfl hif ?_)
              | ((with_reducible refine at_load 33 (.tmp 28) ?_); refine wpl_mid (by rfl) 33 (.tmp 28) rfl (G + 1) 33 (by rfl) (dst.map bc) _ hto Tryz.underlying33 rfl hit ?_)
              | ((with_reducible refine at_load 33 (.tmp 77) ?_); refine wpl_mid (by rfl) 33 (.tmp 77) rfl (G + 1) 33 (by rfl) (dst.map bc) _ hto Tryz.underlying33 rfl hit ?_)
              | ((with_reducible refine at_load 33 (.tmp 105) ?_); refine wpl_mid (by rfl) 33 (.tmp 105) rfl (G + 1) 33 (by rfl) (dst.map bc) _ hto Tryz.underlying33 rfl hit ?_)
              | ((with_reducible refine at_load 33 (.tmp 136) ?_); refine wpl_mid (by rfl) 33 (.tmp 136) rfl (G + 1) 33 (by rfl) (dst.map bc) _ hto Tryz.underlying33 rfl hit ?_)
              | ((with_reducible refine at_load 33 (.tmp 6) ?_); refine wpl_load (by rfl) 33 (.tmp 6) rfl (G + 3) (by rfl) 33 (z32.map bc).toArray (0, 0) _ bZ Tryz.underlying33 rfl (id_size rfl) ?_))
          rw [← HM.out, HGO.out]
          obtain ⟨wL0, hL0⟩ : ∃ x, x = w6 := ⟨_, rfl⟩
          have HFIN := Lib.hid hFIN
          have own0 : wM.ownsRow GO 78 33 (.slice none 0 0) 0 [] := World.ownsRow_nil _ _ _ _
          have bRL := bR
          have c2L := c2
          have cML := cM
          have htoL := hto
          have HL0 := Lib.hid hL0
          have hszL : wL0.heap.size = GO := by rw [hL0]; exact HGO.out
          rw [← hL0] at xM bRL c2L cML htoL
          have XL : Ext w wL0 := by rw [hL0]; exact X
          have HFL : Hid (IsR wL0 (.slice ao l.length cap0) l) := Lib.hid (by rw [hL0]; exact HF)
          have hb0 := bO
          replace hfr := rangeAt_ext hfr (show Ext w6 wM by rw [← hL0]; exact xM)
          replace bZ := (show Ext w6 wM by rw [← hL0]; exact xM).keeps bZ
          replace hto := rangeAt_ext hto (show Ext w6 wM by rw [← hL0]; exact xM)
          have C2L := Lib.hid c2L
          have CML := Lib.hid cML
          have HTO := Lib.hid htoL
          have BRL := Lib.hid bRL
          clear hFIN hL0 HM HF bR X bRL c2L cML htoL
          replace c2 := xM.cell C2L.out
          replace cM := xM.cell CML.out
          go_wp2_with (first
              | ((with_reducible refine at_load 33 (.tmp 23) ?_); refine wpl_mid (by rfl) 33 (.tmp 23) rfl (G + 1) 1 (by rfl) (fr.map bc) _ hfr Tryz.underlying33 rfl hif ?_)
              | ((with_reducible refine at_load 33 (.tmp 42) ?_); refine wpl_mid (by rfl) 33 (.tmp 42) rfl (G + 1) 1 (by rfl) (fr.map bc) _ hfr Tryz.underlying33 rfl hif ?_)
              | ((with_reducible refine at_load 33 (.tmp 51) ?_); refine wpl_mid (by rfl) 33 (.tmp 51) rfl (G + 1) 1 (by rfl) (fr.map bc) _ hfr Tryz.underlying33 rfl hif ?_)
              | ((with_reducible refine at_load 33 (.tmp 62) ?_); refine wpl_mid (by rfl) 33 (.tmp 62) rfl (G + 1) 1 (by rfl) (fr.map bc) _ hfr Tryz.underlying33 rfl hif ?_)
              | ((with_reducible refine at_load 33 (.tmp 28) ?_); refine wpl_mid (by rfl) 33 (.tmp 28) rfl (G + 1) 33 (by rfl) (dst.map bc) _ hto Tryz.underlying33 rfl hit ?_)
              | ((with_reducible refine at_load 33 (.tmp 77) ?_); refine wpl_mid (by rfl) 33 (.tmp 77) rfl (G + 1) 33 (by rfl) (dst.map bc) _ hto Tryz.underlying33 rfl hit ?_)
              | ((with_reducible refine at_load 33 (.tmp 105) ?_); refine wpl_mid (by rfl) 33 (.tmp 105) rfl (G + 1) 33 (by rfl) (dst.map bc) _ hto Tryz.underlying33 rfl hit ?_)
              | ((with_reducible refine at_load 33 (.tmp 136) ?_); refine wpl_mid (by rfl) 33 (.tmp 136) rfl (G + 1) 33 (by rfl) (dst.map bc) _ hto Tryz.underlying33 rfl hit ?_)
              | ((with_reducible refine at_load 33 (.tmp 6) ?_); refine wpl_load (by rfl) 33 (.tmp 6) rfl (G + 3) (by rfl) 33 (z32.map bc).toArray (0, 0) _ bZ Tryz.underlying33 rfl (id_size rfl) ?_))
          clear hfr bZ hto bO c2 cM
          go_loopg [10, 11] l.length (fun g s10 s11 wr => ∃ (i : Nat) (d : Bool) (cur : List Rf) (a : Option Addr) (c : Nat), i ≤ l.length ∧ l.length - i ≤ g ∧ s10 = .bool d ∧ s11 = .int .i64 (i : Int) ∧ cur ++ stepL nm dst (l.drop i) d = FIN ∧ (∀ e ∈ cur, RfOk e) ∧ cur.length ≤ i + (if d = true then 1 else 0) ∧ wr.ownsRow GO 78 33 (.slice a cur.length c) cur.length (cur.flatMap rfC) ∧ wr.heap[GO]? = some (.cells #[.slice a cur.length c] 63 (0, 0)) ∧ Ext wL0 wr)
          case atStart => exact ⟨0, false, [], none, 0, Nat.zero_le _, by omega, rfl, rfl, HFIN.out, (fun e h => by cases h), Nat.zero_le _, own0, hb0, xM⟩
          case round =>
            obtain ⟨i, d, cur, a, c, hi, hg, rfl, rfl, hcur, hcok, hcl, own, bO, xr⟩ := hrel
            have c2 := xr.cell C2L.out
            have cM := xr.cell CML.out
            have hto := rangeAt_ext HTO.out xr
            clear hb0 own0 xM
            by_cases hlt : i < l.length
            · obtain ⟨pb, o, rfl, hraL⟩ := rf_at HFL.out.sl HFL.out.ok i hlt
              have hra := rangeAt_ext hraL xr
              obtain ⟨hrn, -⟩ := rf_parts hra
              have hrnL := (rf_parts hraL).1
              have hxo := HFL.out.ok _ (List.getElem_mem hlt)
              rw [List.drop_eq_getElem_cons hlt] at hcur
              generalize l[i] = x at *
              have HRA := Lib.hid hraL
              have HRN := Lib.hid hrnL
              clear hraL hrnL
              have hinf := rf_info hxo
              have i0 : (0 : Int) ≤ (i : Int) := Int.natCast_nonneg _
              have i1 : (i : Int) < (l.length : Int) := by omega
              cases d with
              | true =>
                have hcl : cur.length ≤ i + 1 := hcl
                have HC := Lib.hid (show cur ++ (keepL nm x ++ stepL nm dst (l.drop (i + 1)) true) = FIN by rw [← hcur]; simp [stepL])
                clear hcur
                obtain ⟨d, hd⟩ : ∃ d, d = true := ⟨_, rfl⟩
                go_wp2_with fail
                refine wp_region_ext (by kernel_rfl) fun wd hqd xd hHeld => ?_
                refine wpAnyH_take (i := 0) (v := ?vka0) rfl (by kernel_rfl) (by kernel_rfl) (by kernel_rfl) (fun _ _ _ h => h) (Or.inl ⟨by rfl, ?hyka0⟩) hHeld ?_
                case hyka0 => (intro w hSw; go_simp; try with_reducible rfl)
                simp only [Act.put, List.setIfInBounds_toArray, List.set_cons_zero, List.set_cons_succ, List.getElem_toArray, List.getElem_cons_zero, List.getElem_cons_succ]
                refine wpAnyH_take (i := 1) (v := ?vka1) rfl (by kernel_rfl) (by kernel_rfl) (by kernel_rfl) (fun _ _ _ h => h) (Or.inl ⟨by rfl, ?hyka1⟩) hHeld ?_
                case hyka1 => (intro w hSw; go_simp; try with_reducible rfl)
                simp only [Act.put, List.setIfInBounds_toArray, List.set_cons_zero, List.set_cons_succ, List.getElem_toArray, List.getElem_cons_zero, List.getElem_cons_succ]
                refine wpAnyH_take (i := 2) (v := ?vka2) rfl (by kernel_rfl) (by kernel_rfl) (by kernel_rfl) (fun _ _ _ h => h) (Or.inl ⟨by rfl, ?hyka2⟩) hHeld ?_
                case hyka2 => (intro w hSw; go_simp; try with_reducible rfl)
                simp only [Act.put, List.setIfInBounds_toArray, List.set_cons_zero, List.set_cons_succ, List.getElem_toArray, List.getElem_cons_zero, List.getElem_cons_succ]
                refine wpAnyH_take (i := 3) (v := undef) rfl (by kernel_rfl) (by kernel_rfl) (by kernel_rfl) (fun _ _ _ h => h) (Or.inr ⟨by rfl, rfl⟩) hHeld ?_
                simp only [Act.put, List.setIfInBounds_toArray, List.set_cons_zero, List.set_cons_succ, List.getElem_toArray, List.getElem_cons_zero, List.getElem_cons_succ]
                refine wpAnyH_take (i := 4) (v := undef) rfl (by kernel_rfl) (by kernel_rfl) (by kernel_rfl) (fun _ _ _ h => h) (Or.inr ⟨by rfl, rfl⟩) hHeld ?_
                simp only [Act.put, List.setIfInBounds_toArray, List.set_cons_zero, List.set_cons_succ, List.getElem_toArray, List.getElem_cons_zero, List.getElem_cons_succ]
                refine wpAnyH_take (i := 5) (v := undef) rfl (by kernel_rfl) (by kernel_rfl) (by kernel_rfl) (fun _ _ _ h => h) (Or.inr ⟨by rfl, rfl⟩) hHeld ?_
                simp only [Act.put, List.setIfInBounds_toArray, List.set_cons_zero, List.set_cons_succ, List.getElem_toArray, List.getElem_cons_zero, List.getElem_cons_succ]
                refine wpAnyH_take (i := 6) (v := undef) rfl (by kernel_rfl) (by kernel_rfl) (by kernel_rfl) (fun _ _ _ h => h) (Or.inr ⟨by rfl, rfl⟩) hHeld ?_
                simp only [Act.put, List.setIfInBounds_toArray, List.set_cons_zero, List.set_cons_succ, List.getElem_toArray, List.getElem_cons_zero, List.getElem_cons_succ]
                refine wpAnyH_take (i := 7) (v := undef) rfl (by kernel_rfl) (by kernel_rfl) (by kernel_rfl) (fun _ _ _ h => h) (Or.inr ⟨by rfl, rfl⟩) hHeld ?_
                simp only [Act.put, List.setIfInBounds_toArray, List.set_cons_zero, List.set_cons_succ, List.getElem_toArray, List.getElem_cons_zero, List.getElem_cons_succ]
                refine wpAnyH_take (i := 8) (v := undef) rfl (by kernel_rfl) (by kernel_rfl) (by kernel_rfl) (fun _ _ _ h => h) (Or.inr ⟨by rfl, rfl⟩) hHeld ?_
                simp only [Act.put, List.setIfInBounds_toArray, List.set_cons_zero, List.set_cons_succ, List.getElem_toArray, List.getElem_cons_zero, List.getElem_cons_succ]
                refine wpAnyH_take (i := 9) (v := undef) rfl (by kernel_rfl) (by kernel_rfl) (by kernel_rfl) (fun _ _ _ h => h) (Or.inr ⟨by rfl, rfl⟩) hHeld ?_
                simp only [Act.put, List.setIfInBounds_toArray, List.set_cons_zero, List.set_cons_succ, List.getElem_toArray, List.getElem_cons_zero, List.getElem_cons_succ]
                refine wpAnyH_take (i := 10) (v := undef) rfl (by kernel_rfl) (by kernel_rfl) (by kernel_rfl) (fun _ _ _ h => h) (Or.inr ⟨by rfl, rfl⟩) hHeld ?_
                simp only [Act.put, List.setIfInBounds_toArray, List.set_cons_zero, List.set_cons_succ, List.getElem_toArray, List.getElem_cons_zero, List.getElem_cons_succ]
                refine wpAnyH_take (i := 11) (v := undef) rfl (by kernel_rfl) (by kernel_rfl) (by kernel_rfl) (fun _ _ _ h => h) (Or.inr ⟨by rfl, rfl⟩) hHeld ?_
                simp only [Act.put, List.setIfInBounds_toArray, List.set_cons_zero, List.set_cons_succ, List.getElem_toArray, List.getElem_cons_zero, List.getElem_cons_succ]
                refine wpAnyH_take (i := 12) (v := ?vka12) rfl (by kernel_rfl) (by kernel_rfl) (by kernel_rfl) (fun _ _ _ h => h) (Or.inl ⟨by rfl, ?hyka12⟩) hHeld ?_
                case hyka12 => (intro w hSw; go_simp; try with_reducible rfl)
                simp only [Act.put, List.setIfInBounds_toArray, List.set_cons_zero, List.set_cons_succ, List.getElem_toArray, List.getElem_cons_zero, List.getElem_cons_succ]
                refine wpAnyH_done (by kernel_rfl) ?_ _
                refine NoPanic.normal ?_
                replace bO := xd.keeps bO
                replace own := ownsRow_ext own xd
                replace xr := xr.trans xd
                replace c2 := xr.cell C2L.out
                replace cM := xr.cell CML.out
                replace hrn := xr.cell HRN.out
                replace hra := rangeAt_ext HRA.out xr
                replace hto := rangeAt_ext HTO.out xr
                clear hHeld hqd xd
                go_wp2_with fail
                cases hk : (x.name.toList == nm.toList) with
                | true =>
                  have hKn : (x.name.toList != nm.toList) = false := by rw [bne, hk]; rfl
                  go_wp2_with fail
                  refine wp_region_ext (by kernel_rfl) fun wd hqd xd hHeld => ?_
                  refine wpAnyH_take (i := 0) (v := ?vkAt0) rfl (by kernel_rfl) (by kernel_rfl) (by kernel_rfl) (fun _ _ _ h => h) (Or.inl ⟨by rfl, ?hykAt0⟩) hHeld ?_
                  case hykAt0 => (intro w hSw; go_simp; try with_reducible rfl)
                  simp only [Act.put, List.setIfInBounds_toArray, List.set_cons_zero, List.set_cons_succ, List.getElem_toArray, List.getElem_cons_zero, List.getElem_cons_succ]
                  refine wpAnyH_take (i := 1) (v := ?vkAt1) rfl (by kernel_rfl) (by kernel_rfl) (by kernel_rfl) (fun _ _ _ h => h) (Or.inl ⟨by rfl, ?hykAt1⟩) hHeld ?_
                  case hykAt1 => (intro w hSw; have k := hSw.cell (xd.cell c2); go_simp; try with_reducible rfl)
                  simp only [Act.put, List.setIfInBounds_toArray, List.set_cons_zero, List.set_cons_succ, List.getElem_toArray, List.getElem_cons_zero, List.getElem_cons_succ]
                  refine wpAnyH_take (i := 2) (v := ?vkAt2) rfl (by kernel_rfl) (by kernel_rfl) (by kernel_rfl) (fun _ _ _ h => h) (Or.inl ⟨by rfl, ?hykAt2⟩) hHeld ?_
                  case hykAt2 => (intro w hSw; go_simp; try with_reducible rfl)
                  simp only [Act.put, List.setIfInBounds_toArray, List.set_cons_zero, List.set_cons_succ, List.getElem_toArray, List.getElem_cons_zero, List.getElem_cons_succ]
                  refine wpAnyH_take (i := 3) (v := ?vkAt3) rfl (by kernel_rfl) (by kernel_rfl) (by kernel_rfl) (fun _ _ _ h => h) (Or.inl ⟨by rfl, ?hykAt3⟩) hHeld ?_
                  case hykAt3 => (intro w hSw; go_simp; try with_reducible rfl)
                  simp only [Act.put, List.setIfInBounds_toArray, List.set_cons_zero, List.set_cons_succ, List.getElem_toArray, List.getElem_cons_zero, List.getElem_cons_succ]
                  refine wpAnyH_take (i := 4) (v := ?vkAt4) rfl (by kernel_rfl) (by kernel_rfl) (by kernel_rfl) (fun _ _ _ h => h) (Or.inl ⟨by rfl, ?hykAt4⟩) hHeld ?_
                  case hykAt4 => (intro w hSw; go_simp; try with_reducible rfl)
                  simp only [Act.put, List.setIfInBounds_toArray, List.set_cons_zero, List.set_cons_succ, List.getElem_toArray, List.getElem_cons_zero, List.getElem_cons_succ]
                  refine wpAnyH_take (i := 5) (v := ?vkAt5) rfl (by kernel_rfl) (by kernel_rfl) (by kernel_rfl) (fun _ _ _ h => h) (Or.inl ⟨by rfl, ?hykAt5⟩) hHeld ?_
                  case hykAt5 => (intro w hSw; have k := hSw.cell (xd.cell hrn); go_simp; try with_reducible rfl)
                  simp only [Act.put, List.setIfInBounds_toArray, List.set_cons_zero, List.set_cons_succ, List.getElem_toArray, List.getElem_cons_zero, List.getElem_cons_succ]
                  refine wpAnyH_take (i := 6) (v := ?vkAt6) rfl (by kernel_rfl) (by kernel_rfl) (by kernel_rfl) (fun _ _ _ h => h) (Or.inl ⟨by rfl, ?hykAt6⟩) hHeld ?_
                  case hykAt6 => (intro w hSw; go_simp; try with_reducible rfl)
                  simp only [Act.put, List.setIfInBounds_toArray, List.set_cons_zero, List.set_cons_succ, List.getElem_toArray, List.getElem_cons_zero, List.getElem_cons_succ]
                  refine wpAnyH_take (i := 7) (v := ?vkAt7) rfl (by kernel_rfl) (by kernel_rfl) (by kernel_rfl) (fun _ _ _ h => h) (Or.inl ⟨by rfl, ?hykAt7⟩) hHeld ?_
                  case hykAt7 => (intro w hSw; have k := hSw.cell (xd.cell cM); go_simp; try with_reducible rfl)
                  simp only [Act.put, List.setIfInBounds_toArray, List.set_cons_zero, List.set_cons_succ, List.getElem_toArray, List.getElem_cons_zero, List.getElem_cons_succ]
                  refine wpAnyH_take (i := 8) (v := ?vkAt8) rfl (by kernel_rfl) (by kernel_rfl) (by kernel_rfl) (fun _ _ _ h => h) (Or.inl ⟨by rfl, ?hykAt8⟩) hHeld ?_
                  case hykAt8 => (intro w hSw; have k := hKn; go_simp; try with_reducible rfl)
                  simp only [Act.put, List.setIfInBounds_toArray, List.set_cons_zero, List.set_cons_succ, List.getElem_toArray, List.getElem_cons_zero, List.getElem_cons_succ]
                  refine wpAnyH_done (by kernel_rfl) ?_ _
                  refine NoPanic.normal ?_
                  replace bO := xd.keeps bO
                  replace own := ownsRow_ext own xd
                  replace xr := xr.trans xd
                  replace c2 := xr.cell C2L.out
                  replace cM := xr.cell CML.out
                  replace hrn := xr.cell HRN.out
                  replace hra := rangeAt_ext HRA.out xr
                  replace hto := rangeAt_ext HTO.out xr
                  go_wp2_with fail
                  go_roundg (l.length - (i + 1))
                  case measure => omega
                  case rel => exact ⟨i + 1, true, cur, a, c, by omega, by omega, rfl, by go_num, by rw [← HC.out]; simp [keepL, hk], hcok, (show cur.length ≤ i + 1 + 1 by omega), own, bO, xr⟩
                | false =>
                  have hKn : (x.name.toList != nm.toList) = true := by rw [bne, hk]; rfl
                  go_wp2_with fail
                  refine wp_region_ext (by kernel_rfl) fun wd hqd xd hHeld => ?_
                  refine wpAnyH_take (i := 0) (v := ?vkAf0) rfl (by kernel_rfl) (by kernel_rfl) (by kernel_rfl) (fun _ _ _ h => h) (Or.inl ⟨by rfl, ?hykAf0⟩) hHeld ?_
                  case hykAf0 => (intro w hSw; go_simp; try with_reducible rfl)
                  simp only [Act.put, List.setIfInBounds_toArray, List.set_cons_zero, List.set_cons_succ, List.getElem_toArray, List.getElem_cons_zero, List.getElem_cons_succ]
                  refine wpAnyH_take (i := 1) (v := ?vkAf1) rfl (by kernel_rfl) (by kernel_rfl) (by kernel_rfl) (fun _ _ _ h => h) (Or.inl ⟨by rfl, ?hykAf1⟩) hHeld ?_
                  case hykAf1 => (intro w hSw; have k := hSw.cell (xd.cell c2); go_simp; try with_reducible rfl)
                  simp only [Act.put, List.setIfInBounds_toArray, List.set_cons_zero, List.set_cons_succ, List.getElem_toArray, List.getElem_cons_zero, List.getElem_cons_succ]
                  refine wpAnyH_take (i := 2) (v := ?vkAf2) rfl (by kernel_rfl) (by kernel_rfl) (by kernel_rfl) (fun _ _ _ h => h) (Or.inl ⟨by rfl, ?hykAf2⟩) hHeld ?_
                  case hykAf2 => (intro w hSw; go_simp; try with_reducible rfl)
                  simp only [Act.put, List.setIfInBounds_toArray, List.set_cons_zero, List.set_cons_succ, List.getElem_toArray, List.getElem_cons_zero, List.getElem_cons_succ]
                  refine wpAnyH_take (i := 3) (v := ?vkAf3) rfl (by kernel_rfl) (by kernel_rfl) (by kernel_rfl) (fun _ _ _ h => h) (Or.inl ⟨by rfl, ?hykAf3⟩) hHeld ?_
                  case hykAf3 => (intro w hSw; go_simp; try with_reducible rfl)
                  simp only [Act.put, List.setIfInBounds_toArray, List.set_cons_zero, List.set_cons_succ, List.getElem_toArray, List.getElem_cons_zero, List.getElem_cons_succ]
                  refine wpAnyH_take (i := 4) (v := ?vkAf4) rfl (by kernel_rfl) (by kernel_rfl) (by kernel_rfl) (fun _ _ _ h => h) (Or.inl ⟨by rfl, ?hykAf4⟩) hHeld ?_
                  case hykAf4 => (intro w hSw; go_simp; try with_reducible rfl)
                  simp only [Act.put, List.setIfInBounds_toArray, List.set_cons_zero, List.set_cons_succ, List.getElem_toArray, List.getElem_cons_zero, List.getElem_cons_succ]
                  refine wpAnyH_take (i := 5) (v := ?vkAf5) rfl (by kernel_rfl) (by kernel_rfl) (by kernel_rfl) (fun _ _ _ h => h) (Or.inl ⟨by rfl, ?hykAf5⟩) hHeld ?_
                  case hykAf5 => (intro w hSw; have k := hSw.cell (xd.cell hrn); go_simp; try with_reducible rfl)
                  simp only [Act.put, List.setIfInBounds_toArray, List.set_cons_zero, List.set_cons_succ, List.getElem_toArray, List.getElem_cons_zero, List.getElem_cons_succ]
                  refine wpAnyH_take (i := 6) (v := ?vkAf6) rfl (by kernel_rfl) (by kernel_rfl) (by kernel_rfl) (fun _ _ _ h => h) (Or.inl ⟨by rfl, ?hykAf6⟩) hHeld ?_
                  case hykAf6 => (intro w hSw; go_simp; try with_reducible rfl)
                  simp only [Act.put, List.setIfInBounds_toArray, List.set_cons_zero, List.set_cons_succ, List.getElem_toArray, List.getElem_cons_zero, List.getElem_cons_succ]
                  refine wpAnyH_take (i := 7) (v := ?vkAf7) rfl (by kernel_rfl) (by kernel_rfl) (by kernel_rfl) (fun _ _ _ h => h) (Or.inl ⟨by rfl, ?hykAf7⟩) hHeld ?_
                  case hykAf7 => (intro w hSw; have k := hSw.cell (xd.cell cM); go_simp; try with_reducible rfl)
                  simp only [Act.put, List.setIfInBounds_toArray, List.set_cons_zero, List.set_cons_succ, List.getElem_toArray, List.getElem_cons_zero, List.getElem_cons_succ]
                  refine wpAnyH_take (i := 8) (v := ?vkAf8) rfl (by kernel_rfl) (by kernel_rfl) (by kernel_rfl) (fun _ _ _ h => h) (Or.inl ⟨by rfl, ?hykAf8⟩) hHeld ?_
                  case hykAf8 => (intro w hSw; have k := hKn; go_simp; try with_reducible rfl)
                  simp only [Act.put, List.setIfInBounds_toArray, List.set_cons_zero, List.set_cons_succ, List.getElem_toArray, List.getElem_cons_zero, List.getElem_cons_succ]
                  refine wpAnyH_done (by kernel_rfl) ?_ _
                  refine NoPanic.normal ?_
                  replace bO := xd.keeps bO
                  replace own := ownsRow_ext own xd
                  replace xr := xr.trans xd
                  replace c2 := xr.cell C2L.out
                  replace cM := xr.cell CML.out
                  replace hrn := xr.cell HRN.out
                  replace hra := rangeAt_ext HRA.out xr
                  replace hto := rangeAt_ext HTO.out xr
                  clear hHeld hqd xd
                  obtain ⟨wq, hwq⟩ : ∃ x, x = wd := ⟨_, rfl⟩
                  subst hwq
                  have hbx := build_rf (e := x) (h := hxo)
                  have KO := fun v (h : Ext wq v) => block_all (h.keeps bO)
                  have KB := fun v (h : Ext wq v) => h.cell c2
                  have HOW := Lib.hid own
                  have HBO := Lib.hid bO
                  have hgo : GO ≤ wq.heap.size := hszL ▸ xr.size
                  go_wp2_with fail
                  refine wp_region_G 8 (fun v => Ext wq v) (by kernel_rfl) fun wd hqd hHeld => ?_
                  refine G_pure (i := 0) (u := ?vkAk0) rfl (by kernel_rfl) (by kernel_rfl) (by kernel_rfl) (fun _ _ _ h => h) (by decide) (Or.inl ⟨by rfl, ?hykAk0⟩) hHeld ?_
                  case hykAk0 => (intro w hSw; go_simp; try with_reducible rfl)
                  simp only [Act.put, List.setIfInBounds_toArray, List.set_cons_zero, List.set_cons_succ, List.getElem_toArray, List.getElem_cons_zero, List.getElem_cons_succ]
                  refine G_take (i := 1) (u := ?vkAk1) rfl (by kernel_rfl) (by kernel_rfl) (by kernel_rfl) (fun _ _ _ h => h) rfl (by kernel_rfl) (by decide) (by rfl) (Or.inl ⟨by rfl, ?hykAk1⟩) hHeld ?_
                  case hykAk1 => (intro w hSw; have kk := KO _ hSw; go_simp; try with_reducible rfl)
                  simp only [Act.put, List.setIfInBounds_toArray, List.set_cons_zero, List.set_cons_succ, List.getElem_toArray, List.getElem_cons_zero, List.getElem_cons_succ]
                  refine G_pure (i := 2) (u := ?vkAk2) rfl (by kernel_rfl) (by kernel_rfl) (by kernel_rfl) (fun _ _ _ h => h) (by decide) (Or.inl ⟨by rfl, ?hykAk2⟩) hHeld ?_
                  case hykAk2 => (intro w hSw; go_simp; try with_reducible rfl)
                  simp only [Act.put, List.setIfInBounds_toArray, List.set_cons_zero, List.set_cons_succ, List.getElem_toArray, List.getElem_cons_zero, List.getElem_cons_succ]
                  refine C_take (i := 3) (u := ?vkAk3) [5, 6, 7, 8] rfl (by kernel_rfl) (by kernel_rfl) (by kernel_rfl) (fun _ _ _ h => h) (by kernel_rfl) (by kernel_rfl) (by kernel_rfl) (by kernel_rfl) (Or.inl ⟨by rfl, ?hykAk3⟩) hHeld ?_
                  case hykAk3 => (intro w hSw; have kk := KB _ hSw; go_simp; try with_reducible rfl)
                  simp only [Act.put, List.setIfInBounds_toArray, List.set_cons_zero, List.set_cons_succ, List.getElem_toArray, List.getElem_cons_zero, List.getElem_cons_succ]
                  refine G_pure (i := 4) (u := ?vkAk4) rfl (by kernel_rfl) (by kernel_rfl) (by kernel_rfl) (fun _ _ _ h => h) (by decide) (Or.inl ⟨by rfl, ?hykAk4⟩) hHeld ?_
                  case hykAk4 => (intro w hSw; go_simp; try with_reducible rfl)
                  simp only [Act.put, List.setIfInBounds_toArray, List.set_cons_zero, List.set_cons_succ, List.getElem_toArray, List.getElem_cons_zero, List.getElem_cons_succ]
                  refine G_pure (i := 5) (u := ?vkAk5) rfl (by kernel_rfl) (by kernel_rfl) (by kernel_rfl) (fun _ _ _ h => h) (by decide) (Or.inl ⟨by rfl, ?hykAk5⟩) hHeld ?_
                  case hykAk5 => (intro w hSw; go_simp; try with_reducible rfl)
                  simp only [Act.put, List.setIfInBounds_toArray, List.set_cons_zero, List.set_cons_succ, List.getElem_toArray, List.getElem_cons_zero, List.getElem_cons_succ]
                  refine C_take (i := 6) (u := _) [7, 8] rfl (by kernel_rfl) (by kernel_rfl) (by kernel_rfl) (fun _ _ _ h => h) (by kernel_rfl) (by kernel_rfl) (by kernel_rfl) (by kernel_rfl) (yieldsIf_load_mid (by rfl) _ _ rfl _ _ rfl (rfC x) _ (fun w hSw => rangeAt_ext hra hSw) Tryz.underlying78 rfl hinf) hHeld ?_
                  simp only [Act.put, List.setIfInBounds_toArray, List.set_cons_zero, List.set_cons_succ, List.getElem_toArray, List.getElem_cons_zero, List.getElem_cons_succ]
                  refine G_all (rs := [7]) (by kernel_rfl) (by simp) ?_
                  intro i hi; obtain rfl : i = 7 := by simpa using hi
                  refine wpOp_run rfl (by rfl) ?_
                  refine wp_buildOne 61 (.tmp 126) rfl (rfC x) (by rfl) (hbx _) ?_
                  have xb : Ext wd (wd.alloc (.cells (rfC x).toArray 78)) := (Ext.refl wd).alloc _
                  have hHeld := hHeld.trans xb
                  first | refine ⟨fun _ => hHeld, ?_⟩ | refine ⟨hHeld, ?_⟩ | skip
                  try simp only [Act.put, List.setIfInBounds_toArray, List.set_cons_zero, List.set_cons_succ, List.getElem_toArray, List.getElem_cons_zero, List.getElem_cons_succ]
                  refine G_all (rs := [8]) (by kernel_rfl) (by simp) ?_
                  intro i hi; obtain rfl : i = 8 := by simpa using hi
                  refine wpOp_run rfl (by rfl) ?_
                  refine wp_appO tyE (.tmp 121) (.tmp 127) rfl GO _ cur.length _ (ownsRow_ext HOW.out hHeld) (by rfl) _ 1 (rfC x) (sl_one_new (w := wd) (n := 33) (e := 78) (Q := rfC x) rfl (rfC_len hxo)) (by rfl) (rf_one x) (by omega) (by omega) (Nat.le_trans hgo hHeld.size) ?_
                  intro v9 w9 own9 gr9
                  obtain ⟨a9, c9, rfl⟩ := ownSh own9
                  have bO9 := grown_keep gr9 (hHeld.keeps HBO.out) (own_neT (ownsRow_ext HOW.out hHeld) (hHeld.keeps HBO.out) (by decide))
                  try refine ⟨fun e => absurd e (by decide), ?_⟩
                  refine G_free _ _ _ _ (by kernel_rfl) ?_
                  try simp only [Act.put, List.setIfInBounds_toArray, List.set_cons_zero, List.set_cons_succ, List.getElem_toArray, List.getElem_cons_zero, List.getElem_cons_succ]
                  refine wpAny_take (i := 9) (v := ?vkAk9) rfl (by kernel_rfl) (by kernel_rfl) (by kernel_rfl) (fun _ _ _ h => h) (Or.inl ⟨by rfl, ?hykAk9⟩) ?_
                  case hykAk9 => (intro w ; go_simp; try with_reducible rfl)
                  simp only [Act.put, List.setIfInBounds_toArray, List.set_cons_zero, List.set_cons_succ, List.getElem_toArray, List.getElem_cons_zero, List.getElem_cons_succ]
                  refine wpAny_all (rs := [10]) (by kernel_rfl) (by simp) ?_
                  intro i hi; obtain rfl : i = 10 := by simpa using hi
                  refine wpOp_run rfl (by rfl) ?_
                  have kk := block_all bO9
                  have ff := fun i => block_free bO9 i
                  go_simp
                  try simp only [Act.put, List.setIfInBounds_toArray, List.set_cons_zero, List.set_cons_succ, List.getElem_toArray, List.getElem_cons_zero, List.getElem_cons_succ]
                  refine wpAny_done (by kernel_rfl) ?_ _
                  refine NoPanic.normal ?_
                  have x9 : Ext wL0 w9 := own_base (ownsRow_ext HOW.out hHeld) gr9 (xr.trans hHeld) (by omega)
                  have bO10 := block_setCell bO9 (i := 0) (.slice a9 (cur.length + 1) c9)
                  have own10 := ownsRow_grown own9 (grown_setCell w9 GO 0 (.slice a9 (cur.length + 1) c9)) (own_neT own9 bO9 (by decide))
                  have x10 : Ext wL0 (w9.setCell ⟨GO, 0, none⟩ (.slice a9 (cur.length + 1) c9)) := x9.grown (grown_setCell w9 GO 0 _) (fun k hk => by simp at hk; omega)
                  go_wp2_with fail
                  go_roundg (l.length - (i + 1))
                  case measure => omega
                  case rel =>
                    refine ⟨i + 1, true, cur ++ [x], a9, c9, by omega, by omega, rfl, by go_num, ?_, ?_, (show (cur ++ [x]).length ≤ i + 1 + 1 by simp; omega), ?_, ?_, x10⟩
                    · rw [← HC.out]; simp [keepL, hk]
                    · intro e he
                      rcases List.mem_append.1 he with h | h
                      · exact hcok e h
                      · rw [List.mem_singleton.1 h]; exact hxo
                    · simpa using own10
                    · simpa using bO10
              | false =>
                cases hl : nl x.name nm with
                | true =>
                  have hcl : cur.length ≤ i := hcl
                  have hK : (Op.bytesLess nm.toList x.name.toList || nm.toList == x.name.toList) = false := by rw [bl_leqR, show Op.bytesLess x.name.toList nm.toList = true from hl]; rfl
                  have HC := Lib.hid (show cur ++ (keepL nm x ++ stepL nm dst (l.drop (i + 1)) false) = FIN by rw [← hcur]; simp [stepL, hl])
                  clear hcur
                  go_wp2_with fail
                  refine wp_region_ext (by kernel_rfl) fun wd hqd xd hHeld => ?_
                  refine wpAnyH_take (i := 0) (v := ?vkb0) rfl (by kernel_rfl) (by kernel_rfl) (by kernel_rfl) (fun _ _ _ h => h) (Or.inl ⟨by rfl, ?hykb0⟩) hHeld ?_
                  case hykb0 => (intro w hSw; go_simp; try with_reducible rfl)
                  simp only [Act.put, List.setIfInBounds_toArray, List.set_cons_zero, List.set_cons_succ, List.getElem_toArray, List.getElem_cons_zero, List.getElem_cons_succ]
                  refine wpAnyH_take (i := 1) (v := ?vkb1) rfl (by kernel_rfl) (by kernel_rfl) (by kernel_rfl) (fun _ _ _ h => h) (Or.inl ⟨by rfl, ?hykb1⟩) hHeld ?_
                  case hykb1 => (intro w hSw; go_simp; try with_reducible rfl)
                  simp only [Act.put, List.setIfInBounds_toArray, List.set_cons_zero, List.set_cons_succ, List.getElem_toArray, List.getElem_cons_zero, List.getElem_cons_succ]
                  refine wpAnyH_take (i := 2) (v := ?vkb2) rfl (by kernel_rfl) (by kernel_rfl) (by kernel_rfl) (fun _ _ _ h => h) (Or.inl ⟨by rfl, ?hykb2⟩) hHeld ?_
                  case hykb2 => (intro w hSw; go_simp; try with_reducible rfl)
                  simp only [Act.put, List.setIfInBounds_toArray, List.set_cons_zero, List.set_cons_succ, List.getElem_toArray, List.getElem_cons_zero, List.getElem_cons_succ]
                  refine wpAnyH_take (i := 3) (v := ?vkb3) rfl (by kernel_rfl) (by kernel_rfl) (by kernel_rfl) (fun _ _ _ h => h) (Or.inl ⟨by rfl, ?hykb3⟩) hHeld ?_
                  case hykb3 => (intro w hSw; go_simp; try with_reducible rfl)
                  simp only [Act.put, List.setIfInBounds_toArray, List.set_cons_zero, List.set_cons_succ, List.getElem_toArray, List.getElem_cons_zero, List.getElem_cons_succ]
                  refine wpAnyH_take (i := 4) (v := ?vkb4) rfl (by kernel_rfl) (by kernel_rfl) (by kernel_rfl) (fun _ _ _ h => h) (Or.inl ⟨by rfl, ?hykb4⟩) hHeld ?_
                  case hykb4 => (intro w hSw; have k := hSw.cell (xd.cell cM); go_simp; try with_reducible rfl)
                  simp only [Act.put, List.setIfInBounds_toArray, List.set_cons_zero, List.set_cons_succ, List.getElem_toArray, List.getElem_cons_zero, List.getElem_cons_succ]
                  refine wpAnyH_take (i := 5) (v := ?vkb5) rfl (by kernel_rfl) (by kernel_rfl) (by kernel_rfl) (fun _ _ _ h => h) (Or.inl ⟨by rfl, ?hykb5⟩) hHeld ?_
                  case hykb5 => (intro w hSw; go_simp; try with_reducible rfl)
                  simp only [Act.put, List.setIfInBounds_toArray, List.set_cons_zero, List.set_cons_succ, List.getElem_toArray, List.getElem_cons_zero, List.getElem_cons_succ]
                  refine wpAnyH_take (i := 6) (v := ?vkb6) rfl (by kernel_rfl) (by kernel_rfl) (by kernel_rfl) (fun _ _ _ h => h) (Or.inl ⟨by rfl, ?hykb6⟩) hHeld ?_
                  case hykb6 => (intro w hSw; have k := hSw.cell (xd.cell c2); go_simp; try with_reducible rfl)
                  simp only [Act.put, List.setIfInBounds_toArray, List.set_cons_zero, List.set_cons_succ, List.getElem_toArray, List.getElem_cons_zero, List.getElem_cons_succ]
                  refine wpAnyH_take (i := 7) (v := ?vkb7) rfl (by kernel_rfl) (by kernel_rfl) (by kernel_rfl) (fun _ _ _ h => h) (Or.inl ⟨by rfl, ?hykb7⟩) hHeld ?_
                  case hykb7 => (intro w hSw; go_simp; try with_reducible rfl)
                  simp only [Act.put, List.setIfInBounds_toArray, List.set_cons_zero, List.set_cons_succ, List.getElem_toArray, List.getElem_cons_zero, List.getElem_cons_succ]
                  refine wpAnyH_take (i := 8) (v := ?vkb8) rfl (by kernel_rfl) (by kernel_rfl) (by kernel_rfl) (fun _ _ _ h => h) (Or.inl ⟨by rfl, ?hykb8⟩) hHeld ?_
                  case hykb8 => (intro w hSw; go_simp; try with_reducible rfl)
                  simp only [Act.put, List.setIfInBounds_toArray, List.set_cons_zero, List.set_cons_succ, List.getElem_toArray, List.getElem_cons_zero, List.getElem_cons_succ]
                  refine wpAnyH_take (i := 9) (v := ?vkb9) rfl (by kernel_rfl) (by kernel_rfl) (by kernel_rfl) (fun _ _ _ h => h) (Or.inl ⟨by rfl, ?hykb9⟩) hHeld ?_
                  case hykb9 => (intro w hSw; go_simp; try with_reducible rfl)
                  simp only [Act.put, List.setIfInBounds_toArray, List.set_cons_zero, List.set_cons_succ, List.getElem_toArray, List.getElem_cons_zero, List.getElem_cons_succ]
                  refine wpAnyH_take (i := 10) (v := ?vkb10) rfl (by kernel_rfl) (by kernel_rfl) (by kernel_rfl) (fun _ _ _ h => h) (Or.inl ⟨by rfl, ?hykb10⟩) hHeld ?_
                  case hykb10 => (intro w hSw; have k := hSw.cell (xd.cell hrn); go_simp; try with_reducible rfl)
                  simp only [Act.put, List.setIfInBounds_toArray, List.set_cons_zero, List.set_cons_succ, List.getElem_toArray, List.getElem_cons_zero, List.getElem_cons_succ]
                  refine wpAnyH_take (i := 11) (v := ?vkb11) rfl (by kernel_rfl) (by kernel_rfl) (by kernel_rfl) (fun _ _ _ h => h) (Or.inl ⟨by rfl, ?hykb11⟩) hHeld ?_
                  case hykb11 => (intro w hSw; have k := hK; go_simp; try with_reducible rfl)
                  simp only [Act.put, List.setIfInBounds_toArray, List.set_cons_zero, List.set_cons_succ, List.getElem_toArray, List.getElem_cons_zero, List.getElem_cons_succ]
                  refine wpAnyH_take (i := 12) (v := ?vkb12) rfl (by kernel_rfl) (by kernel_rfl) (by kernel_rfl) (fun _ _ _ h => h) (Or.inl ⟨by rfl, ?hykb12⟩) hHeld ?_
                  case hykb12 => (intro w hSw; go_simp; try with_reducible rfl)
                  simp only [Act.put, List.setIfInBounds_toArray, List.set_cons_zero, List.set_cons_succ, List.getElem_toArray, List.getElem_cons_zero, List.getElem_cons_succ]
                  refine wpAnyH_done (by kernel_rfl) ?_ _
                  refine NoPanic.normal ?_
                  replace bO := xd.keeps bO
                  replace own := ownsRow_ext own xd
                  replace xr := xr.trans xd
                  replace c2 := xr.cell C2L.out
                  replace cM := xr.cell CML.out
                  replace hrn := xr.cell HRN.out
                  replace hra := rangeAt_ext HRA.out xr
                  replace hto := rangeAt_ext HTO.out xr
                  clear hHeld hqd xd
                  go_wp2_with fail
                  cases hk : (x.name.toList == nm.toList) with
                  | true =>
                    have hKn : (x.name.toList != nm.toList) = false := by rw [bne, hk]; rfl
                    go_wp2_with fail
                    refine wp_region_ext (by kernel_rfl) fun wd hqd xd hHeld => ?_
                    refine wpAnyH_take (i := 0) (v := ?vkBt0) rfl (by kernel_rfl) (by kernel_rfl) (by kernel_rfl) (fun _ _ _ h => h) (Or.inl ⟨by rfl, ?hykBt0⟩) hHeld ?_
                    case hykBt0 => (intro w hSw; go_simp; try with_reducible rfl)
                    simp only [Act.put, List.setIfInBounds_toArray, List.set_cons_zero, List.set_cons_succ, List.getElem_toArray, List.getElem_cons_zero, List.getElem_cons_succ]
                    refine wpAnyH_take (i := 1) (v := ?vkBt1) rfl (by kernel_rfl) (by kernel_rfl) (by kernel_rfl) (fun _ _ _ h => h) (Or.inl ⟨by rfl, ?hykBt1⟩) hHeld ?_
                    case hykBt1 => (intro w hSw; have k := hSw.cell (xd.cell c2); go_simp; try with_reducible rfl)
                    simp only [Act.put, List.setIfInBounds_toArray, List.set_cons_zero, List.set_cons_succ, List.getElem_toArray, List.getElem_cons_zero, List.getElem_cons_succ]
                    refine wpAnyH_take (i := 2) (v := ?vkBt2) rfl (by kernel_rfl) (by kernel_rfl) (by kernel_rfl) (fun _ _ _ h => h) (Or.inl ⟨by rfl, ?hykBt2⟩) hHeld ?_
                    case hykBt2 => (intro w hSw; go_simp; try with_reducible rfl)
                    simp only [Act.put, List.setIfInBounds_toArray, List.set_cons_zero, List.set_cons_succ, List.getElem_toArray, List.getElem_cons_zero, List.getElem_cons_succ]
                    refine wpAnyH_take (i := 3) (v := ?vkBt3) rfl (by kernel_rfl) (by kernel_rfl) (by kernel_rfl) (fun _ _ _ h => h) (Or.inl ⟨by rfl, ?hykBt3⟩) hHeld ?_
                    case hykBt3 => (intro w hSw; go_simp; try with_reducible rfl)
                    simp only [Act.put, List.setIfInBounds_toArray, List.set_cons_zero, List.set_cons_succ, List.getElem_toArray, List.getElem_cons_zero, List.getElem_cons_succ]
                    refine wpAnyH_take (i := 4) (v := ?vkBt4) rfl (by kernel_rfl) (by kernel_rfl) (by kernel_rfl) (fun _ _ _ h => h) (Or.inl ⟨by rfl, ?hykBt4⟩) hHeld ?_
                    case hykBt4 => (intro w hSw; go_simp; try with_reducible rfl)
                    simp only [Act.put, List.setIfInBounds_toArray, List.set_cons_zero, List.set_cons_succ, List.getElem_toArray, List.getElem_cons_zero, List.getElem_cons_succ]
                    refine wpAnyH_take (i := 5) (v := ?vkBt5) rfl (by kernel_rfl) (by kernel_rfl) (by kernel_rfl) (fun _ _ _ h => h) (Or.inl ⟨by rfl, ?hykBt5⟩) hHeld ?_
                    case hykBt5 => (intro w hSw; have k := hSw.cell (xd.cell hrn); go_simp; try with_reducible rfl)
                    simp only [Act.put, List.setIfInBounds_toArray, List.set_cons_zero, List.set_cons_succ, List.getElem_toArray, List.getElem_cons_zero, List.getElem_cons_succ]
                    refine wpAnyH_take (i := 6) (v := ?vkBt6) rfl (by kernel_rfl) (by kernel_rfl) (by kernel_rfl) (fun _ _ _ h => h) (Or.inl ⟨by rfl, ?hykBt6⟩) hHeld ?_
                    case hykBt6 => (intro w hSw; go_simp; try with_reducible rfl)
                    simp only [Act.put, List.setIfInBounds_toArray, List.set_cons_zero, List.set_cons_succ, List.getElem_toArray, List.getElem_cons_zero, List.getElem_cons_succ]
                    refine wpAnyH_take (i := 7) (v := ?vkBt7) rfl (by kernel_rfl) (by kernel_rfl) (by kernel_rfl) (fun _ _ _ h => h) (Or.inl ⟨by rfl, ?hykBt7⟩) hHeld ?_
                    case hykBt7 => (intro w hSw; have k := hSw.cell (xd.cell cM); go_simp; try with_reducible rfl)
                    simp only [Act.put, List.setIfInBounds_toArray, List.set_cons_zero, List.set_cons_succ, List.getElem_toArray, List.getElem_cons_zero, List.getElem_cons_succ]
                    refine wpAnyH_take (i := 8) (v := ?vkBt8) rfl (by kernel_rfl) (by kernel_rfl) (by kernel_rfl) (fun _ _ _ h => h) (Or.inl ⟨by rfl, ?hykBt8⟩) hHeld ?_
                    case hykBt8 => (intro w hSw; have k := hKn; go_simp; try with_reducible rfl)
                    simp only [Act.put, List.setIfInBounds_toArray, List.set_cons_zero, List.set_cons_succ, List.getElem_toArray, List.getElem_cons_zero, List.getElem_cons_succ]
                    refine wpAnyH_done (by kernel_rfl) ?_ _
                    refine NoPanic.normal ?_
                    replace bO := xd.keeps bO
                    replace own := ownsRow_ext own xd
                    replace xr := xr.trans xd
                    replace c2 := xr.cell C2L.out
                    replace cM := xr.cell CML.out
                    replace hrn := xr.cell HRN.out
                    replace hra := rangeAt_ext HRA.out xr
                    replace hto := rangeAt_ext HTO.out xr
                    go_wp2_with fail
                    go_roundg (l.length - (i + 1))
                    case measure => omega
                    case rel => exact ⟨i + 1, false, cur, a, c, by omega, by omega, rfl, by go_num, by rw [← HC.out]; simp [keepL, hk], hcok, (show cur.length ≤ i + 1 by omega), own, bO, xr⟩
                  | false =>
                    have hKn : (x.name.toList != nm.toList) = true := by rw [bne, hk]; rfl
                    go_wp2_with fail
                    refine wp_region_ext (by kernel_rfl) fun wd hqd xd hHeld => ?_
                    refine wpAnyH_take (i := 0) (v := ?vkBf0) rfl (by kernel_rfl) (by kernel_rfl) (by kernel_rfl) (fun _ _ _ h => h) (Or.inl ⟨by rfl, ?hykBf0⟩) hHeld ?_
                    case hykBf0 => (intro w hSw; go_simp; try with_reducible rfl)
                    simp only [Act.put, List.setIfInBounds_toArray, List.set_cons_zero, List.set_cons_succ, List.getElem_toArray, List.getElem_cons_zero, List.getElem_cons_succ]
                    refine wpAnyH_take (i := 1) (v := ?vkBf1) rfl (by kernel_rfl) (by kernel_rfl) (by kernel_rfl) (fun _ _ _ h => h) (Or.inl ⟨by rfl, ?hykBf1⟩) hHeld ?_
                    case hykBf1 => (intro w hSw; have k := hSw.cell (xd.cell c2); go_simp; try with_reducible rfl)
                    simp only [Act.put, List.setIfInBounds_toArray, List.set_cons_zero, List.set_cons_succ, List.getElem_toArray, List.getElem_cons_zero, List.getElem_cons_succ]
                    refine wpAnyH_take (i := 2) (v := ?vkBf2) rfl (by kernel_rfl) (by kernel_rfl) (by kernel_rfl) (fun _ _ _ h => h) (Or.inl ⟨by rfl, ?hykBf2⟩) hHeld ?_
                    case hykBf2 => (intro w hSw; go_simp; try with_reducible rfl)
                    simp only [Act.put, List.setIfInBounds_toArray, List.set_cons_zero, List.set_cons_succ, List.getElem_toArray, List.getElem_cons_zero, List.getElem_cons_succ]
                    refine wpAnyH_take (i := 3) (v := ?vkBf3) rfl (by kernel_rfl) (by kernel_rfl) (by kernel_rfl) (fun _ _ _ h => h) (Or.inl ⟨by rfl, ?hykBf3⟩) hHeld ?_
                    case hykBf3 => (intro w hSw; go_simp; try with_reducible rfl)
                    simp only [Act.put, List.setIfInBounds_toArray, List.set_cons_zero, List.set_cons_succ, List.getElem_toArray, List.getElem_cons_zero, List.getElem_cons_succ]
                    refine wpAnyH_take (i := 4) (v := ?vkBf4) rfl (by kernel_rfl) (by kernel_rfl) (by kernel_rfl) (fun _ _ _ h => h) (Or.inl ⟨by rfl, ?hykBf4⟩) hHeld ?_
                    case hykBf4 => (intro w hSw; go_simp; try with_reducible rfl)
                    simp only [Act.put, List.setIfInBounds_toArray, List.set_cons_zero, List.set_cons_succ, List.getElem_toArray, List.getElem_cons_zero, List.getElem_cons_succ]
                    refine wpAnyH_take (i := 5) (v := ?vkBf5) rfl (by kernel_rfl) (by kernel_rfl) (by kernel_rfl) (fun _ _ _ h => h) (Or.inl ⟨by rfl, ?hykBf5⟩) hHeld ?_
                    case hykBf5 => (intro w hSw; have k := hSw.cell (xd.cell hrn); go_simp; try with_reducible rfl)
                    simp only [Act.put, List.setIfInBounds_toArray, List.set_cons_zero, List.set_cons_succ, List.getElem_toArray, List.getElem_cons_zero, List.getElem_cons_succ]
                    refine wpAnyH_take (i := 6) (v := ?vkBf6) rfl (by kernel_rfl) (by kernel_rfl) (by kernel_rfl) (fun _ _ _ h => h) (Or.inl ⟨by rfl, ?hykBf6⟩) hHeld ?_
                    case hykBf6 => (intro w hSw; go_simp; try with_reducible rfl)
                    simp only [Act.put, List.setIfInBounds_toArray, List.set_cons_zero, List.set_cons_succ, List.getElem_toArray, List.getElem_cons_zero, List.getElem_cons_succ]
                    refine wpAnyH_take (i := 7) (v := ?vkBf7) rfl (by kernel_rfl) (by kernel_rfl) (by kernel_rfl) (fun _ _ _ h => h) (Or.inl ⟨by rfl, ?hykBf7⟩) hHeld ?_
                    case hykBf7 => (intro w hSw; have k := hSw.cell (xd.cell cM); go_simp; try with_reducible rfl)
                    simp only [Act.put, List.setIfInBounds_toArray, List.set_cons_zero, List.set_cons_succ, List.getElem_toArray, List.getElem_cons_zero, List.getElem_cons_succ]
                    refine wpAnyH_take (i := 8) (v := ?vkBf8) rfl (by kernel_rfl) (by kernel_rfl) (by kernel_rfl) (fun _ _ _ h => h) (Or.inl ⟨by rfl, ?hykBf8⟩) hHeld ?_
                    case hykBf8 => (intro w hSw; have k := hKn; go_simp; try with_reducible rfl)
                    simp only [Act.put, List.setIfInBounds_toArray, List.set_cons_zero, List.set_cons_succ, List.getElem_toArray, List.getElem_cons_zero, List.getElem_cons_succ]
                    refine wpAnyH_done (by kernel_rfl) ?_ _
                    refine NoPanic.normal ?_
                    replace bO := xd.keeps bO
                    replace own := ownsRow_ext own xd
                    replace xr := xr.trans xd
                    replace c2 := xr.cell C2L.out
                    replace cM := xr.cell CML.out
                    replace hrn := xr.cell HRN.out
                    replace hra := rangeAt_ext HRA.out xr
                    replace hto := rangeAt_ext HTO.out xr
                    clear hHeld hqd xd
                    obtain ⟨wq, hwq⟩ : ∃ x, x = wd := ⟨_, rfl⟩
                    subst hwq
                    have hbx := build_rf (e := x) (h := hxo)
                    have KO := fun v (h : Ext wq v) => block_all (h.keeps bO)
                    have KB := fun v (h : Ext wq v) => h.cell c2
                    have HOW := Lib.hid own
                    have HBO := Lib.hid bO
                    have hgo : GO ≤ wq.heap.size := hszL ▸ xr.size
                    go_wp2_with fail
                    refine wp_region_G 8 (fun v => Ext wq v) (by kernel_rfl) fun wd hqd hHeld => ?_
                    refine G_pure (i := 0) (u := ?vkBk0) rfl (by kernel_rfl) (by kernel_rfl) (by kernel_rfl) (fun _ _ _ h => h) (by decide) (Or.inl ⟨by rfl, ?hykBk0⟩) hHeld ?_
                    case hykBk0 => (intro w hSw; go_simp; try with_reducible rfl)
                    simp only [Act.put, List.setIfInBounds_toArray, List.set_cons_zero, List.set_cons_succ, List.getElem_toArray, List.getElem_cons_zero, List.getElem_cons_succ]
                    refine G_take (i := 1) (u := ?vkBk1) rfl (by kernel_rfl) (by kernel_rfl) (by kernel_rfl) (fun _ _ _ h => h) rfl (by kernel_rfl) (by decide) (by rfl) (Or.inl ⟨by rfl, ?hykBk1⟩) hHeld ?_
                    case hykBk1 => (intro w hSw; have kk := KO _ hSw; go_simp; try with_reducible rfl)
                    simp only [Act.put, List.setIfInBounds_toArray, List.set_cons_zero, List.set_cons_succ, List.getElem_toArray, List.getElem_cons_zero, List.getElem_cons_succ]
                    refine G_pure (i := 2) (u := ?vkBk2) rfl (by kernel_rfl) (by kernel_rfl) (by kernel_rfl) (fun _ _ _ h => h) (by decide) (Or.inl ⟨by rfl, ?hykBk2⟩) hHeld ?_
                    case hykBk2 => (intro w hSw; go_simp; try with_reducible rfl)
                    simp only [Act.put, List.setIfInBounds_toArray, List.set_cons_zero, List.set_cons_succ, List.getElem_toArray, List.getElem_cons_zero, List.getElem_cons_succ]
                    refine C_take (i := 3) (u := ?vkBk3) [5, 6, 7, 8] rfl (by kernel_rfl) (by kernel_rfl) (by kernel_rfl) (fun _ _ _ h => h) (by kernel_rfl) (by kernel_rfl) (by kernel_rfl) (by kernel_rfl) (Or.inl ⟨by rfl, ?hykBk3⟩) hHeld ?_
                    case hykBk3 => (intro w hSw; have kk := KB _ hSw; go_simp; try with_reducible rfl)
                    simp only [Act.put, List.setIfInBounds_toArray, List.set_cons_zero, List.set_cons_succ, List.getElem_toArray, List.getElem_cons_zero, List.getElem_cons_succ]
                    refine G_pure (i := 4) (u := ?vkBk4) rfl (by kernel_rfl) (by kernel_rfl) (by kernel_rfl) (fun _ _ _ h => h) (by decide) (Or.inl ⟨by rfl, ?hykBk4⟩) hHeld ?_
                    case hykBk4 => (intro w hSw; go_simp; try with_reducible rfl)
                    simp only [Act.put, List.setIfInBounds_toArray, List.set_cons_zero, List.set_cons_succ, List.getElem_toArray, List.getElem_cons_zero, List.getElem_cons_succ]
                    refine G_pure (i := 5) (u := ?vkBk5) rfl (by kernel_rfl) (by kernel_rfl) (by kernel_rfl) (fun _ _ _ h => h) (by decide) (Or.inl ⟨by rfl, ?hykBk5⟩) hHeld ?_
                    case hykBk5 => (intro w hSw; go_simp; try with_reducible rfl)
                    simp only [Act.put, List.setIfInBounds_toArray, List.set_cons_zero, List.set_cons_succ, List.getElem_toArray, List.getElem_cons_zero, List.getElem_cons_succ]
                    refine C_take (i := 6) (u := _) [7, 8] rfl (by kernel_rfl) (by kernel_rfl) (by kernel_rfl) (fun _ _ _ h => h) (by kernel_rfl) (by kernel_rfl) (by kernel_rfl) (by kernel_rfl) (yieldsIf_load_mid (by rfl) _ _ rfl _ _ rfl (rfC x) _ (fun w hSw => rangeAt_ext hra hSw) Tryz.underlying78 rfl hinf) hHeld ?_
                    simp only [Act.put, List.setIfInBounds_toArray, List.set_cons_zero, List.set_cons_succ, List.getElem_toArray, List.getElem_cons_zero, List.getElem_cons_succ]
                    refine G_all (rs := [7]) (by kernel_rfl) (by simp) ?_
                    intro i hi; obtain rfl : i = 7 := by simpa using hi
                    refine wpOp_run rfl (by rfl) ?_
                    refine wp_buildOne 61 (.tmp 126) rfl (rfC x) (by rfl) (hbx _) ?_
                    have xb : Ext wd (wd.alloc (.cells (rfC x).toArray 78)) := (Ext.refl wd).alloc _
                    have hHeld := hHeld.trans xb
                    first | refine ⟨fun _ => hHeld, ?_⟩ | refine ⟨hHeld, ?_⟩ | skip
                    try simp only [Act.put, List.setIfInBounds_toArray, List.set_cons_zero, List.set_cons_succ, List.getElem_toArray, List.getElem_cons_zero, List.getElem_cons_succ]
                    refine G_all (rs := [8]) (by kernel_rfl) (by simp) ?_
                    intro i hi; obtain rfl : i = 8 := by simpa using hi
                    refine wpOp_run rfl (by rfl) ?_
                    refine wp_appO tyE (.tmp 121) (.tmp 127) rfl GO _ cur.length _ (ownsRow_ext HOW.out hHeld) (by rfl) _ 1 (rfC x) (sl_one_new (w := wd) (n := 33) (e := 78) (Q := rfC x) rfl (rfC_len hxo)) (by rfl) (rf_one x) (by omega) (by omega) (Nat.le_trans hgo hHeld.size) ?_
                    intro v9 w9 own9 gr9
                    obtain ⟨a9, c9, rfl⟩ := ownSh own9
                    have bO9 := grown_keep gr9 (hHeld.keeps HBO.out) (own_neT (ownsRow_ext HOW.out hHeld) (hHeld.keeps HBO.out) (by decide))
                    try refine ⟨fun e => absurd e (by decide), ?_⟩
                    refine G_free _ _ _ _ (by kernel_rfl) ?_
                    try simp only [Act.put, List.setIfInBounds_toArray, List.set_cons_zero, List.set_cons_succ, List.getElem_toArray, List.getElem_cons_zero, List.getElem_cons_succ]
                    refine wpAny_take (i := 9) (v := ?vkBk9) rfl (by kernel_rfl) (by kernel_rfl) (by kernel_rfl) (fun _ _ _ h => h) (Or.inl ⟨by rfl, ?hykBk9⟩) ?_
                    case hykBk9 => (intro w ; go_simp; try with_reducible rfl)
                    simp only [Act.put, List.setIfInBounds_toArray, List.set_cons_zero, List.set_cons_succ, List.getElem_toArray, List.getElem_cons_zero, List.getElem_cons_succ]
                    refine wpAny_all (rs := [10]) (by kernel_rfl) (by simp) ?_
                    intro i hi; obtain rfl : i = 10 := by simpa using hi
                    refine wpOp_run rfl (by rfl) ?_
                    have kk := block_all bO9
                    have ff := fun i => block_free bO9 i
                    go_simp
                    try simp only [Act.put, List.setIfInBounds_toArray, List.set_cons_zero, List.set_cons_succ, List.getElem_toArray, List.getElem_cons_zero, List.getElem_cons_succ]
                    refine wpAny_done (by kernel_rfl) ?_ _
                    refine NoPanic.normal ?_
                    have x9 : Ext wL0 w9 := own_base (ownsRow_ext HOW.out hHeld) gr9 (xr.trans hHeld) (by omega)
                    have bO10 := block_setCell bO9 (i := 0) (.slice a9 (cur.length + 1) c9)
                    have own10 := ownsRow_grown own9 (grown_setCell w9 GO 0 (.slice a9 (cur.length + 1) c9)) (own_neT own9 bO9 (by decide))
                    have x10 : Ext wL0 (w9.setCell ⟨GO, 0, none⟩ (.slice a9 (cur.length + 1) c9)) := x9.grown (grown_setCell w9 GO 0 _) (fun k hk => by simp at hk; omega)
                    go_wp2_with fail
                    go_roundg (l.length - (i + 1))
                    case measure => omega
                    case rel =>
                      refine ⟨i + 1, false, cur ++ [x], a9, c9, by omega, by omega, rfl, by go_num, ?_, ?_, (show (cur ++ [x]).length ≤ i + 1 by simp; omega), ?_, ?_, x10⟩
                      · rw [← HC.out]; simp [keepL, hk]
                      · intro e he
                        rcases List.mem_append.1 he with h | h
                        · exact hcok e h
                        · rw [List.mem_singleton.1 h]; exact hxo
                      · simpa using own10
                      · simpa using bO10
                | false =>
                  have hcl : cur.length ≤ i := hcl
                  have hK : (Op.bytesLess nm.toList x.name.toList || nm.toList == x.name.toList) = true := by rw [bl_leqR, show Op.bytesLess x.name.toList nm.toList = false from hl]; rfl
                  have HC := Lib.hid (show (cur ++ [⟨nm, dst⟩]) ++ (keepL nm x ++ stepL nm dst (l.drop (i + 1)) true) = FIN by rw [← hcur]; simp [stepL, hl])
                  clear hcur
                  go_wp2_with fail
                  refine wp_region_ext (by kernel_rfl) fun wd hqd xd hHeld => ?_
                  refine wpAnyH_take (i := 0) (v := ?vkc0) rfl (by kernel_rfl) (by kernel_rfl) (by kernel_rfl) (fun _ _ _ h => h) (Or.inl ⟨by rfl, ?hykc0⟩) hHeld ?_
                  case hykc0 => (intro w hSw; go_simp; try with_reducible rfl)
                  simp only [Act.put, List.setIfInBounds_toArray, List.set_cons_zero, List.set_cons_succ, List.getElem_toArray, List.getElem_cons_zero, List.getElem_cons_succ]
                  refine wpAnyH_take (i := 1) (v := ?vkc1) rfl (by kernel_rfl) (by kernel_rfl) (by kernel_rfl) (fun _ _ _ h => h) (Or.inl ⟨by rfl, ?hykc1⟩) hHeld ?_
                  case hykc1 => (intro w hSw; go_simp; try with_reducible rfl)
                  simp only [Act.put, List.setIfInBounds_toArray, List.set_cons_zero, List.set_cons_succ, List.getElem_toArray, List.getElem_cons_zero, List.getElem_cons_succ]
                  refine wpAnyH_take (i := 2) (v := ?vkc2) rfl (by kernel_rfl) (by kernel_rfl) (by kernel_rfl) (fun _ _ _ h => h) (Or.inl ⟨by rfl, ?hykc2⟩) hHeld ?_
                  case hykc2 => (intro w hSw; go_simp; try with_reducible rfl)
                  simp only [Act.put, List.setIfInBounds_toArray, List.set_cons_zero, List.set_cons_succ, List.getElem_toArray, List.getElem_cons_zero, List.getElem_cons_succ]
                  refine wpAnyH_take (i := 3) (v := ?vkc3) rfl (by kernel_rfl) (by kernel_rfl) (by kernel_rfl) (fun _ _ _ h => h) (Or.inl ⟨by rfl, ?hykc3⟩) hHeld ?_
                  case hykc3 => (intro w hSw; go_simp; try with_reducible rfl)
                  simp only [Act.put, List.setIfInBounds_toArray, List.set_cons_zero, List.set_cons_succ, List.getElem_toArray, List.getElem_cons_zero, List.getElem_cons_succ]
                  refine wpAnyH_take (i := 4) (v := ?vkc4) rfl (by kernel_rfl) (by kernel_rfl) (by kernel_rfl) (fun _ _ _ h => h) (Or.inl ⟨by rfl, ?hykc4⟩) hHeld ?_
                  case hykc4 => (intro w hSw; have k := hSw.cell (xd.cell cM); go_simp; try with_reducible rfl)
                  simp only [Act.put, List.setIfInBounds_toArray, List.set_cons_zero, List.set_cons_succ, List.getElem_toArray, List.getElem_cons_zero, List.getElem_cons_succ]
                  refine wpAnyH_take (i := 5) (v := ?vkc5) rfl (by kernel_rfl) (by kernel_rfl) (by kernel_rfl) (fun _ _ _ h => h) (Or.inl ⟨by rfl, ?hykc5⟩) hHeld ?_
                  case hykc5 => (intro w hSw; go_simp; try with_reducible rfl)
                  simp only [Act.put, List.setIfInBounds_toArray, List.set_cons_zero, List.set_cons_succ, List.getElem_toArray, List.getElem_cons_zero, List.getElem_cons_succ]
                  refine wpAnyH_take (i := 6) (v := ?vkc6) rfl (by kernel_rfl) (by kernel_rfl) (by kernel_rfl) (fun _ _ _ h => h) (Or.inl ⟨by rfl, ?hykc6⟩) hHeld ?_
                  case hykc6 => (intro w hSw; have k := hSw.cell (xd.cell c2); go_simp; try with_reducible rfl)
                  simp only [Act.put, List.setIfInBounds_toArray, List.set_cons_zero, List.set_cons_succ, List.getElem_toArray, List.getElem_cons_zero, List.getElem_cons_succ]
                  refine wpAnyH_take (i := 7) (v := ?vkc7) rfl (by kernel_rfl) (by kernel_rfl) (by kernel_rfl) (fun _ _ _ h => h) (Or.inl ⟨by rfl, ?hykc7⟩) hHeld ?_
                  case hykc7 => (intro w hSw; go_simp; try with_reducible rfl)
                  simp only [Act.put, List.setIfInBounds_toArray, List.set_cons_zero, List.set_cons_succ, List.getElem_toArray, List.getElem_cons_zero, List.getElem_cons_succ]
                  refine wpAnyH_take (i := 8) (v := ?vkc8) rfl (by kernel_rfl) (by kernel_rfl) (by kernel_rfl) (fun _ _ _ h => h) (Or.inl ⟨by rfl, ?hykc8⟩) hHeld ?_
                  case hykc8 => (intro w hSw; go_simp; try with_reducible rfl)
                  simp only [Act.put, List.setIfInBounds_toArray, List.set_cons_zero, List.set_cons_succ, List.getElem_toArray, List.getElem_cons_zero, List.getElem_cons_succ]
                  refine wpAnyH_take (i := 9) (v := ?vkc9) rfl (by kernel_rfl) (by kernel_rfl) (by kernel_rfl) (fun _ _ _ h => h) (Or.inl ⟨by rfl, ?hykc9⟩) hHeld ?_
                  case hykc9 => (intro w hSw; go_simp; try with_reducible rfl)
                  simp only [Act.put, List.setIfInBounds_toArray, List.set_cons_zero, List.set_cons_succ, List.getElem_toArray, List.getElem_cons_zero, List.getElem_cons_succ]
                  refine wpAnyH_take (i := 10) (v := ?vkc10) rfl (by kernel_rfl) (by kernel_rfl) (by kernel_rfl) (fun _ _ _ h => h) (Or.inl ⟨by rfl, ?hykc10⟩) hHeld ?_
                  case hykc10 => (intro w hSw; have k := hSw.cell (xd.cell hrn); go_simp; try with_reducible rfl)
                  simp only [Act.put, List.setIfInBounds_toArray, List.set_cons_zero, List.set_cons_succ, List.getElem_toArray, List.getElem_cons_zero, List.getElem_cons_succ]
                  refine wpAnyH_take (i := 11) (v := ?vkc11) rfl (by kernel_rfl) (by kernel_rfl) (by kernel_rfl) (fun _ _ _ h => h) (Or.inl ⟨by rfl, ?hykc11⟩) hHeld ?_
                  case hykc11 => (intro w hSw; have k := hK; go_simp; try with_reducible rfl)
                  simp only [Act.put, List.setIfInBounds_toArray, List.set_cons_zero, List.set_cons_succ, List.getElem_toArray, List.getElem_cons_zero, List.getElem_cons_succ]
                  refine wpAnyH_take (i := 12) (v := ?vkc12) rfl (by kernel_rfl) (by kernel_rfl) (by kernel_rfl) (fun _ _ _ h => h) (Or.inl ⟨by rfl, ?hykc12⟩) hHeld ?_
                  case hykc12 => (intro w hSw; go_simp; try with_reducible rfl)
                  simp only [Act.put, List.setIfInBounds_toArray, List.set_cons_zero, List.set_cons_succ, List.getElem_toArray, List.getElem_cons_zero, List.getElem_cons_succ]
                  refine wpAnyH_done (by kernel_rfl) ?_ _
                  refine NoPanic.normal ?_
                  replace bO := xd.keeps bO
                  replace own := ownsRow_ext own xd
                  replace xr := xr.trans xd
                  replace c2 := xr.cell C2L.out
                  replace cM := xr.cell CML.out
                  replace hrn := xr.cell HRN.out
                  replace hra := rangeAt_ext HRA.out xr
                  replace hto := rangeAt_ext HTO.out xr
                  clear hHeld hqd xd
                  have kO := block_all bO
                  go_wp2_with (first
              | ((with_reducible refine at_bld 78 (.tmp 104) (.tmp 106) ?_); refine wpl_bld (by rfl) 78 (.tmp 104) (.tmp 106) rfl _ _ (by rfl) (by rfl) _ hbd ?_)
              | ((with_reducible refine at_build1 61 (.tmp 107) ?_); refine wpl_buildOne (by rfl) 61 (.tmp 107) rfl (rfC ⟨nm, dst⟩) (by rfl) (hbl _) ?_)
              | (at_builtin; have e1 := ownsRow_ext own ((Ext.refl wd).alloc (.cells (rfC ⟨nm, dst⟩).toArray 78)); have e2 := sl_one_new (w := wd) (n := 33) (e := 78) (Q := rfC ⟨nm, dst⟩) rfl (rfC_len hE); have e3 : GO ≤ (wd.alloc (.cells (rfC ⟨nm, dst⟩).toArray 78)).heap.size := (by have h1 := ((Ext.refl wd).alloc (.cells (rfC ⟨nm, dst⟩).toArray 78)).size; have h2 := xr.size; omega); refine wp_app (w := wd.alloc (.cells (rfC ⟨nm, dst⟩).toArray 78)) tyE rfl (.tmp 102) (.tmp 108) rfl GO _ cur.length _ e1 (by rfl) _ 1 (rfC ⟨nm, dst⟩) e2 (by rfl) (rf_one _) (by omega) (by omega) e3 ?_; intro v7 w7 own7 gr7; obtain ⟨a7, c7, rfl⟩ := ownSh own7; have z1 := blk_old (o := .cells (rfC ⟨nm, dst⟩).toArray 78) bO; have z2 := own_neT e1 z1 (by decide); have bO7 := grown_keep gr7 z1 z2; clear z1 z2 e1 e2 e3; have kk7 := block_all bO7; have ff7 := fun i => block_free bO7 i)
              | ((with_reducible refine at_load 33 (.tmp 23) ?_); refine wpl_mid (by rfl) 33 (.tmp 23) rfl (G + 1) 1 (by rfl) (fr.map bc) _ hfr Tryz.underlying33 rfl hif ?_)
              | ((with_reducible refine at_load 33 (.tmp 42) ?_); refine wpl_mid (by rfl) 33 (.tmp 42) rfl (G + 1) 1 (by rfl) (fr.map bc) _ hfr Tryz.underlying33 rfl hif ?_)
              | ((with_reducible refine at_load 33 (.tmp 51) ?_); refine wpl_mid (by rfl) 33 (.tmp 51) rfl (G + 1) 1 (by rfl) (fr.map bc) _ hfr Tryz.underlying33 rfl hif ?_)
              | ((with_reducible refine at_load 33 (.tmp 62) ?_); refine wpl_mid (by rfl) 33 (.tmp 62) rfl (G + 1) 1 (by rfl) (fr.map bc) _ hfr Tryz.underlying33 rfl hif ?_)
              | ((with_reducible refine at_load 33 (.tmp 28) ?_); refine wpl_mid (by rfl) 33 (.tmp 28) rfl (G + 1) 33 (by rfl) (dst.map bc) _ hto Tryz.underlying33 rfl hit ?_)
              | ((with_reducible refine at_load 33 (.tmp 77) ?_); refine wpl_mid (by rfl) 33 (.tmp 77) rfl (G + 1) 33 (by rfl) (dst.map bc) _ hto Tryz.underlying33 rfl hit ?_)
              | ((with_reducible refine at_load 33 (.tmp 105) ?_); refine wpl_mid (by rfl) 33 (.tmp 105) rfl (G + 1) 33 (by rfl) (dst.map bc) _ hto Tryz.underlying33 rfl hit ?_)
              | ((with_reducible refine at_load 33 (.tmp 136) ?_); refine wpl_mid (by rfl) 33 (.tmp 136) rfl (G + 1) 33 (by rfl) (dst.map bc) _ hto Tryz.underlying33 rfl hit ?_)
              | ((with_reducible refine at_load 33 (.tmp 6) ?_); refine wpl_load (by rfl) 33 (.tmp 6) rfl (G + 3) (by rfl) 33 (z32.map bc).toArray (0, 0) _ bZ Tryz.underlying33 rfl (id_size rfl) ?_))
                  clear kO
                  have x7 : Ext wL0 w7 := own_base (ownsRow_ext own ((Ext.refl wd).alloc _)) gr7 (xr.alloc _) (by omega)
                  have bO8 := block_setCell bO7 (i := 0) (.slice a7 (cur.length + 1) c7)
                  have own8 := ownsRow_grown own7 (grown_setCell w7 GO 0 (.slice a7 (cur.length + 1) c7)) (own_neT own7 bO7 (by decide))
                  have x8 : Ext wL0 (w7.setCell ⟨GO, 0, none⟩ (.slice a7 (cur.length + 1) c7)) := x7.grown (grown_setCell w7 GO 0 _) (fun k hk => by simp at hk; omega)
                  generalize w7.setCell ⟨GO, 0, none⟩ (.slice a7 (cur.length + 1) c7) = w8 at *
                  obtain ⟨cur2, hcur2⟩ : ∃ cur2, cur2 = cur ++ [(⟨nm, dst⟩ : Rf)] := ⟨_, rfl⟩
                  have hlen2 : cur2.length = cur.length + 1 := by rw [hcur2]; simp
                  have hcok2 : ∀ e ∈ cur2, RfOk e := fun e he => by
                    rw [hcur2] at he
                    rcases List.mem_append.1 he with h | h
                    · exact hcok e h
                    · rw [List.mem_singleton.1 h]; exact hE
                  have hfl2 : cur.flatMap rfC ++ rfC ⟨nm, dst⟩ = cur2.flatMap rfC := by rw [hcur2]; simp
                  rw [← hcur2] at HC
                  rw [hfl2, ← hlen2] at own8
                  rw [← hlen2] at bO8 ⊢
                  have hcl2 : cur2.length ≤ i + 1 := by omega
                  clear own own7 bO bO7 kk7 ff7 x7 gr7 xr hcok hcl hcur2 hlen2 hfl2 c2 cM hrn hra hto
                  have own := own8
                  have bO : w8.heap[GO]? = some (.cells #[.slice a7 cur2.length c7] 63 (0, 0)) := bO8
                  have xr := x8
                  have c2 := xr.cell C2L.out
                  have cM := xr.cell CML.out
                  have hrn := xr.cell HRN.out
                  have hra := rangeAt_ext HRA.out xr
                  have hto := rangeAt_ext HTO.out xr
                  clear own8 bO8 x8
                  obtain ⟨cur, rfl⟩ : ∃ x, x = cur2 := ⟨_, rfl⟩
                  have hcok := hcok2
                  clear hcok2
                  go_wp2_with fail
                  cases hk : (x.name.toList == nm.toList) with
                  | true =>
                    have hKn : (x.name.toList != nm.toList) = false := by rw [bne, hk]; rfl
                    go_wp2_with fail
                    refine wp_region_ext (by kernel_rfl) fun wd hqd xd hHeld => ?_
                    refine wpAnyH_take (i := 0) (v := ?vkCt0) rfl (by kernel_rfl) (by kernel_rfl) (by kernel_rfl) (fun _ _ _ h => h) (Or.inl ⟨by rfl, ?hykCt0⟩) hHeld ?_
                    case hykCt0 => (intro w hSw; go_simp; try with_reducible rfl)
                    simp only [Act.put, List.setIfInBounds_toArray, List.set_cons_zero, List.set_cons_succ, List.getElem_toArray, List.getElem_cons_zero, List.getElem_cons_succ]
                    refine wpAnyH_take (i := 1) (v := ?vkCt1) rfl (by kernel_rfl) (by kernel_rfl) (by kernel_rfl) (fun _ _ _ h => h) (Or.inl ⟨by rfl, ?hykCt1⟩) hHeld ?_
                    case hykCt1 => (intro w hSw; have k := hSw.cell (xd.cell c2); go_simp; try with_reducible rfl)
                    simp only [Act.put, List.setIfInBounds_toArray, List.set_cons_zero, List.set_cons_succ, List.getElem_toArray, List.getElem_cons_zero, List.getElem_cons_succ]
                    refine wpAnyH_take (i := 2) (v := ?vkCt2) rfl (by kernel_rfl) (by kernel_rfl) (by kernel_rfl) (fun _ _ _ h => h) (Or.inl ⟨by rfl, ?hykCt2⟩) hHeld ?_
                    case hykCt2 => (intro w hSw; go_simp; try with_reducible rfl)
                    simp only [Act.put, List.setIfInBounds_toArray, List.set_cons_zero, List.set_cons_succ, List.getElem_toArray, List.getElem_cons_zero, List.getElem_cons_succ]
                    refine wpAnyH_take (i := 3) (v := ?vkCt3) rfl (by kernel_rfl) (by kernel_rfl) (by kernel_rfl) (fun _ _ _ h => h) (Or.inl ⟨by rfl, ?hykCt3⟩) hHeld ?_
                    case hykCt3 => (intro w hSw; go_simp; try with_reducible rfl)
                    simp only [Act.put, List.setIfInBounds_toArray, List.set_cons_zero, List.set_cons_succ, List.getElem_toArray, List.getElem_cons_zero, List.getElem_cons_succ]
                    refine wpAnyH_take (i := 4) (v := ?vkCt4) rfl (by kernel_rfl) (by kernel_rfl) (by kernel_rfl) (fun _ _ _ h => h) (Or.inl ⟨by rfl, ?hykCt4⟩) hHeld ?_
                    case hykCt4 => (intro w hSw; go_simp; try with_reducible rfl)
                    simp only [Act.put, List.setIfInBounds_toArray, List.set_cons_zero, List.set_cons_succ, List.getElem_toArray, List.getElem_cons_zero, List.getElem_cons_succ]
                    refine wpAnyH_take (i := 5) (v := ?vkCt5) rfl (by kernel_rfl) (by kernel_rfl) (by kernel_rfl) (fun _ _ _ h => h) (Or.inl ⟨by rfl, ?hykCt5⟩) hHeld ?_
                    case hykCt5 => (intro w hSw; have k := hSw.cell (xd.cell hrn); go_simp; try with_reducible rfl)
                    simp only [Act.put, List.setIfInBounds_toArray, List.set_cons_zero, List.set_cons_succ, List.getElem_toArray, List.getElem_cons_zero, List.getElem_cons_succ]
                    refine wpAnyH_take (i := 6) (v := ?vkCt6) rfl (by kernel_rfl) (by kernel_rfl) (by kernel_rfl) (fun _ _ _ h => h) (Or.inl ⟨by rfl, ?hykCt6⟩) hHeld ?_
                    case hykCt6 => (intro w hSw; go_simp; try with_reducible rfl)
                    simp only [Act.put, List.setIfInBounds_toArray, List.set_cons_zero, List.set_cons_succ, List.getElem_toArray, List.getElem_cons_zero, List.getElem_cons_succ]
                    refine wpAnyH_take (i := 7) (v := ?vkCt7) rfl (by kernel_rfl) (by kernel_rfl) (by kernel_rfl) (fun _ _ _ h => h) (Or.inl ⟨by rfl, ?hykCt7⟩) hHeld ?_
                    case hykCt7 => (intro w hSw; have k := hSw.cell (xd.cell cM); go_simp; try with_reducible rfl)
                    simp only [Act.put, List.setIfInBounds_toArray, List.set_cons_zero, List.set_cons_succ, List.getElem_toArray, List.getElem_cons_zero, List.getElem_cons_succ]
                    refine wpAnyH_take (i := 8) (v := ?vkCt8) rfl (by kernel_rfl) (by kernel_rfl) (by kernel_rfl) (fun _ _ _ h => h) (Or.inl ⟨by rfl, ?hykCt8⟩) hHeld ?_
                    case hykCt8 => (intro w hSw; have k := hKn; go_simp; try with_reducible rfl)
                    simp only [Act.put, List.setIfInBounds_toArray, List.set_cons_zero, List.set_cons_succ, List.getElem_toArray, List.getElem_cons_zero, List.getElem_cons_succ]
                    refine wpAnyH_done (by kernel_rfl) ?_ _
                    refine NoPanic.normal ?_
                    replace bO := xd.keeps bO
                    replace own := ownsRow_ext own xd
                    replace xr := xr.trans xd
                    replace c2 := xr.cell C2L.out
                    replace cM := xr.cell CML.out
                    replace hrn := xr.cell HRN.out
                    replace hra := rangeAt_ext HRA.out xr
                    replace hto := rangeAt_ext HTO.out xr
                    go_wp2_with fail
                    go_roundg (l.length - (i + 1))
                    case measure => omega
                    case rel => exact ⟨i + 1, true, cur, a7, c7, by omega, by omega, rfl, by go_num, by rw [← HC.out]; simp [keepL, hk], hcok, (show cur.length ≤ i + 1 + 1 by omega), own, bO, xr⟩
                  | false =>
                    have hKn : (x.name.toList != nm.toList) = true := by rw [bne, hk]; rfl
                    go_wp2_with fail
                    refine wp_region_ext (by kernel_rfl) fun wd hqd xd hHeld => ?_
                    refine wpAnyH_take (i := 0) (v := ?vkCf0) rfl (by kernel_rfl) (by kernel_rfl) (by kernel_rfl) (fun _ _ _ h => h) (Or.inl ⟨by rfl, ?hykCf0⟩) hHeld ?_
                    case hykCf0 => (intro w hSw; go_simp; try with_reducible rfl)
                    simp only [Act.put, List.setIfInBounds_toArray, List.set_cons_zero, List.set_cons_succ, List.getElem_toArray, List.getElem_cons_zero, List.getElem_cons_succ]
                    refine wpAnyH_take (i := 1) (v := ?vkCf1) rfl (by kernel_rfl) (by kernel_rfl) (by kernel_rfl) (fun _ _ _ h => h) (Or.inl ⟨by rfl, ?hykCf1⟩) hHeld ?_
                    case hykCf1 => (intro w hSw; have k := hSw.cell (xd.cell c2); go_simp; try with_reducible rfl)
                    simp only [Act.put, List.setIfInBounds_toArray, List.set_cons_zero, List.set_cons_succ, List.getElem_toArray, List.getElem_cons_zero, List.getElem_cons_succ]
                    refine wpAnyH_take (i := 2) (v := ?vkCf2) rfl (by kernel_rfl) (by kernel_rfl) (by kernel_rfl) (fun _ _ _ h => h) (Or.inl ⟨by rfl, ?hykCf2⟩) hHeld ?_
                    case hykCf2 => (intro w hSw; go_simp; try with_reducible rfl)
                    simp only [Act.put, List.setIfInBounds_toArray, List.set_cons_zero, List.set_cons_succ, List.getElem_toArray, List.getElem_cons_zero, List.getElem_cons_succ]
                    refine wpAnyH_take (i := 3) (v := ?vkCf3) rfl (by kernel_rfl) (by kernel_rfl) (by kernel_rfl) (fun _ _ _ h => h) (Or.inl ⟨by rfl, ?hykCf3⟩) hHeld ?_
                    case hykCf3 => (intro w hSw; go_simp; try with_reducible rfl)
                    simp only [Act.put, List.setIfInBounds_toArray, List.set_cons_zero, List.set_cons_succ, List.getElem_toArray, List.getElem_cons_zero, List.getElem_cons_succ]
                    refine wpAnyH_take (i := 4) (v := ?vkCf4) rfl (by kernel_rfl) (by kernel_rfl) (by kernel_rfl) (fun _ _ _ h => h) (Or.inl ⟨by rfl, ?hykCf4⟩) hHeld ?_
                    case hykCf4 => (intro w hSw; go_simp; try with_reducible rfl)
                    simp only [Act.put, List.setIfInBounds_toArray, List.set_cons_zero, List.set_cons_succ, List.getElem_toArray, List.getElem_cons_zero, List.getElem_cons_succ]
                    refine wpAnyH_take (i := 5) (v := ?vkCf5) rfl (by kernel_rfl) (by kernel_rfl) (by kernel_rfl) (fun _ _ _ h => h) (Or.inl ⟨by rfl, ?hykCf5⟩) hHeld ?_
                    case hykCf5 => (intro w hSw; have k := hSw.cell (xd.cell hrn); go_simp; try with_reducible rfl)
                    simp only [Act.put, List.setIfInBounds_toArray, List.set_cons_zero, List.set_cons_succ, List.getElem_toArray, List.getElem_cons_zero, List.getElem_cons_succ]
                    refine wpAnyH_take (i := 6) (v := ?vkCf6) rfl (by kernel_rfl) (by kernel_rfl) (by kernel_rfl) (fun _ _ _ h => h) (Or.inl ⟨by rfl, ?hykCf6⟩) hHeld ?_
                    case hykCf6 => (intro w hSw; go_simp; try with_reducible rfl)
                    simp only [Act.put, List.setIfInBounds_toArray, List.set_cons_zero, List.set_cons_succ, List.getElem_toArray, List.getElem_cons_zero, List.getElem_cons_succ]
                    refine wpAnyH_take (i := 7) (v := ?vkCf7) rfl (by kernel_rfl) (by kernel_rfl) (by kernel_rfl) (fun _ _ _ h => h) (Or.inl ⟨by rfl, ?hykCf7⟩) hHeld ?_
                    case hykCf7 => (intro w hSw; have k := hSw.cell (xd.cell cM); go_simp; try with_reducible rfl)
                    simp only [Act.put, List.setIfInBounds_toArray, List.set_cons_zero, List.set_cons_succ, List.getElem_toArray, List.getElem_cons_zero, List.getElem_cons_succ]
                    refine wpAnyH_take (i := 8) (v := ?vkCf8) rfl (by kernel_rfl) (by kernel_rfl) (by kernel_rfl) (fun _ _ _ h => h) (Or.inl ⟨by rfl, ?hykCf8⟩) hHeld ?_
                    case hykCf8 => (intro w hSw; have k := hKn; go_simp; try with_reducible rfl)
                    simp only [Act.put, List.setIfInBounds_toArray, List.set_cons_zero, List.set_cons_succ, List.getElem_toArray, List.getElem_cons_zero, List.getElem_cons_succ]
                    refine wpAnyH_done (by kernel_rfl) ?_ _
                    refine NoPanic.normal ?_
                    replace bO := xd.keeps bO
                    replace own := ownsRow_ext own xd
                    replace xr := xr.trans xd
                    replace c2 := xr.cell C2L.out
                    replace cM := xr.cell CML.out
                    replace hrn := xr.cell HRN.out
                    replace hra := rangeAt_ext HRA.out xr
                    replace hto := rangeAt_ext HTO.out xr
                    clear hHeld hqd xd
                    obtain ⟨wq, hwq⟩ : ∃ x, x = wd := ⟨_, rfl⟩
                    subst hwq
                    have hbx := build_rf (e := x) (h := hxo)
                    have KO := fun v (h : Ext wq v) => block_all (h.keeps bO)
                    have KB := fun v (h : Ext wq v) => h.cell c2
                    have HOW := Lib.hid own
                    have HBO := Lib.hid bO
                    have hgo : GO ≤ wq.heap.size := hszL ▸ xr.size
                    go_wp2_with fail
                    refine wp_region_G 8 (fun v => Ext wq v) (by kernel_rfl) fun wd hqd hHeld => ?_
                    refine G_pure (i := 0) (u := ?vkCk0) rfl (by kernel_rfl) (by kernel_rfl) (by kernel_rfl) (fun _ _ _ h => h) (by decide) (Or.inl ⟨by rfl, ?hykCk0⟩) hHeld ?_
                    case hykCk0 => (intro w hSw; go_simp; try with_reducible rfl)
                    simp only [Act.put, List.setIfInBounds_toArray, List.set_cons_zero, List.set_cons_succ, List.getElem_toArray, List.getElem_cons_zero, List.getElem_cons_succ]
                    refine G_take (i := 1) (u := ?vkCk1) rfl (by kernel_rfl) (by kernel_rfl) (by kernel_rfl) (fun _ _ _ h => h) rfl (by kernel_rfl) (by decide) (by rfl) (Or.inl ⟨by rfl, ?hykCk1⟩) hHeld ?_
                    case hykCk1 => (intro w hSw; have kk := KO _ hSw; go_simp; try with_reducible rfl)
                    simp only [Act.put, List.setIfInBounds_toArray, List.set_cons_zero, List.set_cons_succ, List.getElem_toArray, List.getElem_cons_zero, List.getElem_cons_succ]
                    refine G_pure (i := 2) (u := ?vkCk2) rfl (by kernel_rfl) (by kernel_rfl) (by kernel_rfl) (fun _ _ _ h => h) (by decide) (Or.inl ⟨by rfl, ?hykCk2⟩) hHeld ?_
                    case hykCk2 => (intro w hSw; go_simp; try with_reducible rfl)
                    simp only [Act.put, List.setIfInBounds_toArray, List.set_cons_zero, List.set_cons_succ, List.getElem_toArray, List.getElem_cons_zero, List.getElem_cons_succ]
                    refine C_take (i := 3) (u := ?vkCk3) [5, 6, 7, 8] rfl (by kernel_rfl) (by kernel_rfl) (by kernel_rfl) (fun _ _ _ h => h) (by kernel_rfl) (by kernel_rfl) (by kernel_rfl) (by kernel_rfl) (Or.inl ⟨by rfl, ?hykCk3⟩) hHeld ?_
                    case hykCk3 => (intro w hSw; have kk := KB _ hSw; go_simp; try with_reducible rfl)
                    simp only [Act.put, List.setIfInBounds_toArray, List.set_cons_zero, List.set_cons_succ, List.getElem_toArray, List.getElem_cons_zero, List.getElem_cons_succ]
                    refine G_pure (i := 4) (u := ?vkCk4) rfl (by kernel_rfl) (by kernel_rfl) (by kernel_rfl) (fun _ _ _ h => h) (by decide) (Or.inl ⟨by rfl, ?hykCk4⟩) hHeld ?_
                    case hykCk4 => (intro w hSw; go_simp; try with_reducible rfl)
                    simp only [Act.put, List.setIfInBounds_toArray, List.set_cons_zero, List.set_cons_succ, List.getElem_toArray, List.getElem_cons_zero, List.getElem_cons_succ]
                    refine G_pure (i := 5) (u := ?vkCk5) rfl (by kernel_rfl) (by kernel_rfl) (by kernel_rfl) (fun _ _ _ h => h) (by decide) (Or.inl ⟨by rfl, ?hykCk5⟩) hHeld ?_
                    case hykCk5 => (intro w hSw; go_simp; try with_reducible rfl)
                    simp only [Act.put, List.setIfInBounds_toArray, List.set_cons_zero, List.set_cons_succ, List.getElem_toArray, List.getElem_cons_zero, List.getElem_cons_succ]
                    refine C_take (i := 6) (u := _) [7, 8] rfl (by kernel_rfl) (by kernel_rfl) (by kernel_rfl) (fun _ _ _ h => h) (by kernel_rfl) (by kernel_rfl) (by kernel_rfl) (by kernel_rfl) (yieldsIf_load_mid (by rfl) _ _ rfl _ _ rfl (rfC x) _ (fun w hSw => rangeAt_ext hra hSw) Tryz.underlying78 rfl hinf) hHeld ?_
                    simp only [Act.put, List.setIfInBounds_toArray, List.set_cons_zero, List.set_cons_succ, List.getElem_toArray, List.getElem_cons_zero, List.getElem_cons_succ]
                    refine G_all (rs := [7]) (by kernel_rfl) (by simp) ?_
                    intro i hi; obtain rfl : i = 7 := by simpa using hi
                    refine wpOp_run rfl (by rfl) ?_
                    refine wp_buildOne 61 (.tmp 126) rfl (rfC x) (by rfl) (hbx _) ?_
                    have xb : Ext wd (wd.alloc (.cells (rfC x).toArray 78)) := (Ext.refl wd).alloc _
                    have hHeld := hHeld.trans xb
                    first | refine ⟨fun _ => hHeld, ?_⟩ | refine ⟨hHeld, ?_⟩ | skip
                    try simp only [Act.put, List.setIfInBounds_toArray, List.set_cons_zero, List.set_cons_succ, List.getElem_toArray, List.getElem_cons_zero, List.getElem_cons_succ]
                    refine G_all (rs := [8]) (by kernel_rfl) (by simp) ?_
                    intro i hi; obtain rfl : i = 8 := by simpa using hi
                    refine wpOp_run rfl (by rfl) ?_
                    refine wp_appO tyE (.tmp 121) (.tmp 127) rfl GO _ cur.length _ (ownsRow_ext HOW.out hHeld) (by rfl) _ 1 (rfC x) (sl_one_new (w := wd) (n := 33) (e := 78) (Q := rfC x) rfl (rfC_len hxo)) (by rfl) (rf_one x) (by omega) (by omega) (Nat.le_trans hgo hHeld.size) ?_
                    intro v9 w9 own9 gr9
                    obtain ⟨a9, c9, rfl⟩ := ownSh own9
                    have bO9 := grown_keep gr9 (hHeld.keeps HBO.out) (own_neT (ownsRow_ext HOW.out hHeld) (hHeld.keeps HBO.out) (by decide))
                    try refine ⟨fun e => absurd e (by decide), ?_⟩
                    refine G_free _ _ _ _ (by kernel_rfl) ?_
                    try simp only [Act.put, List.setIfInBounds_toArray, List.set_cons_zero, List.set_cons_succ, List.getElem_toArray, List.getElem_cons_zero, List.getElem_cons_succ]
                    refine wpAny_take (i := 9) (v := ?vkCk9) rfl (by kernel_rfl) (by kernel_rfl) (by kernel_rfl) (fun _ _ _ h => h) (Or.inl ⟨by rfl, ?hykCk9⟩) ?_
                    case hykCk9 => (intro w ; go_simp; try with_reducible rfl)
                    simp only [Act.put, List.setIfInBounds_toArray, List.set_cons_zero, List.set_cons_succ, List.getElem_toArray, List.getElem_cons_zero, List.getElem_cons_succ]
                    refine wpAny_all (rs := [10]) (by kernel_rfl) (by simp) ?_
                    intro i hi; obtain rfl : i = 10 := by simpa using hi
                    refine wpOp_run rfl (by rfl) ?_
                    have kk := block_all bO9
                    have ff := fun i => block_free bO9 i
                    go_simp
                    try simp only [Act.put, List.setIfInBounds_toArray, List.set_cons_zero, List.set_cons_succ, List.getElem_toArray, List.getElem_cons_zero, List.getElem_cons_succ]
                    refine wpAny_done (by kernel_rfl) ?_ _
                    refine NoPanic.normal ?_
                    have x9 : Ext wL0 w9 := own_base (ownsRow_ext HOW.out hHeld) gr9 (xr.trans hHeld) (by omega)
                    have bO10 := block_setCell bO9 (i := 0) (.slice a9 (cur.length + 1) c9)
                    have own10 := ownsRow_grown own9 (grown_setCell w9 GO 0 (.slice a9 (cur.length + 1) c9)) (own_neT own9 bO9 (by decide))
                    have x10 : Ext wL0 (w9.setCell ⟨GO, 0, none⟩ (.slice a9 (cur.length + 1) c9)) := x9.grown (grown_setCell w9 GO 0 _) (fun k hk => by simp at hk; omega)
                    go_wp2_with fail
                    go_roundg (l.length - (i + 1))
                    case measure => omega
                    case rel =>
                      refine ⟨i + 1, true, cur ++ [x], a9, c9, by omega, by omega, rfl, by go_num, ?_, ?_, (show (cur ++ [x]).length ≤ i + 1 + 1 by simp; omega), ?_, ?_, x10⟩
                      · rw [← HC.out]; simp [keepL, hk]
                      · intro e he
                        rcases List.mem_append.1 he with h | h
                        · exact hcok e h
                        · rw [List.mem_singleton.1 h]; exact hxo
                      · simpa using own10
                      · simpa using bO10
            · have e : i = l.length := by omega
              subst e
              rw [List.drop_length] at hcur
              cases d with
              | true =>
                have hcl : cur.length ≤ l.length + 1 := hcl
                obtain rfl : cur = FIN := by rw [← hcur]; simp [stepL]
                have bR := xr.keeps BRL.out
                have f0 := block_free bR 0
                have k0 := block_cell bR 0
                have kO := block_all bO
                go_wp2_with fail
                have bF := block_setCell bR (i := 0) (.slice a cur.length c)
                exact bodyPost_ret (results_cell_tmp rfl _ _ (G + 2) _ _ _ _ (by rfl) bF Tryz.underlying63 rfl (info63 _)) rfl ⟨_, by rw [HRR.out]; rfl, by rw [HRR.out]; show IsR _ _ (stepL nm dst l false); rw [HFIN.out]; exact isR_own (ownsRow_grown own (grown_setCell _ (G + 2) 0 _) (own_ne own (Or.inl (by omega)))) rfl hcok, (XL.trans xr).setCell (p := ⟨G + 2, 0, none⟩) (by show w.heap.size ≤ G + 2; omega) _⟩
              | false =>
                have hcl : cur.length ≤ l.length := hcl
                have hF2 : cur ++ [⟨nm, dst⟩] = FIN := by rw [← hcur]; simp [stepL]
                have kO := block_all bO
                go_upto_region 25 with (first
              | ((with_reducible refine at_bld 78 (.tmp 135) (.tmp 137) ?_); refine wpl_bld (by rfl) 78 (.tmp 135) (.tmp 137) rfl _ _ (by rfl) (by rfl) _ hbd ?_)
              | ((with_reducible refine at_build1 61 (.tmp 138) ?_); refine wpl_buildOne (by rfl) 61 (.tmp 138) rfl (rfC ⟨nm, dst⟩) (by rfl) (hbl _) ?_)
              | (at_builtin; have e1 := ownsRow_ext own ((Ext.refl wr).alloc (.cells (rfC ⟨nm, dst⟩).toArray 78)); have e2 := sl_one_new (w := wr) (n := 33) (e := 78) (Q := rfC ⟨nm, dst⟩) rfl (rfC_len hE); have e3 : GO ≤ (wr.alloc (.cells (rfC ⟨nm, dst⟩).toArray 78)).heap.size := (by have h1 := ((Ext.refl wr).alloc (.cells (rfC ⟨nm, dst⟩).toArray 78)).size; have h2 := xr.size; omega); refine wp_app (w := wr.alloc (.cells (rfC ⟨nm, dst⟩).toArray 78)) tyE rfl (.tmp 133) (.tmp 139) rfl GO _ cur.length _ e1 (by rfl) _ 1 (rfC ⟨nm, dst⟩) e2 (by rfl) (rf_one _) (by omega) (by omega) e3 ?_; intro v7 w7 own7 gr7; obtain ⟨a7, c7, rfl⟩ := ownSh own7; have z1 := blk_old (o := .cells (rfC ⟨nm, dst⟩).toArray 78) bO; have z2 := own_neT e1 z1 (by decide); have bO7 := grown_keep gr7 z1 z2; clear z1 z2 e1 e2 e3; have kk7 := block_all bO7; have ff7 := fun i => block_free bO7 i)
              | ((with_reducible refine at_load 33 (.tmp 23) ?_); refine wpl_mid (by rfl) 33 (.tmp 23) rfl (G + 1) 1 (by rfl) (fr.map bc) _ hfr Tryz.underlying33 rfl hif ?_)
              | ((with_reducible refine at_load 33 (.tmp 42) ?_); refine wpl_mid (by rfl) 33 (.tmp 42) rfl (G + 1) 1 (by rfl) (fr.map bc) _ hfr Tryz.underlying33 rfl hif ?_)
              | ((with_reducible refine at_load 33 (.tmp 51) ?_); refine wpl_mid (by rfl) 33 (.tmp 51) rfl (G + 1) 1 (by rfl) (fr.map bc) _ hfr Tryz.underlying33 rfl hif ?_)
              | ((with_reducible refine at_load 33 (.tmp 62) ?_); refine wpl_mid (by rfl) 33 (.tmp 62) rfl (G + 1) 1 (by rfl) (fr.map bc) _ hfr Tryz.underlying33 rfl hif ?_)
              | ((with_reducible refine at_load 33 (.tmp 28) ?_); refine wpl_mid (by rfl) 33 (.tmp 28) rfl (G + 1) 33 (by rfl) (dst.map bc) _ hto Tryz.underlying33 rfl hit ?_)
              | ((with_reducible refine at_load 33 (.tmp 77) ?_); refine wpl_mid (by rfl) 33 (.tmp 77) rfl (G + 1) 33 (by rfl) (dst.map bc) _ hto Tryz.underlying33 rfl hit ?_)
              | ((with_reducible refine at_load 33 (.tmp 105) ?_); refine wpl_mid (by rfl) 33 (.tmp 105) rfl (G + 1) 33 (by rfl) (dst.map bc) _ hto Tryz.underlying33 rfl hit ?_)
              | ((with_reducible refine at_load 33 (.tmp 136) ?_); refine wpl_mid (by rfl) 33 (.tmp 136) rfl (G + 1) 33 (by rfl) (dst.map bc) _ hto Tryz.underlying33 rfl hit ?_)
              | ((with_reducible refine at_load 33 (.tmp 6) ?_); refine wpl_load (by rfl) 33 (.tmp 6) rfl (G + 3) (by rfl) 33 (z32.map bc).toArray (0, 0) _ bZ Tryz.underlying33 rfl (id_size rfl) ?_))
                clear kO
                have x7 : Ext wL0 w7 := own_base (ownsRow_ext own ((Ext.refl wr).alloc _)) gr7 (xr.alloc _) (by omega)
                have bO8 := block_setCell bO7 (i := 0) (.slice a7 (cur.length + 1) c7)
                have own8 := ownsRow_grown own7 (grown_setCell w7 GO 0 (.slice a7 (cur.length + 1) c7)) (own_neT own7 bO7 (by decide))
                have x8 : Ext wL0 (w7.setCell ⟨GO, 0, none⟩ (.slice a7 (cur.length + 1) c7)) := x7.grown (grown_setCell w7 GO 0 _) (fun k hk => by simp at hk; omega)
                generalize w7.setCell ⟨GO, 0, none⟩ (.slice a7 (cur.length + 1) c7) = w8 at *
                have bR := x8.keeps BRL.out
                have f0 := block_free bR 0
                have k0 := block_cell bR 0
                have kO := block_all bO8
                have hfl2 : cur.flatMap rfC ++ rfC ⟨nm, dst⟩ = FIN.flatMap rfC := by rw [← hF2]; simp
                have hln2 : FIN.length = cur.length + 1 := by rw [← hF2]; simp
                rw [hfl2] at own8
                have hok2 : ∀ e ∈ FIN, RfOk e := fun e he => by
                  rw [← hF2] at he
                  rcases List.mem_append.1 he with h | h
                  · exact hcok e h
                  · rw [List.mem_singleton.1 h]; exact hE
                have HF2 := Lib.hid hF2
                have HLN := Lib.hid hln2
                clear own own7 bO bO7 kk7 ff7 x7 gr7 hcur hF2 hln2
                go_wp2_with fail
                have bF := block_setCell bR (i := 0) (.slice a7 (cur.length + 1) c7)
                exact bodyPost_ret (results_cell_tmp rfl _ _ (G + 2) _ _ _ _ (by rfl) bF Tryz.underlying63 rfl (info63 _)) rfl ⟨_, by rw [HRR.out]; rfl, by rw [HRR.out]; show IsR _ _ (stepL nm dst l false); rw [HFIN.out]; exact isR_own (ownsRow_grown own8 (grown_setCell _ (G + 2) 0 _) (own_ne own8 (Or.inl (by omega)))) HLN.out hok2, (XL.trans x8).setCell (p := ⟨G + 2, 0, none⟩) (by show w.heap.size ≤ G + 2; omega) _⟩
      | some e0 =>
        rw [hgt] at hg
        simp only at hg
        rw [hg]
        have hel : e0.id.length = 32 := (HOK.out _ (List.mem_of_find?_eq_some hgt)).1
        obtain ⟨ei, hei0⟩ : ∃ ei, e0.id = ei := ⟨_, rfl⟩
        rw [hei0] at hel ⊢
        have hne := fun w => neq_id w ei fr hel hfl
        go_upto_region 5 with ((with_reducible refine at_store 33 (.tmp 7) (.tmp 40) ?_); refine wpl_store (by rfl) 33 (.tmp 7) (.tmp 40) rfl _ (ei.map bc).toArray (by rfl) (by rfl) 33 _ (heap_alloc_new _ _) (id_size hel) (id_same (a := z32) rfl hel) (id_one _) ?_; rw [World.setRow_alloc_new])
        have bT := heap_alloc_new w3 (.cells (ei.map bc).toArray 33)
        have y : Ext w3 (w3.alloc (.cells (ei.map bc).toArray 33)) := (Ext.refl _).alloc _
        replace c2 := y.cell c2
        replace cM := y.cell cM
        replace hfr := rangeAt_ext hfr y
        replace hto := rangeAt_ext hto y
        replace bR := y.keeps bR
        replace bZ := y.keeps bZ
        replace X := X.trans y
        replace HF := HF.ext y
        clear y
        generalize w3.alloc (.cells (ei.map bc).toArray 33) = w4 at *
        generalize w3.heap.size = GT at *
        obtain rfl : ([], 5) = R := by rw [← HR.out]; unfold applyS; simp [hr, hn, hzf, hzt, hgt]
        have f0 := block_free bR 0
        have k0 := block_cell bR 0
        clear HR
        go_wp2_with (first
            | ((with_reducible refine at_load 33 (.tmp 23) ?_); refine wpl_mid (by rfl) 33 (.tmp 23) rfl (G + 1) 1 (by rfl) (fr.map bc) _ hfr Tryz.underlying33 rfl hif ?_)
            | ((with_reducible refine at_load 33 (.tmp 42) ?_); refine wpl_mid (by rfl) 33 (.tmp 42) rfl (G + 1) 1 (by rfl) (fr.map bc) _ hfr Tryz.underlying33 rfl hif ?_)
            | ((with_reducible refine at_load 33 (.tmp 51) ?_); refine wpl_mid (by rfl) 33 (.tmp 51) rfl (G + 1) 1 (by rfl) (fr.map bc) _ hfr Tryz.underlying33 rfl hif ?_)
            | ((with_reducible refine at_load 33 (.tmp 62) ?_); refine wpl_mid (by rfl) 33 (.tmp 62) rfl (G + 1) 1 (by rfl) (fr.map bc) _ hfr Tryz.underlying33 rfl hif ?_)
            | ((with_reducible refine at_load 33 (.tmp 28) ?_); refine wpl_mid (by rfl) 33 (.tmp 28) rfl (G + 1) 33 (by rfl) (dst.map bc) _ hto Tryz.underlying33 rfl hit ?_)
            | ((with_reducible refine at_load 33 (.tmp 77) ?_); refine wpl_mid (by rfl) 33 (.tmp 77) rfl (G + 1) 33 (by rfl) (dst.map bc) _ hto Tryz.underlying33 rfl hit ?_)
            | ((with_reducible refine at_load 33 (.tmp 105) ?_); refine wpl_mid (by rfl) 33 (.tmp 105) rfl (G + 1) 33 (by rfl) (dst.map bc) _ hto Tryz.underlying33 rfl hit ?_)
            | ((with_reducible refine at_load 33 (.tmp 136) ?_); refine wpl_mid (by rfl) 33 (.tmp 136) rfl (G + 1) 33 (by rfl) (dst.map bc) _ hto Tryz.underlying33 rfl hit ?_)
            | ((with_reducible refine at_load 33 (.tmp 6) ?_); refine wpl_load (by rfl) 33 (.tmp 6) rfl (G + 3) (by rfl) 33 (z32.map bc).toArray (0, 0) _ bZ Tryz.underlying33 rfl (id_size rfl) ?_)
            | ((with_reducible refine at_load 33 (.tmp 7) ?_); refine wpl_load (by rfl) 33 (.tmp 7) rfl GT (by rfl) 33 (ei.map bc).toArray (0, 0) _ bT Tryz.underlying33 rfl (id_size hel) ?_))
        have bF := block_setCell bR (i := 0) (.slice none 0 0)
        exact bodyPost_ret (results_cell_tmp rfl _ _ (G + 2) _ _ _ _ (by rfl) bF Tryz.underlying63 rfl (info63 _)) rfl ⟨_, rfl, isR_nil _, X.setCell (p := ⟨G + 2, 0, none⟩) (by show w.heap.size ≤ G + 2; omega) _⟩
  | false =>
    rw [HCZ.out] at hzf
    cases hzf
end Go.Proofs.YtglcjdiejnennaaGreatDoor
