/- The walk of refs.Apply. -/
import Derived.Test.YtglcjdiejnennaaGreatDoorRfI
namespace Go.Proofs.YtglcjdiejnennaaGreatDoor
open Go.RowKit
set_option linter.unusedVariables false
set_option linter.unusedSimpArgs false

set_option maxHeartbeats 8000000 in
set_option maxRecDepth 100000 in
theorem refsApply (w : World) (v : Value) (l : List Rf) (h : IsR w v l) (m : Mv) (hm : MvOk m) :
    Calls Tryz.prog 19 #[.agg #[v], .agg (mvC m).toArray] w fun e w' => ∃ v', e = .returned (.tuple #[.agg #[v'], .int .i64 (applyR l m).2]) ∧ IsR w' v' (applyR l m).1 ∧ Ext w w' := by
  obtain ⟨R, hR⟩ : ∃ R, applyR l m = R := ⟨_, rfl⟩
  rw [hR]
  have HR := Lib.hid hR
  clear hR
  obtain ⟨ao, cap0, rfl⟩ := sl_len h.sl
  have HOK := Lib.hid h.ok
  obtain ⟨nm, fr, dst⟩ := m
  obtain ⟨hfl, hdl, hnl⟩ := hm
  simp only at hfl hdl hnl
  have hif : (Tryz.prog.info? 33).map (·.size) = some (fr.map bc).length := by simpa using id_size hfl
  have hit : (Tryz.prog.info? 33).map (·.size) = some (dst.map bc).length := by simpa using id_size hdl
  have efz := fun w => eql_id w fr z32 hfl rfl
  have etz := fun w => eql_id w dst z32 hdl rfl
  have nfz := fun w => neq_id w fr z32 hfl rfl
  have hw1 : ∀ W1 : World, W1 = w.alloc (.cells #[.slice ao l.length cap0] 63) → W1.heap.size = w.heap.size + 1 := fun _ e => by subst e; simp
  obtain ⟨w1, h1⟩ : ∃ w1, w1 = w.alloc (.cells #[.slice ao l.length cap0] 63) := ⟨_, rfl⟩
  obtain ⟨w2, h2⟩ : ∃ w2, w2 = w1.alloc (.cells (mvC ⟨nm, fr, dst⟩).toArray 65) := ⟨_, rfl⟩
  obtain ⟨w3, h3⟩ : ∃ w3, w3 = w2.alloc (.cells #[.slice none 0 0] 63) := ⟨_, rfl⟩
  obtain ⟨w5, h5⟩ : ∃ w5, w5 = w3.alloc (.cells (z32.map bc).toArray 33) := ⟨_, rfl⟩
  have s1 : w1.heap.size = w.heap.size + 1 := by rw [h1]; simp
  have s2 : w2.heap.size = w.heap.size + 2 := by rw [h2]; simp; omega
  have s3 : w3.heap.size = w.heap.size + 3 := by rw [h3]; simp; omega
  have e5 : Ext w3 w5 := by rw [h5]; exact (Ext.refl _).alloc _
  have e3 : Ext w2 w3 := by rw [h3]; exact (Ext.refl _).alloc _
  have e2 : Ext w1 w2 := by rw [h2]; exact (Ext.refl _).alloc _
  have e1 : Ext w w1 := by rw [h1]; exact (Ext.refl _).alloc _
  have b0 : w5.heap[w.heap.size]? = some (.cells #[.slice ao l.length cap0] 63 (0, 0)) := (e2.trans (e3.trans e5)).keeps (by rw [h1]; exact heap_alloc_new w _)
  have bM : w5.heap[w.heap.size + 1]? = some (.cells (mvC ⟨nm, fr, dst⟩).toArray 65 (0, 0)) := (e3.trans e5).keeps (by rw [← s1, h2]; exact heap_alloc_new w1 _)
  have bR : w5.heap[w.heap.size + 2]? = some (.cells #[.slice none 0 0] 63 (0, 0)) := e5.keeps (by rw [← s2, h3]; exact heap_alloc_new w2 _)
  have bZ : w5.heap[w.heap.size + 3]? = some (.cells (z32.map bc).toArray 33 (0, 0)) := by rw [← s3, h5]; exact heap_alloc_new w3 _
  have X : Ext w w5 := e1.trans (e2.trans (e3.trans e5))
  have HF := h.ext X
  have c2 := (block_cell b0 0).trans (show _ = some (Value.slice ao l.length cap0) from rfl)
  obtain ⟨cM, hfr, hto⟩ := mv_parts (m := ⟨nm, fr, dst⟩) ⟨hfl, hdl, hnl⟩ bM
  simp only at cM hfr hto
  obtain ⟨_, k1, m1⟩ := sl_cap h.sl
  clear h b0 bM e1 e2 e3 e5 hw1
  go_enter Tryz.func19, Tryz.ntmps19
  go_upto_region 1 with fail
  rw [← h1, ← h2, ← h3]
  have H5 := Lib.hid h5
  have S3 := Lib.hid s3
  clear h1 h2 h3 h5 s1 s2 s3
  go_upto_region 2 with ((with_reducible refine at_store 33 (.tmp 6) (.tmp 10) ?_); refine wpl_store (by rfl) 33 (.tmp 6) (.tmp 10) rfl _ (z32.map bc).toArray (by rfl) (by rfl) 33 _ (heap_alloc_new _ _) (id_size rfl) rfl (id_one _) ?_; rw [World.setRow_alloc_new])
  rw [← H5.out, S3.out]
  generalize hG : w.heap.size = G at *
  go_wp2_with fail
  refine Calls.mono (refsCheck _ _ l HF) ?_
  rintro e wA ⟨rfl, y⟩
  replace c2 := y.cell c2
  replace cM := y.cell cM
  replace hfr := rangeAt_ext hfr y
  replace hto := rangeAt_ext hto y
  replace bR := y.keeps bR
  replace bZ := y.keeps bZ
  replace X := X.trans y
  replace HF := HF.ext y
  clear y
  cases hr : okR l with
  | false =>
    simp only [show chkR false = 190 from rfl]
    obtain rfl : ([], 190) = R := by rw [← HR.out]; unfold applyR; simp [hr]
    have f0 := block_free bR 0
    have k0 := block_cell bR 0
    clear HR
    go_wp2_with (first
        | ((with_reducible refine at_load 33 (.tmp 21) ?_); refine wpl_mid (by rfl) 33 (.tmp 21) rfl (G + 1) 1 (by rfl) (fr.map bc) _ hfr Tryz.underlying33 rfl hif ?_)
        | ((with_reducible refine at_load 33 (.tmp 50) ?_); refine wpl_mid (by rfl) 33 (.tmp 50) rfl (G + 1) 1 (by rfl) (fr.map bc) _ hfr Tryz.underlying33 rfl hif ?_)
        | ((with_reducible refine at_load 33 (.tmp 60) ?_); refine wpl_mid (by rfl) 33 (.tmp 60) rfl (G + 1) 1 (by rfl) (fr.map bc) _ hfr Tryz.underlying33 rfl hif ?_)
        | ((with_reducible refine at_load 33 (.tmp 26) ?_); refine wpl_mid (by rfl) 33 (.tmp 26) rfl (G + 1) 33 (by rfl) (dst.map bc) _ hto Tryz.underlying33 rfl hit ?_)
        | ((with_reducible refine at_load 33 (.tmp 45) ?_); refine wpl_mid (by rfl) 33 (.tmp 45) rfl (G + 1) 33 (by rfl) (dst.map bc) _ hto Tryz.underlying33 rfl hit ?_)
        | ((with_reducible refine at_load 33 (.tmp 97) ?_); refine wpl_mid (by rfl) 33 (.tmp 97) rfl (G + 1) 33 (by rfl) (dst.map bc) _ hto Tryz.underlying33 rfl hit ?_)
        | ((with_reducible refine at_load 33 (.tmp 103) ?_); refine wpl_mid (by rfl) 33 (.tmp 103) rfl (G + 1) 33 (by rfl) (dst.map bc) _ hto Tryz.underlying33 rfl hit ?_)
        | ((with_reducible refine at_load 33 (.tmp 6) ?_); refine wpl_load (by rfl) 33 (.tmp 6) rfl (G + 3) (by rfl) 33 (z32.map bc).toArray (0, 0) _ bZ Tryz.underlying33 rfl (id_size rfl) ?_))
    have bF := block_setCell bR (i := 0) (.slice none 0 0)
    exact bodyPost_ret (results_cell_tmp rfl _ _ (G + 2) _ _ _ _ (by rfl) bF Tryz.underlying63 rfl (info63 _)) rfl ⟨_, rfl, isR_nil _, X.setCell (p := ⟨G + 2, 0, none⟩) (by show w.heap.size ≤ G + 2; omega) _⟩
  | true =>
  simp only [show chkR true = 0 from rfl]
  obtain ⟨hl8, hs, _⟩ := ok_facts hr
  have HS := Lib.hid hs
  clear hs
  go_wp2_with (first
    | ((with_reducible refine at_load 33 (.tmp 21) ?_); refine wpl_mid (by rfl) 33 (.tmp 21) rfl (G + 1) 1 (by rfl) (fr.map bc) _ hfr Tryz.underlying33 rfl hif ?_)
    | ((with_reducible refine at_load 33 (.tmp 50) ?_); refine wpl_mid (by rfl) 33 (.tmp 50) rfl (G + 1) 1 (by rfl) (fr.map bc) _ hfr Tryz.underlying33 rfl hif ?_)
    | ((with_reducible refine at_load 33 (.tmp 60) ?_); refine wpl_mid (by rfl) 33 (.tmp 60) rfl (G + 1) 1 (by rfl) (fr.map bc) _ hfr Tryz.underlying33 rfl hif ?_)
    | ((with_reducible refine at_load 33 (.tmp 26) ?_); refine wpl_mid (by rfl) 33 (.tmp 26) rfl (G + 1) 33 (by rfl) (dst.map bc) _ hto Tryz.underlying33 rfl hit ?_)
    | ((with_reducible refine at_load 33 (.tmp 45) ?_); refine wpl_mid (by rfl) 33 (.tmp 45) rfl (G + 1) 33 (by rfl) (dst.map bc) _ hto Tryz.underlying33 rfl hit ?_)
    | ((with_reducible refine at_load 33 (.tmp 97) ?_); refine wpl_mid (by rfl) 33 (.tmp 97) rfl (G + 1) 33 (by rfl) (dst.map bc) _ hto Tryz.underlying33 rfl hit ?_)
    | ((with_reducible refine at_load 33 (.tmp 103) ?_); refine wpl_mid (by rfl) 33 (.tmp 103) rfl (G + 1) 33 (by rfl) (dst.map bc) _ hto Tryz.underlying33 rfl hit ?_)
    | ((with_reducible refine at_load 33 (.tmp 6) ?_); refine wpl_load (by rfl) 33 (.tmp 6) rfl (G + 3) (by rfl) 33 (z32.map bc).toArray (0, 0) _ bZ Tryz.underlying33 rfl (id_size rfl) ?_))
  refine Calls.mono (refsName _ nm (by omega)) ?_
  rintro e wB ⟨rfl, y⟩
  replace c2 := y.cell c2
  replace cM := y.cell cM
  replace hfr := rangeAt_ext hfr y
  replace hto := rangeAt_ext hto y
  replace bR := y.keeps bR
  replace bZ := y.keeps bZ
  replace X := X.trans y
  replace HF := HF.ext y
  clear y
  cases hn : nameB nm with
  | false =>
    obtain rfl : ([], 190) = R := by rw [← HR.out]; unfold applyR; simp [hr, hn]
    have f0 := block_free bR 0
    have k0 := block_cell bR 0
    clear HR
    go_wp2_with (first
        | ((with_reducible refine at_load 33 (.tmp 21) ?_); refine wpl_mid (by rfl) 33 (.tmp 21) rfl (G + 1) 1 (by rfl) (fr.map bc) _ hfr Tryz.underlying33 rfl hif ?_)
        | ((with_reducible refine at_load 33 (.tmp 50) ?_); refine wpl_mid (by rfl) 33 (.tmp 50) rfl (G + 1) 1 (by rfl) (fr.map bc) _ hfr Tryz.underlying33 rfl hif ?_)
        | ((with_reducible refine at_load 33 (.tmp 60) ?_); refine wpl_mid (by rfl) 33 (.tmp 60) rfl (G + 1) 1 (by rfl) (fr.map bc) _ hfr Tryz.underlying33 rfl hif ?_)
        | ((with_reducible refine at_load 33 (.tmp 26) ?_); refine wpl_mid (by rfl) 33 (.tmp 26) rfl (G + 1) 33 (by rfl) (dst.map bc) _ hto Tryz.underlying33 rfl hit ?_)
        | ((with_reducible refine at_load 33 (.tmp 45) ?_); refine wpl_mid (by rfl) 33 (.tmp 45) rfl (G + 1) 33 (by rfl) (dst.map bc) _ hto Tryz.underlying33 rfl hit ?_)
        | ((with_reducible refine at_load 33 (.tmp 97) ?_); refine wpl_mid (by rfl) 33 (.tmp 97) rfl (G + 1) 33 (by rfl) (dst.map bc) _ hto Tryz.underlying33 rfl hit ?_)
        | ((with_reducible refine at_load 33 (.tmp 103) ?_); refine wpl_mid (by rfl) 33 (.tmp 103) rfl (G + 1) 33 (by rfl) (dst.map bc) _ hto Tryz.underlying33 rfl hit ?_)
        | ((with_reducible refine at_load 33 (.tmp 6) ?_); refine wpl_load (by rfl) 33 (.tmp 6) rfl (G + 3) (by rfl) 33 (z32.map bc).toArray (0, 0) _ bZ Tryz.underlying33 rfl (id_size rfl) ?_))
    have bF := block_setCell bR (i := 0) (.slice none 0 0)
    exact bodyPost_ret (results_cell_tmp rfl _ _ (G + 2) _ _ _ _ (by rfl) bF Tryz.underlying63 rfl (info63 _)) rfl ⟨_, rfl, isR_nil _, X.setCell (p := ⟨G + 2, 0, none⟩) (by show w.heap.size ≤ G + 2; omega) _⟩
  | true =>
  cases hzf : zr fr with
  | true =>
    rw [show decide (fr = z32) = true from hzf] at efz nfz
    cases hzt : zr dst with
    | true =>
      rw [show decide (dst = z32) = true from hzt] at etz
      obtain rfl : ([], 190) = R := by rw [← HR.out]; unfold applyR; simp [hr, hn, hzf, hzt]
      have f0 := block_free bR 0
      have k0 := block_cell bR 0
      clear HR
      go_wp2_with (first
          | ((with_reducible refine at_load 33 (.tmp 21) ?_); refine wpl_mid (by rfl) 33 (.tmp 21) rfl (G + 1) 1 (by rfl) (fr.map bc) _ hfr Tryz.underlying33 rfl hif ?_)
          | ((with_reducible refine at_load 33 (.tmp 50) ?_); refine wpl_mid (by rfl) 33 (.tmp 50) rfl (G + 1) 1 (by rfl) (fr.map bc) _ hfr Tryz.underlying33 rfl hif ?_)
          | ((with_reducible refine at_load 33 (.tmp 60) ?_); refine wpl_mid (by rfl) 33 (.tmp 60) rfl (G + 1) 1 (by rfl) (fr.map bc) _ hfr Tryz.underlying33 rfl hif ?_)
          | ((with_reducible refine at_load 33 (.tmp 26) ?_); refine wpl_mid (by rfl) 33 (.tmp 26) rfl (G + 1) 33 (by rfl) (dst.map bc) _ hto Tryz.underlying33 rfl hit ?_)
          | ((with_reducible refine at_load 33 (.tmp 45) ?_); refine wpl_mid (by rfl) 33 (.tmp 45) rfl (G + 1) 33 (by rfl) (dst.map bc) _ hto Tryz.underlying33 rfl hit ?_)
          | ((with_reducible refine at_load 33 (.tmp 97) ?_); refine wpl_mid (by rfl) 33 (.tmp 97) rfl (G + 1) 33 (by rfl) (dst.map bc) _ hto Tryz.underlying33 rfl hit ?_)
          | ((with_reducible refine at_load 33 (.tmp 103) ?_); refine wpl_mid (by rfl) 33 (.tmp 103) rfl (G + 1) 33 (by rfl) (dst.map bc) _ hto Tryz.underlying33 rfl hit ?_)
          | ((with_reducible refine at_load 33 (.tmp 6) ?_); refine wpl_load (by rfl) 33 (.tmp 6) rfl (G + 3) (by rfl) 33 (z32.map bc).toArray (0, 0) _ bZ Tryz.underlying33 rfl (id_size rfl) ?_))
      have bF := block_setCell bR (i := 0) (.slice none 0 0)
      exact bodyPost_ret (results_cell_tmp rfl _ _ (G + 2) _ _ _ _ (by rfl) bF Tryz.underlying63 rfl (info63 _)) rfl ⟨_, rfl, isR_nil _, X.setCell (p := ⟨G + 2, 0, none⟩) (by show w.heap.size ≤ G + 2; omega) _⟩
    | false =>
      rw [show decide (dst = z32) = false from hzt] at etz
      go_wp2_with (first
          | ((with_reducible refine at_load 33 (.tmp 21) ?_); refine wpl_mid (by rfl) 33 (.tmp 21) rfl (G + 1) 1 (by rfl) (fr.map bc) _ hfr Tryz.underlying33 rfl hif ?_)
          | ((with_reducible refine at_load 33 (.tmp 50) ?_); refine wpl_mid (by rfl) 33 (.tmp 50) rfl (G + 1) 1 (by rfl) (fr.map bc) _ hfr Tryz.underlying33 rfl hif ?_)
          | ((with_reducible refine at_load 33 (.tmp 60) ?_); refine wpl_mid (by rfl) 33 (.tmp 60) rfl (G + 1) 1 (by rfl) (fr.map bc) _ hfr Tryz.underlying33 rfl hif ?_)
          | ((with_reducible refine at_load 33 (.tmp 26) ?_); refine wpl_mid (by rfl) 33 (.tmp 26) rfl (G + 1) 33 (by rfl) (dst.map bc) _ hto Tryz.underlying33 rfl hit ?_)
          | ((with_reducible refine at_load 33 (.tmp 45) ?_); refine wpl_mid (by rfl) 33 (.tmp 45) rfl (G + 1) 33 (by rfl) (dst.map bc) _ hto Tryz.underlying33 rfl hit ?_)
          | ((with_reducible refine at_load 33 (.tmp 97) ?_); refine wpl_mid (by rfl) 33 (.tmp 97) rfl (G + 1) 33 (by rfl) (dst.map bc) _ hto Tryz.underlying33 rfl hit ?_)
          | ((with_reducible refine at_load 33 (.tmp 103) ?_); refine wpl_mid (by rfl) 33 (.tmp 103) rfl (G + 1) 33 (by rfl) (dst.map bc) _ hto Tryz.underlying33 rfl hit ?_)
          | ((with_reducible refine at_load 33 (.tmp 6) ?_); refine wpl_load (by rfl) 33 (.tmp 6) rfl (G + 3) (by rfl) 33 (z32.map bc).toArray (0, 0) _ bZ Tryz.underlying33 rfl (id_size rfl) ?_))
      refine Calls.mono (refsFind _ _ l HF nm HS.out (by omega)) ?_
      rintro e w4 ⟨i, hi, rfl, y⟩
      replace c2 := y.cell c2
      replace cM := y.cell cM
      replace hfr := rangeAt_ext hfr y
      replace hto := rangeAt_ext hto y
      replace bR := y.keeps bR
      replace bZ := y.keeps bZ
      replace X := X.trans y
      replace HF := HF.ext y
      clear y
      obtain ⟨q1, q2⟩ := hit_hasR HS.out hi
      have hile := hi.le
      have HPL := Lib.hid (plc_is hi)
      clear hi
      go_wp2_with (first
          | ((with_reducible refine at_load 33 (.tmp 21) ?_); refine wpl_mid (by rfl) 33 (.tmp 21) rfl (G + 1) 1 (by rfl) (fr.map bc) _ hfr Tryz.underlying33 rfl hif ?_)
          | ((with_reducible refine at_load 33 (.tmp 50) ?_); refine wpl_mid (by rfl) 33 (.tmp 50) rfl (G + 1) 1 (by rfl) (fr.map bc) _ hfr Tryz.underlying33 rfl hif ?_)
          | ((with_reducible refine at_load 33 (.tmp 60) ?_); refine wpl_mid (by rfl) 33 (.tmp 60) rfl (G + 1) 1 (by rfl) (fr.map bc) _ hfr Tryz.underlying33 rfl hif ?_)
          | ((with_reducible refine at_load 33 (.tmp 26) ?_); refine wpl_mid (by rfl) 33 (.tmp 26) rfl (G + 1) 33 (by rfl) (dst.map bc) _ hto Tryz.underlying33 rfl hit ?_)
          | ((with_reducible refine at_load 33 (.tmp 45) ?_); refine wpl_mid (by rfl) 33 (.tmp 45) rfl (G + 1) 33 (by rfl) (dst.map bc) _ hto Tryz.underlying33 rfl hit ?_)
          | ((with_reducible refine at_load 33 (.tmp 97) ?_); refine wpl_mid (by rfl) 33 (.tmp 97) rfl (G + 1) 33 (by rfl) (dst.map bc) _ hto Tryz.underlying33 rfl hit ?_)
          | ((with_reducible refine at_load 33 (.tmp 103) ?_); refine wpl_mid (by rfl) 33 (.tmp 103) rfl (G + 1) 33 (by rfl) (dst.map bc) _ hto Tryz.underlying33 rfl hit ?_)
          | ((with_reducible refine at_load 33 (.tmp 6) ?_); refine wpl_load (by rfl) 33 (.tmp 6) rfl (G + 3) (by rfl) 33 (z32.map bc).toArray (0, 0) _ bZ Tryz.underlying33 rfl (id_size rfl) ?_))
      refine Calls.mono (cloneR _ _ l HF (by omega)) ?_
      rintro e w6 ⟨v2, rfl, own2, x2⟩
      have hB : G + 4 ≤ w4.heap.size := block_lt bZ
      generalize hBB : w4.heap.size = B at *
      replace c2 := x2.cell c2
      replace cM := x2.cell cM
      replace hfr := rangeAt_ext hfr x2
      replace hto := rangeAt_ext hto x2
      replace bR := x2.keeps bR
      replace bZ := x2.keeps bZ
      replace X := X.trans x2
      obtain ⟨a2, cp2, rfl⟩ := ownSh own2
      cases hh : hitR l nm i with
      | false =>
        have hgt := q2 hh
        clear q1 q2
        have HZ := Lib.hid hgt
        go_wp2_with (first
            | ((with_reducible refine at_load 33 (.tmp 21) ?_); refine wpl_mid (by rfl) 33 (.tmp 21) rfl (G + 1) 1 (by rfl) (fr.map bc) _ hfr Tryz.underlying33 rfl hif ?_)
            | ((with_reducible refine at_load 33 (.tmp 50) ?_); refine wpl_mid (by rfl) 33 (.tmp 50) rfl (G + 1) 1 (by rfl) (fr.map bc) _ hfr Tryz.underlying33 rfl hif ?_)
            | ((with_reducible refine at_load 33 (.tmp 60) ?_); refine wpl_mid (by rfl) 33 (.tmp 60) rfl (G + 1) 1 (by rfl) (fr.map bc) _ hfr Tryz.underlying33 rfl hif ?_)
            | ((with_reducible refine at_load 33 (.tmp 26) ?_); refine wpl_mid (by rfl) 33 (.tmp 26) rfl (G + 1) 33 (by rfl) (dst.map bc) _ hto Tryz.underlying33 rfl hit ?_)
            | ((with_reducible refine at_load 33 (.tmp 45) ?_); refine wpl_mid (by rfl) 33 (.tmp 45) rfl (G + 1) 33 (by rfl) (dst.map bc) _ hto Tryz.underlying33 rfl hit ?_)
            | ((with_reducible refine at_load 33 (.tmp 97) ?_); refine wpl_mid (by rfl) 33 (.tmp 97) rfl (G + 1) 33 (by rfl) (dst.map bc) _ hto Tryz.underlying33 rfl hit ?_)
            | ((with_reducible refine at_load 33 (.tmp 103) ?_); refine wpl_mid (by rfl) 33 (.tmp 103) rfl (G + 1) 33 (by rfl) (dst.map bc) _ hto Tryz.underlying33 rfl hit ?_)
            | ((with_reducible refine at_load 33 (.tmp 6) ?_); refine wpl_load (by rfl) 33 (.tmp 6) rfl (G + 3) (by rfl) 33 (z32.map bc).toArray (0, 0) _ bZ Tryz.underlying33 rfl (id_size rfl) ?_))
        refine wp_region_ext (by kernel_rfl) fun wd hqd xd hHeld => ?_
        refine wpAnyH_take (i := 0) (v := ?vm100) rfl (by kernel_rfl) (by kernel_rfl) (by kernel_rfl) (fun _ _ _ h => h) (Or.inl ⟨by rfl, ?hym100⟩) hHeld ?_
        case hym100 => (intro w hSw; go_simp; try with_reducible rfl)
        simp only [Act.put, List.setIfInBounds_toArray, List.set_cons_zero, List.set_cons_succ, List.getElem_toArray, List.getElem_cons_zero, List.getElem_cons_succ]
        refine wpAnyH_take (i := 1) (v := ?vm101) rfl (by kernel_rfl) (by kernel_rfl) (by kernel_rfl) (fun _ _ _ h => h) (Or.inl ⟨by rfl, ?hym101⟩) hHeld ?_
        case hym101 => (intro w hSw; go_simp; try with_reducible rfl)
        simp only [Act.put, List.setIfInBounds_toArray, List.set_cons_zero, List.set_cons_succ, List.getElem_toArray, List.getElem_cons_zero, List.getElem_cons_succ]
        refine wpAnyH_take (i := 2) (v := undef) rfl (by kernel_rfl) (by kernel_rfl) (by kernel_rfl) (fun _ _ _ h => h) (Or.inr ⟨by rfl, rfl⟩) hHeld ?_
        simp only [Act.put, List.setIfInBounds_toArray, List.set_cons_zero, List.set_cons_succ, List.getElem_toArray, List.getElem_cons_zero, List.getElem_cons_succ]
        refine wpAnyH_take (i := 3) (v := undef) rfl (by kernel_rfl) (by kernel_rfl) (by kernel_rfl) (fun _ _ _ h => h) (Or.inr ⟨by rfl, rfl⟩) hHeld ?_
        simp only [Act.put, List.setIfInBounds_toArray, List.set_cons_zero, List.set_cons_succ, List.getElem_toArray, List.getElem_cons_zero, List.getElem_cons_succ]
        refine wpAnyH_take (i := 4) (v := undef) rfl (by kernel_rfl) (by kernel_rfl) (by kernel_rfl) (fun _ _ _ h => h) (Or.inr ⟨by rfl, rfl⟩) hHeld ?_
        simp only [Act.put, List.setIfInBounds_toArray, List.set_cons_zero, List.set_cons_succ, List.getElem_toArray, List.getElem_cons_zero, List.getElem_cons_succ]
        refine wpAnyH_take (i := 5) (v := undef) rfl (by kernel_rfl) (by kernel_rfl) (by kernel_rfl) (fun _ _ _ h => h) (Or.inr ⟨by rfl, rfl⟩) hHeld ?_
        simp only [Act.put, List.setIfInBounds_toArray, List.set_cons_zero, List.set_cons_succ, List.getElem_toArray, List.getElem_cons_zero, List.getElem_cons_succ]
        refine wpAnyH_take (i := 6) (v := undef) rfl (by kernel_rfl) (by kernel_rfl) (by kernel_rfl) (fun _ _ _ h => h) (Or.inr ⟨by rfl, rfl⟩) hHeld ?_
        simp only [Act.put, List.setIfInBounds_toArray, List.set_cons_zero, List.set_cons_succ, List.getElem_toArray, List.getElem_cons_zero, List.getElem_cons_succ]
        refine wpAnyH_take (i := 7) (v := undef) rfl (by kernel_rfl) (by kernel_rfl) (by kernel_rfl) (fun _ _ _ h => h) (Or.inr ⟨by rfl, rfl⟩) hHeld ?_
        simp only [Act.put, List.setIfInBounds_toArray, List.set_cons_zero, List.set_cons_succ, List.getElem_toArray, List.getElem_cons_zero, List.getElem_cons_succ]
        refine wpAnyH_take (i := 8) (v := undef) rfl (by kernel_rfl) (by kernel_rfl) (by kernel_rfl) (fun _ _ _ h => h) (Or.inr ⟨by rfl, rfl⟩) hHeld ?_
        simp only [Act.put, List.setIfInBounds_toArray, List.set_cons_zero, List.set_cons_succ, List.getElem_toArray, List.getElem_cons_zero, List.getElem_cons_succ]
        refine wpAnyH_take (i := 9) (v := undef) rfl (by kernel_rfl) (by kernel_rfl) (by kernel_rfl) (fun _ _ _ h => h) (Or.inr ⟨by rfl, rfl⟩) hHeld ?_
        simp only [Act.put, List.setIfInBounds_toArray, List.set_cons_zero, List.set_cons_succ, List.getElem_toArray, List.getElem_cons_zero, List.getElem_cons_succ]
        refine wpAnyH_take (i := 10) (v := ?vm1010) rfl (by kernel_rfl) (by kernel_rfl) (by kernel_rfl) (fun _ _ _ h => h) (Or.inl ⟨by rfl, ?hym1010⟩) hHeld ?_
        case hym1010 => (intro w hSw; go_simp; try with_reducible rfl)
        simp only [Act.put, List.setIfInBounds_toArray, List.set_cons_zero, List.set_cons_succ, List.getElem_toArray, List.getElem_cons_zero, List.getElem_cons_succ]
        refine wpAnyH_take (i := 11) (v := ?vm1011) rfl (by kernel_rfl) (by kernel_rfl) (by kernel_rfl) (fun _ _ _ h => h) (Or.inl ⟨by rfl, ?hym1011⟩) hHeld ?_
        case hym1011 => (intro w hSw; go_simp; try with_reducible rfl)
        simp only [Act.put, List.setIfInBounds_toArray, List.set_cons_zero, List.set_cons_succ, List.getElem_toArray, List.getElem_cons_zero, List.getElem_cons_succ]
        refine wpAnyH_done (by kernel_rfl) ?_ _
        refine NoPanic.normal ?_
        replace c2 := xd.cell c2
        replace cM := xd.cell cM
        replace hfr := rangeAt_ext hfr xd
        replace hto := rangeAt_ext hto xd
        replace bR := xd.keeps bR
        replace bZ := xd.keeps bZ
        replace X := X.trans xd
        have own2 := ownsRow_ext own2 xd
        replace x2 := x2.trans xd
        clear hHeld xd hqd
        obtain ⟨w6, rfl⟩ : ∃ x, x = wd := ⟨_, rfl⟩
        by_cases h8 : l.length = 8
        · have h8' : ((l.length : Int) == 8) = true := by rw [beq_iff_eq]; omega
          have H8 := Lib.hid h8
          clear h8
          obtain rfl : ([], 6) = R := by rw [← HR.out]; unfold applyR; simp [hr, hn, hzf, hzt, hgt, H8.out]
          have f0 := block_free bR 0
          have k0 := block_cell bR 0
          clear HR
          go_wp2_with (first
              | ((with_reducible refine at_load 33 (.tmp 21) ?_); refine wpl_mid (by rfl) 33 (.tmp 21) rfl (G + 1) 1 (by rfl) (fr.map bc) _ hfr Tryz.underlying33 rfl hif ?_)
              | ((with_reducible refine at_load 33 (.tmp 50) ?_); refine wpl_mid (by rfl) 33 (.tmp 50) rfl (G + 1) 1 (by rfl) (fr.map bc) _ hfr Tryz.underlying33 rfl hif ?_)
              | ((with_reducible refine at_load 33 (.tmp 60) ?_); refine wpl_mid (by rfl) 33 (.tmp 60) rfl (G + 1) 1 (by rfl) (fr.map bc) _ hfr Tryz.underlying33 rfl hif ?_)
              | ((with_reducible refine at_load 33 (.tmp 26) ?_); refine wpl_mid (by rfl) 33 (.tmp 26) rfl (G + 1) 33 (by rfl) (dst.map bc) _ hto Tryz.underlying33 rfl hit ?_)
              | ((with_reducible refine at_load 33 (.tmp 45) ?_); refine wpl_mid (by rfl) 33 (.tmp 45) rfl (G + 1) 33 (by rfl) (dst.map bc) _ hto Tryz.underlying33 rfl hit ?_)
              | ((with_reducible refine at_load 33 (.tmp 97) ?_); refine wpl_mid (by rfl) 33 (.tmp 97) rfl (G + 1) 33 (by rfl) (dst.map bc) _ hto Tryz.underlying33 rfl hit ?_)
              | ((with_reducible refine at_load 33 (.tmp 103) ?_); refine wpl_mid (by rfl) 33 (.tmp 103) rfl (G + 1) 33 (by rfl) (dst.map bc) _ hto Tryz.underlying33 rfl hit ?_)
              | ((with_reducible refine at_load 33 (.tmp 6) ?_); refine wpl_load (by rfl) 33 (.tmp 6) rfl (G + 3) (by rfl) 33 (z32.map bc).toArray (0, 0) _ bZ Tryz.underlying33 rfl (id_size rfl) ?_))
          have bF := block_setCell bR (i := 0) (.slice none 0 0)
          exact bodyPost_ret (results_cell_tmp rfl _ _ (G + 2) _ _ _ _ (by rfl) bF Tryz.underlying63 rfl (info63 _)) rfl ⟨_, rfl, isR_nil _, X.setCell (p := ⟨G + 2, 0, none⟩) (by show w.heap.size ≤ G + 2; omega) _⟩
        · have h8' : ((l.length : Int) == 8) = false := by rw [beq_eq_false_iff_ne]; omega
          obtain rfl : (l.take i ++ ⟨nm, dst⟩ :: l.drop i, 0) = R := by rw [← HR.out, HPL.out]; unfold applyR; simp [hr, hn, hzf, hzt, hgt, h8]
          have hE : RfOk ⟨nm, dst⟩ := ⟨hdl, hnl⟩
          have hbl := fun w => build_rf w ⟨nm, dst⟩ hE
          have hbd := built_rf nm dst hdl
          clear HR HZ hgt
          go_wp2_with   (first
              | ((with_reducible refine at_bld 78 (.tmp 96) (.tmp 98) ?_); refine wpl_bld (by rfl) 78 (.tmp 96) (.tmp 98) rfl _ _ (by rfl) (by rfl) _ hbd ?_)
              | ((with_reducible refine at_build1 61 (.tmp 99) ?_); refine wpl_buildOne (by rfl) 61 (.tmp 99) rfl (rfC ⟨nm, dst⟩) (by rfl) (hbl _) ?_)
              | ((with_reducible refine at_load 33 (.tmp 21) ?_); refine wpl_mid (by rfl) 33 (.tmp 21) rfl (G + 1) 1 (by rfl) (fr.map bc) _ hfr Tryz.underlying33 rfl hif ?_)
              | ((with_reducible refine at_load 33 (.tmp 50) ?_); refine wpl_mid (by rfl) 33 (.tmp 50) rfl (G + 1) 1 (by rfl) (fr.map bc) _ hfr Tryz.underlying33 rfl hif ?_)
              | ((with_reducible refine at_load 33 (.tmp 60) ?_); refine wpl_mid (by rfl) 33 (.tmp 60) rfl (G + 1) 1 (by rfl) (fr.map bc) _ hfr Tryz.underlying33 rfl hif ?_)
              | ((with_reducible refine at_load 33 (.tmp 26) ?_); refine wpl_mid (by rfl) 33 (.tmp 26) rfl (G + 1) 33 (by rfl) (dst.map bc) _ hto Tryz.underlying33 rfl hit ?_)
              | ((with_reducible refine at_load 33 (.tmp 45) ?_); refine wpl_mid (by rfl) 33 (.tmp 45) rfl (G + 1) 33 (by rfl) (dst.map bc) _ hto Tryz.underlying33 rfl hit ?_)
              | ((with_reducible refine at_load 33 (.tmp 97) ?_); refine wpl_mid (by rfl) 33 (.tmp 97) rfl (G + 1) 33 (by rfl) (dst.map bc) _ hto Tryz.underlying33 rfl hit ?_)
              | ((with_reducible refine at_load 33 (.tmp 103) ?_); refine wpl_mid (by rfl) 33 (.tmp 103) rfl (G + 1) 33 (by rfl) (dst.map bc) _ hto Tryz.underlying33 rfl hit ?_)
              | ((with_reducible refine at_load 33 (.tmp 6) ?_); refine wpl_load (by rfl) 33 (.tmp 6) rfl (G + 3) (by rfl) 33 (z32.map bc).toArray (0, 0) _ bZ Tryz.underlying33 rfl (id_size rfl) ?_))
          have y : Ext w6 (w6.alloc (.cells (rfC ⟨nm, dst⟩).toArray 78)) := (Ext.refl w6).alloc _
          have bR7 := y.keeps bR
          have X7 := X.trans y
          have own7 := ownsRow_ext own2 y
          have hbs : B ≤ (w6.alloc (.cells (rfC ⟨nm, dst⟩).toArray 78)).heap.size := by have := y.size; have := x2.size; omega
          refine Calls.mono (insRf _ B _ l.length _ own7 hbs i hile (by omega) w6.heap.size (rfC ⟨nm, dst⟩) 78 (rfC_len hE) (heap_alloc_new w6 _) (own_ne own2 (Or.inr (Nat.le_refl _))) (rfC_one l) (rf_one _)) ?_
          rintro e w8 ⟨v3, rfl, own3, gr3⟩
          obtain ⟨a3, c3, rfl⟩ := ownSh own3
          have bR8 := grown_keep gr3 bR7 (own_ne own7 (Or.inl (by omega)))
          replace X := own_base own7 gr3 X7 (by omega)
          have f0 := block_free bR8 0
          have k0 := block_cell bR8 0
          rw [flat_take l i HOK.out, flat_drop l i HOK.out] at own3
          have own3 : w8.ownsRow B 78 33 (.slice a3 (l.length + 1) c3) (l.length + 1) ((l.take i ++ ⟨nm, dst⟩ :: l.drop i).flatMap rfC) := by
            rw [List.flatMap_append, List.flatMap_cons, ← List.append_assoc]; exact own3
          have hln : (l.take i ++ (⟨nm, dst⟩ : Rf) :: l.drop i).length = l.length + 1 := by simp; omega
          have hoks : ∀ e ∈ l.take i ++ (⟨nm, dst⟩ : Rf) :: l.drop i, RfOk e := fun e he => by
            rcases List.mem_append.1 he with h | h
            · exact HOK.out e (List.mem_of_mem_take h)
            · rcases List.mem_cons.1 h with rfl | h
              · exact hE
              · exact HOK.out e (List.mem_of_mem_drop h)
          go_wp2_with fail
          have bF := block_setCell bR8 (i := 0) (.slice a3 (l.length + 1) c3)
          exact bodyPost_ret (results_cell_tmp rfl _ _ (G + 2) _ _ _ _ (by rfl) bF Tryz.underlying63 rfl (info63 _)) rfl ⟨_, rfl, isR_own (ownsRow_grown own3 (grown_setCell _ (G + 2) 0 _) (own_ne own3 (Or.inl (by omega)))) hln hoks, X.setCell (p := ⟨G + 2, 0, none⟩) (by show w.heap.size ≤ G + 2; omega) _⟩
      | true =>
        obtain ⟨hil, hgt, hnm⟩ := q1 hh
        clear q1 q2
        obtain rfl : ([], 5) = R := by rw [← HR.out]; unfold applyR; simp [hr, hn, hzf, hzt, hgt]
        have f0 := block_free bR 0
        have k0 := block_cell bR 0
        clear HR
        go_wp2_with (first
            | ((with_reducible refine at_load 33 (.tmp 21) ?_); refine wpl_mid (by rfl) 33 (.tmp 21) rfl (G + 1) 1 (by rfl) (fr.map bc) _ hfr Tryz.underlying33 rfl hif ?_)
            | ((with_reducible refine at_load 33 (.tmp 50) ?_); refine wpl_mid (by rfl) 33 (.tmp 50) rfl (G + 1) 1 (by rfl) (fr.map bc) _ hfr Tryz.underlying33 rfl hif ?_)
            | ((with_reducible refine at_load 33 (.tmp 60) ?_); refine wpl_mid (by rfl) 33 (.tmp 60) rfl (G + 1) 1 (by rfl) (fr.map bc) _ hfr Tryz.underlying33 rfl hif ?_)
            | ((with_reducible refine at_load 33 (.tmp 26) ?_); refine wpl_mid (by rfl) 33 (.tmp 26) rfl (G + 1) 33 (by rfl) (dst.map bc) _ hto Tryz.underlying33 rfl hit ?_)
            | ((with_reducible refine at_load 33 (.tmp 45) ?_); refine wpl_mid (by rfl) 33 (.tmp 45) rfl (G + 1) 33 (by rfl) (dst.map bc) _ hto Tryz.underlying33 rfl hit ?_)
            | ((with_reducible refine at_load 33 (.tmp 97) ?_); refine wpl_mid (by rfl) 33 (.tmp 97) rfl (G + 1) 33 (by rfl) (dst.map bc) _ hto Tryz.underlying33 rfl hit ?_)
            | ((with_reducible refine at_load 33 (.tmp 103) ?_); refine wpl_mid (by rfl) 33 (.tmp 103) rfl (G + 1) 33 (by rfl) (dst.map bc) _ hto Tryz.underlying33 rfl hit ?_)
            | ((with_reducible refine at_load 33 (.tmp 6) ?_); refine wpl_load (by rfl) 33 (.tmp 6) rfl (G + 3) (by rfl) 33 (z32.map bc).toArray (0, 0) _ bZ Tryz.underlying33 rfl (id_size rfl) ?_))
        have bF := block_setCell bR (i := 0) (.slice none 0 0)
        exact bodyPost_ret (results_cell_tmp rfl _ _ (G + 2) _ _ _ _ (by rfl) bF Tryz.underlying63 rfl (info63 _)) rfl ⟨_, rfl, isR_nil _, X.setCell (p := ⟨G + 2, 0, none⟩) (by show w.heap.size ≤ G + 2; omega) _⟩
  | false =>
    rw [show decide (fr = z32) = false from hzf] at efz nfz
    cases hzt : zr dst with
    | true =>
      rw [show decide (dst = z32) = true from hzt] at etz
      go_wp2_with (first
          | ((with_reducible refine at_load 33 (.tmp 21) ?_); refine wpl_mid (by rfl) 33 (.tmp 21) rfl (G + 1) 1 (by rfl) (fr.map bc) _ hfr Tryz.underlying33 rfl hif ?_)
          | ((with_reducible refine at_load 33 (.tmp 50) ?_); refine wpl_mid (by rfl) 33 (.tmp 50) rfl (G + 1) 1 (by rfl) (fr.map bc) _ hfr Tryz.underlying33 rfl hif ?_)
          | ((with_reducible refine at_load 33 (.tmp 60) ?_); refine wpl_mid (by rfl) 33 (.tmp 60) rfl (G + 1) 1 (by rfl) (fr.map bc) _ hfr Tryz.underlying33 rfl hif ?_)
          | ((with_reducible refine at_load 33 (.tmp 26) ?_); refine wpl_mid (by rfl) 33 (.tmp 26) rfl (G + 1) 33 (by rfl) (dst.map bc) _ hto Tryz.underlying33 rfl hit ?_)
          | ((with_reducible refine at_load 33 (.tmp 45) ?_); refine wpl_mid (by rfl) 33 (.tmp 45) rfl (G + 1) 33 (by rfl) (dst.map bc) _ hto Tryz.underlying33 rfl hit ?_)
          | ((with_reducible refine at_load 33 (.tmp 97) ?_); refine wpl_mid (by rfl) 33 (.tmp 97) rfl (G + 1) 33 (by rfl) (dst.map bc) _ hto Tryz.underlying33 rfl hit ?_)
          | ((with_reducible refine at_load 33 (.tmp 103) ?_); refine wpl_mid (by rfl) 33 (.tmp 103) rfl (G + 1) 33 (by rfl) (dst.map bc) _ hto Tryz.underlying33 rfl hit ?_)
          | ((with_reducible refine at_load 33 (.tmp 6) ?_); refine wpl_load (by rfl) 33 (.tmp 6) rfl (G + 3) (by rfl) 33 (z32.map bc).toArray (0, 0) _ bZ Tryz.underlying33 rfl (id_size rfl) ?_))
      refine Calls.mono (refsFind _ _ l HF nm HS.out (by omega)) ?_
      rintro e w4 ⟨i, hi, rfl, y⟩
      replace c2 := y.cell c2
      replace cM := y.cell cM
      replace hfr := rangeAt_ext hfr y
      replace hto := rangeAt_ext hto y
      replace bR := y.keeps bR
      replace bZ := y.keeps bZ
      replace X := X.trans y
      replace HF := HF.ext y
      clear y
      obtain ⟨q1, q2⟩ := hit_hasR HS.out hi
      have hile := hi.le
      have HPL := Lib.hid (plc_is hi)
      clear hi
      go_wp2_with (first
          | ((with_reducible refine at_load 33 (.tmp 21) ?_); refine wpl_mid (by rfl) 33 (.tmp 21) rfl (G + 1) 1 (by rfl) (fr.map bc) _ hfr Tryz.underlying33 rfl hif ?_)
          | ((with_reducible refine at_load 33 (.tmp 50) ?_); refine wpl_mid (by rfl) 33 (.tmp 50) rfl (G + 1) 1 (by rfl) (fr.map bc) _ hfr Tryz.underlying33 rfl hif ?_)
          | ((with_reducible refine at_load 33 (.tmp 60) ?_); refine wpl_mid (by rfl) 33 (.tmp 60) rfl (G + 1) 1 (by rfl) (fr.map bc) _ hfr Tryz.underlying33 rfl hif ?_)
          | ((with_reducible refine at_load 33 (.tmp 26) ?_); refine wpl_mid (by rfl) 33 (.tmp 26) rfl (G + 1) 33 (by rfl) (dst.map bc) _ hto Tryz.underlying33 rfl hit ?_)
          | ((with_reducible refine at_load 33 (.tmp 45) ?_); refine wpl_mid (by rfl) 33 (.tmp 45) rfl (G + 1) 33 (by rfl) (dst.map bc) _ hto Tryz.underlying33 rfl hit ?_)
          | ((with_reducible refine at_load 33 (.tmp 97) ?_); refine wpl_mid (by rfl) 33 (.tmp 97) rfl (G + 1) 33 (by rfl) (dst.map bc) _ hto Tryz.underlying33 rfl hit ?_)
          | ((with_reducible refine at_load 33 (.tmp 103) ?_); refine wpl_mid (by rfl) 33 (.tmp 103) rfl (G + 1) 33 (by rfl) (dst.map bc) _ hto Tryz.underlying33 rfl hit ?_)
          | ((with_reducible refine at_load 33 (.tmp 6) ?_); refine wpl_load (by rfl) 33 (.tmp 6) rfl (G + 3) (by rfl) 33 (z32.map bc).toArray (0, 0) _ bZ Tryz.underlying33 rfl (id_size rfl) ?_))
      refine Calls.mono (cloneR _ _ l HF (by omega)) ?_
      rintro e w6 ⟨v2, rfl, own2, x2⟩
      have hB : G + 4 ≤ w4.heap.size := block_lt bZ
      generalize hBB : w4.heap.size = B at *
      replace c2 := x2.cell c2
      replace cM := x2.cell cM
      replace hfr := rangeAt_ext hfr x2
      replace hto := rangeAt_ext hto x2
      replace bR := x2.keeps bR
      replace bZ := x2.keeps bZ
      replace X := X.trans x2
      obtain ⟨a2, cp2, rfl⟩ := ownSh own2
      cases hh : hitR l nm i with
      | false =>
        have hgt := q2 hh
        clear q1 q2
        obtain rfl : ([], 4) = R := by rw [← HR.out]; unfold applyR; simp [hr, hn, hzf, hzt, hgt]
        have f0 := block_free bR 0
        have k0 := block_cell bR 0
        clear HR
        go_wp2_with (first
            | ((with_reducible refine at_load 33 (.tmp 21) ?_); refine wpl_mid (by rfl) 33 (.tmp 21) rfl (G + 1) 1 (by rfl) (fr.map bc) _ hfr Tryz.underlying33 rfl hif ?_)
            | ((with_reducible refine at_load 33 (.tmp 50) ?_); refine wpl_mid (by rfl) 33 (.tmp 50) rfl (G + 1) 1 (by rfl) (fr.map bc) _ hfr Tryz.underlying33 rfl hif ?_)
            | ((with_reducible refine at_load 33 (.tmp 60) ?_); refine wpl_mid (by rfl) 33 (.tmp 60) rfl (G + 1) 1 (by rfl) (fr.map bc) _ hfr Tryz.underlying33 rfl hif ?_)
            | ((with_reducible refine at_load 33 (.tmp 26) ?_); refine wpl_mid (by rfl) 33 (.tmp 26) rfl (G + 1) 33 (by rfl) (dst.map bc) _ hto Tryz.underlying33 rfl hit ?_)
            | ((with_reducible refine at_load 33 (.tmp 45) ?_); refine wpl_mid (by rfl) 33 (.tmp 45) rfl (G + 1) 33 (by rfl) (dst.map bc) _ hto Tryz.underlying33 rfl hit ?_)
            | ((with_reducible refine at_load 33 (.tmp 97) ?_); refine wpl_mid (by rfl) 33 (.tmp 97) rfl (G + 1) 33 (by rfl) (dst.map bc) _ hto Tryz.underlying33 rfl hit ?_)
            | ((with_reducible refine at_load 33 (.tmp 103) ?_); refine wpl_mid (by rfl) 33 (.tmp 103) rfl (G + 1) 33 (by rfl) (dst.map bc) _ hto Tryz.underlying33 rfl hit ?_)
            | ((with_reducible refine at_load 33 (.tmp 6) ?_); refine wpl_load (by rfl) 33 (.tmp 6) rfl (G + 3) (by rfl) 33 (z32.map bc).toArray (0, 0) _ bZ Tryz.underlying33 rfl (id_size rfl) ?_))
        have bF := block_setCell bR (i := 0) (.slice none 0 0)
        exact bodyPost_ret (results_cell_tmp rfl _ _ (G + 2) _ _ _ _ (by rfl) bF Tryz.underlying63 rfl (info63 _)) rfl ⟨_, rfl, isR_nil _, X.setCell (p := ⟨G + 2, 0, none⟩) (by show w.heap.size ≤ G + 2; omega) _⟩
      | true =>
        obtain ⟨hil, hgt, hnm⟩ := q1 hh
        clear q1 q2
        obtain ⟨g, cap, e0, hnc, hcm, hbg, hth, hri, owns⟩ := own_set own2 rfl HOK.out i hil dst hdl
        simp only [Value.slice.injEq, true_and] at e0
        obtain ⟨rfl, rfl⟩ := e0
        have hel := (HOK.out _ (List.getElem_mem hil)).1
        rw [hnm] at owns
        obtain ⟨ei, hei0⟩ : ∃ ei, l[i].id = ei := ⟨_, rfl⟩
        rw [hei0] at hri hel
        have hei : (Tryz.prog.info? 33).map (·.size) = some (ei.map bc).length := by simpa using id_size hel
        have hne := fun w => neq_id w ei fr hel hfl
        have i0 : (0 : Int) ≤ (i : Int) := Int.natCast_nonneg _
        have i1 : (i : Int) < (l.length : Int) := by omega
        have OWN := Lib.hid own2
        have OWNS := Lib.hid owns
        have HTH := Lib.hid hth
        clear own2 owns hth
        by_cases hd : ei = fr
        rotate_left
        · rw [decide_eq_false hd] at hne
          obtain rfl : ([], 191) = R := by rw [← HR.out]; unfold applyR; simp [hr, hn, hzf, hzt, hgt, hei0, hd]
          clear HR hgt
          go_wp2_with   (first
              | ((with_reducible refine at_load 33 (.tmp 21) ?_); refine wpl_mid (by rfl) 33 (.tmp 21) rfl (G + 1) 1 (by rfl) (fr.map bc) _ hfr Tryz.underlying33 rfl hif ?_)
              | ((with_reducible refine at_load 33 (.tmp 50) ?_); refine wpl_mid (by rfl) 33 (.tmp 50) rfl (G + 1) 1 (by rfl) (fr.map bc) _ hfr Tryz.underlying33 rfl hif ?_)
              | ((with_reducible refine at_load 33 (.tmp 60) ?_); refine wpl_mid (by rfl) 33 (.tmp 60) rfl (G + 1) 1 (by rfl) (fr.map bc) _ hfr Tryz.underlying33 rfl hif ?_)
              | ((with_reducible refine at_load 33 (.tmp 26) ?_); refine wpl_mid (by rfl) 33 (.tmp 26) rfl (G + 1) 33 (by rfl) (dst.map bc) _ hto Tryz.underlying33 rfl hit ?_)
              | ((with_reducible refine at_load 33 (.tmp 45) ?_); refine wpl_mid (by rfl) 33 (.tmp 45) rfl (G + 1) 33 (by rfl) (dst.map bc) _ hto Tryz.underlying33 rfl hit ?_)
              | ((with_reducible refine at_load 33 (.tmp 97) ?_); refine wpl_mid (by rfl) 33 (.tmp 97) rfl (G + 1) 33 (by rfl) (dst.map bc) _ hto Tryz.underlying33 rfl hit ?_)
              | ((with_reducible refine at_load 33 (.tmp 103) ?_); refine wpl_mid (by rfl) 33 (.tmp 103) rfl (G + 1) 33 (by rfl) (dst.map bc) _ hto Tryz.underlying33 rfl hit ?_)
              | ((with_reducible refine at_load 33 (.tmp 6) ?_); refine wpl_load (by rfl) 33 (.tmp 6) rfl (G + 3) (by rfl) 33 (z32.map bc).toArray (0, 0) _ bZ Tryz.underlying33 rfl (id_size rfl) ?_))
          refine wp_region_ext (by kernel_rfl) fun wd hqd xd hHeld => ?_
          replace hri := rangeAt_ext hri xd
          replace hfr := rangeAt_ext hfr xd
          refine wpAnyH_take (i := 0) (v := ?vp010) rfl (by kernel_rfl) (by kernel_rfl) (by kernel_rfl) (fun _ _ _ h => h) (Or.inl ⟨by rfl, ?hyp010⟩) hHeld ?_
          case hyp010 => (intro w hSw; go_simp; try with_reducible rfl)
          simp only [Act.put, List.setIfInBounds_toArray, List.set_cons_zero, List.set_cons_succ, List.getElem_toArray, List.getElem_cons_zero, List.getElem_cons_succ]
          refine wpAnyH_take (i := 1) (v := ?vp011) rfl (by kernel_rfl) (by kernel_rfl) (by kernel_rfl) (fun _ _ _ h => h) (Or.inl ⟨by rfl, ?hyp011⟩) hHeld ?_
          case hyp011 => (intro w hSw; go_simp; try with_reducible rfl)
          simp only [Act.put, List.setIfInBounds_toArray, List.set_cons_zero, List.set_cons_succ, List.getElem_toArray, List.getElem_cons_zero, List.getElem_cons_succ]
          refine wpAnyH_take (i := 2) (v := ?vp012) rfl (by kernel_rfl) (by kernel_rfl) (by kernel_rfl) (fun _ _ _ h => h) (Or.inl ⟨by rfl, ?hyp012⟩) hHeld ?_
          case hyp012 => (intro w hSw; go_simp; try with_reducible rfl)
          simp only [Act.put, List.setIfInBounds_toArray, List.set_cons_zero, List.set_cons_succ, List.getElem_toArray, List.getElem_cons_zero, List.getElem_cons_succ]
          refine wpAnyH_take (i := 3) (v := ?vp013) rfl (by kernel_rfl) (by kernel_rfl) (by kernel_rfl) (fun _ _ _ h => h) (Or.inl ⟨by rfl, ?hyp013⟩) hHeld ?_
          case hyp013 => (intro w hSw; go_simp; try with_reducible rfl)
          simp only [Act.put, List.setIfInBounds_toArray, List.set_cons_zero, List.set_cons_succ, List.getElem_toArray, List.getElem_cons_zero, List.getElem_cons_succ]
          refine wpAnyH_take (i := 4) (v := ?vp014) rfl (by kernel_rfl) (by kernel_rfl) (by kernel_rfl) (fun _ _ _ h => h) (Or.inl ⟨by rfl, ?hyp014⟩) hHeld ?_
          case hyp014 => (intro w hSw; go_simp; try with_reducible rfl)
          simp only [Act.put, List.setIfInBounds_toArray, List.set_cons_zero, List.set_cons_succ, List.getElem_toArray, List.getElem_cons_zero, List.getElem_cons_succ]
          refine wpAnyH_take (i := 5) (v := ?vp015) rfl (by kernel_rfl) (by kernel_rfl) (by kernel_rfl) (fun _ _ _ h => h) (Or.inl ⟨by rfl, ?hyp015⟩) hHeld ?_
          case hyp015 => (intro w hSw; go_simp; try with_reducible rfl)
          simp only [Act.put, List.setIfInBounds_toArray, List.set_cons_zero, List.set_cons_succ, List.getElem_toArray, List.getElem_cons_zero, List.getElem_cons_succ]
          refine wpAnyH_take (i := 6) rfl (by kernel_rfl) (by kernel_rfl) (by kernel_rfl) (fun _ _ _ h => h) (yieldsIf_load_mid (by rfl) _ _ rfl _ _ rfl (ei.map bc) _ (fun w h => rangeAt_ext hri h) Tryz.underlying33 rfl hei) hHeld ?_
          simp only [Act.put, List.setIfInBounds_toArray, List.set_cons_zero, List.set_cons_succ, List.getElem_toArray, List.getElem_cons_zero, List.getElem_cons_succ]
          refine wpAnyH_take (i := 7) (v := ?vp017) rfl (by kernel_rfl) (by kernel_rfl) (by kernel_rfl) (fun _ _ _ h => h) (Or.inl ⟨by rfl, ?hyp017⟩) hHeld ?_
          case hyp017 => (intro w hSw; go_simp; try with_reducible rfl)
          simp only [Act.put, List.setIfInBounds_toArray, List.set_cons_zero, List.set_cons_succ, List.getElem_toArray, List.getElem_cons_zero, List.getElem_cons_succ]
          refine wpAnyH_take (i := 8) rfl (by kernel_rfl) (by kernel_rfl) (by kernel_rfl) (fun _ _ _ h => h) (yieldsIf_load_mid (by rfl) _ _ rfl _ _ rfl (fr.map bc) _ (fun w h => rangeAt_ext hfr h) Tryz.underlying33 rfl hif) hHeld ?_
          simp only [Act.put, List.setIfInBounds_toArray, List.set_cons_zero, List.set_cons_succ, List.getElem_toArray, List.getElem_cons_zero, List.getElem_cons_succ]
          refine wpAnyH_take (i := 9) (v := ?vp019) rfl (by kernel_rfl) (by kernel_rfl) (by kernel_rfl) (fun _ _ _ h => h) (Or.inl ⟨by rfl, ?hyp019⟩) hHeld ?_
          case hyp019 => (intro w hSw; have k := hne w; go_simp; try with_reducible rfl)
          simp only [Act.put, List.setIfInBounds_toArray, List.set_cons_zero, List.set_cons_succ, List.getElem_toArray, List.getElem_cons_zero, List.getElem_cons_succ]
          refine wpAnyH_take (i := 10) (v := ?vp0110) rfl (by kernel_rfl) (by kernel_rfl) (by kernel_rfl) (fun _ _ _ h => h) (Or.inl ⟨by rfl, ?hyp0110⟩) hHeld ?_
          case hyp0110 => (intro w hSw; go_simp; try with_reducible rfl)
          simp only [Act.put, List.setIfInBounds_toArray, List.set_cons_zero, List.set_cons_succ, List.getElem_toArray, List.getElem_cons_zero, List.getElem_cons_succ]
          refine wpAnyH_take (i := 11) (v := ?vp0111) rfl (by kernel_rfl) (by kernel_rfl) (by kernel_rfl) (fun _ _ _ h => h) (Or.inl ⟨by rfl, ?hyp0111⟩) hHeld ?_
          case hyp0111 => (intro w hSw; go_simp; try with_reducible rfl)
          simp only [Act.put, List.setIfInBounds_toArray, List.set_cons_zero, List.set_cons_succ, List.getElem_toArray, List.getElem_cons_zero, List.getElem_cons_succ]
          refine wpAnyH_done (by kernel_rfl) ?_ _
          refine NoPanic.normal ?_
          replace bR := xd.keeps bR
          have f0 := block_free bR 0
          have k0 := block_cell bR 0
          go_wp2_with   (first
              | ((with_reducible refine at_load 33 (.tmp 21) ?_); refine wpl_mid (by rfl) 33 (.tmp 21) rfl (G + 1) 1 (by rfl) (fr.map bc) _ hfr Tryz.underlying33 rfl hif ?_)
              | ((with_reducible refine at_load 33 (.tmp 50) ?_); refine wpl_mid (by rfl) 33 (.tmp 50) rfl (G + 1) 1 (by rfl) (fr.map bc) _ hfr Tryz.underlying33 rfl hif ?_)
              | ((with_reducible refine at_load 33 (.tmp 60) ?_); refine wpl_mid (by rfl) 33 (.tmp 60) rfl (G + 1) 1 (by rfl) (fr.map bc) _ hfr Tryz.underlying33 rfl hif ?_)
              | ((with_reducible refine at_load 33 (.tmp 26) ?_); refine wpl_mid (by rfl) 33 (.tmp 26) rfl (G + 1) 33 (by rfl) (dst.map bc) _ hto Tryz.underlying33 rfl hit ?_)
              | ((with_reducible refine at_load 33 (.tmp 45) ?_); refine wpl_mid (by rfl) 33 (.tmp 45) rfl (G + 1) 33 (by rfl) (dst.map bc) _ hto Tryz.underlying33 rfl hit ?_)
              | ((with_reducible refine at_load 33 (.tmp 97) ?_); refine wpl_mid (by rfl) 33 (.tmp 97) rfl (G + 1) 33 (by rfl) (dst.map bc) _ hto Tryz.underlying33 rfl hit ?_)
              | ((with_reducible refine at_load 33 (.tmp 103) ?_); refine wpl_mid (by rfl) 33 (.tmp 103) rfl (G + 1) 33 (by rfl) (dst.map bc) _ hto Tryz.underlying33 rfl hit ?_)
              | ((with_reducible refine at_load 33 (.tmp 6) ?_); refine wpl_load (by rfl) 33 (.tmp 6) rfl (G + 3) (by rfl) 33 (z32.map bc).toArray (0, 0) _ bZ Tryz.underlying33 rfl (id_size rfl) ?_))
          have bF := block_setCell bR (i := 0) (.slice none 0 0)
          exact bodyPost_ret (results_cell_tmp rfl _ _ (G + 2) _ _ _ _ (by rfl) bF Tryz.underlying63 rfl (info63 _)) rfl ⟨_, rfl, isR_nil _, (X.trans xd).setCell (p := ⟨G + 2, 0, none⟩) (by show w.heap.size ≤ G + 2; omega) _⟩
        rw [decide_eq_true hd] at hne
        have HD := Lib.hid hd
        clear hd
        obtain rfl : (l.take i ++ l.drop (i + 1), 0) = R := by rw [← HR.out, HPL.out]; unfold applyR; simp [hr, hn, hzf, hzt, hgt, hei0, HD.out]
        clear HR hgt
        go_wp2_with (first
            | ((with_reducible refine at_load 33 (.tmp 21) ?_); refine wpl_mid (by rfl) 33 (.tmp 21) rfl (G + 1) 1 (by rfl) (fr.map bc) _ hfr Tryz.underlying33 rfl hif ?_)
            | ((with_reducible refine at_load 33 (.tmp 50) ?_); refine wpl_mid (by rfl) 33 (.tmp 50) rfl (G + 1) 1 (by rfl) (fr.map bc) _ hfr Tryz.underlying33 rfl hif ?_)
            | ((with_reducible refine at_load 33 (.tmp 60) ?_); refine wpl_mid (by rfl) 33 (.tmp 60) rfl (G + 1) 1 (by rfl) (fr.map bc) _ hfr Tryz.underlying33 rfl hif ?_)
            | ((with_reducible refine at_load 33 (.tmp 26) ?_); refine wpl_mid (by rfl) 33 (.tmp 26) rfl (G + 1) 33 (by rfl) (dst.map bc) _ hto Tryz.underlying33 rfl hit ?_)
            | ((with_reducible refine at_load 33 (.tmp 45) ?_); refine wpl_mid (by rfl) 33 (.tmp 45) rfl (G + 1) 33 (by rfl) (dst.map bc) _ hto Tryz.underlying33 rfl hit ?_)
            | ((with_reducible refine at_load 33 (.tmp 97) ?_); refine wpl_mid (by rfl) 33 (.tmp 97) rfl (G + 1) 33 (by rfl) (dst.map bc) _ hto Tryz.underlying33 rfl hit ?_)
            | ((with_reducible refine at_load 33 (.tmp 103) ?_); refine wpl_mid (by rfl) 33 (.tmp 103) rfl (G + 1) 33 (by rfl) (dst.map bc) _ hto Tryz.underlying33 rfl hit ?_)
            | ((with_reducible refine at_load 33 (.tmp 6) ?_); refine wpl_load (by rfl) 33 (.tmp 6) rfl (G + 3) (by rfl) 33 (z32.map bc).toArray (0, 0) _ bZ Tryz.underlying33 rfl (id_size rfl) ?_))
        refine wp_region_ext (by kernel_rfl) fun wd hqd xd hHeld => ?_
        replace hri := rangeAt_ext hri xd
        replace hfr := rangeAt_ext hfr xd
        refine wpAnyH_take (i := 0) (v := ?vq010) rfl (by kernel_rfl) (by kernel_rfl) (by kernel_rfl) (fun _ _ _ h => h) (Or.inl ⟨by rfl, ?hyq010⟩) hHeld ?_
        case hyq010 => (intro w hSw; go_simp; try with_reducible rfl)
        simp only [Act.put, List.setIfInBounds_toArray, List.set_cons_zero, List.set_cons_succ, List.getElem_toArray, List.getElem_cons_zero, List.getElem_cons_succ]
        refine wpAnyH_take (i := 1) (v := ?vq011) rfl (by kernel_rfl) (by kernel_rfl) (by kernel_rfl) (fun _ _ _ h => h) (Or.inl ⟨by rfl, ?hyq011⟩) hHeld ?_
        case hyq011 => (intro w hSw; go_simp; try with_reducible rfl)
        simp only [Act.put, List.setIfInBounds_toArray, List.set_cons_zero, List.set_cons_succ, List.getElem_toArray, List.getElem_cons_zero, List.getElem_cons_succ]
        refine wpAnyH_take (i := 2) (v := ?vq012) rfl (by kernel_rfl) (by kernel_rfl) (by kernel_rfl) (fun _ _ _ h => h) (Or.inl ⟨by rfl, ?hyq012⟩) hHeld ?_
        case hyq012 => (intro w hSw; go_simp; try with_reducible rfl)
        simp only [Act.put, List.setIfInBounds_toArray, List.set_cons_zero, List.set_cons_succ, List.getElem_toArray, List.getElem_cons_zero, List.getElem_cons_succ]
        refine wpAnyH_take (i := 3) (v := ?vq013) rfl (by kernel_rfl) (by kernel_rfl) (by kernel_rfl) (fun _ _ _ h => h) (Or.inl ⟨by rfl, ?hyq013⟩) hHeld ?_
        case hyq013 => (intro w hSw; go_simp; try with_reducible rfl)
        simp only [Act.put, List.setIfInBounds_toArray, List.set_cons_zero, List.set_cons_succ, List.getElem_toArray, List.getElem_cons_zero, List.getElem_cons_succ]
        refine wpAnyH_take (i := 4) (v := ?vq014) rfl (by kernel_rfl) (by kernel_rfl) (by kernel_rfl) (fun _ _ _ h => h) (Or.inl ⟨by rfl, ?hyq014⟩) hHeld ?_
        case hyq014 => (intro w hSw; go_simp; try with_reducible rfl)
        simp only [Act.put, List.setIfInBounds_toArray, List.set_cons_zero, List.set_cons_succ, List.getElem_toArray, List.getElem_cons_zero, List.getElem_cons_succ]
        refine wpAnyH_take (i := 5) (v := ?vq015) rfl (by kernel_rfl) (by kernel_rfl) (by kernel_rfl) (fun _ _ _ h => h) (Or.inl ⟨by rfl, ?hyq015⟩) hHeld ?_
        case hyq015 => (intro w hSw; go_simp; try with_reducible rfl)
        simp only [Act.put, List.setIfInBounds_toArray, List.set_cons_zero, List.set_cons_succ, List.getElem_toArray, List.getElem_cons_zero, List.getElem_cons_succ]
        refine wpAnyH_take (i := 6) rfl (by kernel_rfl) (by kernel_rfl) (by kernel_rfl) (fun _ _ _ h => h) (yieldsIf_load_mid (by rfl) _ _ rfl _ _ rfl (ei.map bc) _ (fun w h => rangeAt_ext hri h) Tryz.underlying33 rfl hei) hHeld ?_
        simp only [Act.put, List.setIfInBounds_toArray, List.set_cons_zero, List.set_cons_succ, List.getElem_toArray, List.getElem_cons_zero, List.getElem_cons_succ]
        refine wpAnyH_take (i := 7) (v := ?vq017) rfl (by kernel_rfl) (by kernel_rfl) (by kernel_rfl) (fun _ _ _ h => h) (Or.inl ⟨by rfl, ?hyq017⟩) hHeld ?_
        case hyq017 => (intro w hSw; go_simp; try with_reducible rfl)
        simp only [Act.put, List.setIfInBounds_toArray, List.set_cons_zero, List.set_cons_succ, List.getElem_toArray, List.getElem_cons_zero, List.getElem_cons_succ]
        refine wpAnyH_take (i := 8) rfl (by kernel_rfl) (by kernel_rfl) (by kernel_rfl) (fun _ _ _ h => h) (yieldsIf_load_mid (by rfl) _ _ rfl _ _ rfl (fr.map bc) _ (fun w h => rangeAt_ext hfr h) Tryz.underlying33 rfl hif) hHeld ?_
        simp only [Act.put, List.setIfInBounds_toArray, List.set_cons_zero, List.set_cons_succ, List.getElem_toArray, List.getElem_cons_zero, List.getElem_cons_succ]
        refine wpAnyH_take (i := 9) (v := ?vq019) rfl (by kernel_rfl) (by kernel_rfl) (by kernel_rfl) (fun _ _ _ h => h) (Or.inl ⟨by rfl, ?hyq019⟩) hHeld ?_
        case hyq019 => (intro w hSw; have k := hne w; go_simp; try with_reducible rfl)
        simp only [Act.put, List.setIfInBounds_toArray, List.set_cons_zero, List.set_cons_succ, List.getElem_toArray, List.getElem_cons_zero, List.getElem_cons_succ]
        refine wpAnyH_take (i := 10) (v := ?vq0110) rfl (by kernel_rfl) (by kernel_rfl) (by kernel_rfl) (fun _ _ _ h => h) (Or.inl ⟨by rfl, ?hyq0110⟩) hHeld ?_
        case hyq0110 => (intro w hSw; go_simp; try with_reducible rfl)
        simp only [Act.put, List.setIfInBounds_toArray, List.set_cons_zero, List.set_cons_succ, List.getElem_toArray, List.getElem_cons_zero, List.getElem_cons_succ]
        refine wpAnyH_take (i := 11) (v := ?vq0111) rfl (by kernel_rfl) (by kernel_rfl) (by kernel_rfl) (fun _ _ _ h => h) (Or.inl ⟨by rfl, ?hyq0111⟩) hHeld ?_
        case hyq0111 => (intro w hSw; go_simp; try with_reducible rfl)
        simp only [Act.put, List.setIfInBounds_toArray, List.set_cons_zero, List.set_cons_succ, List.getElem_toArray, List.getElem_cons_zero, List.getElem_cons_succ]
        refine wpAnyH_done (by kernel_rfl) ?_ _
        refine NoPanic.normal ?_
        replace c2 := xd.cell c2
        replace cM := xd.cell cM
        replace hto := rangeAt_ext hto xd
        replace bR := xd.keeps bR
        replace bZ := xd.keeps bZ
        replace X := X.trans xd
        have own7 := ownsRow_ext OWN.out xd
        have hbs : B ≤ wd.heap.size := by have := xd.size; have := x2.size; omega
        have q9 : IntKind.i64.wrap ((i : Int) + 1) = (i : Int) + 1 := by rw [IntKind.wrap_i64]; omega
        go_wp2_with (first
            | ((with_reducible refine at_load 33 (.tmp 21) ?_); refine wpl_mid (by rfl) 33 (.tmp 21) rfl (G + 1) 1 (by rfl) (fr.map bc) _ hfr Tryz.underlying33 rfl hif ?_)
            | ((with_reducible refine at_load 33 (.tmp 50) ?_); refine wpl_mid (by rfl) 33 (.tmp 50) rfl (G + 1) 1 (by rfl) (fr.map bc) _ hfr Tryz.underlying33 rfl hif ?_)
            | ((with_reducible refine at_load 33 (.tmp 60) ?_); refine wpl_mid (by rfl) 33 (.tmp 60) rfl (G + 1) 1 (by rfl) (fr.map bc) _ hfr Tryz.underlying33 rfl hif ?_)
            | ((with_reducible refine at_load 33 (.tmp 26) ?_); refine wpl_mid (by rfl) 33 (.tmp 26) rfl (G + 1) 33 (by rfl) (dst.map bc) _ hto Tryz.underlying33 rfl hit ?_)
            | ((with_reducible refine at_load 33 (.tmp 45) ?_); refine wpl_mid (by rfl) 33 (.tmp 45) rfl (G + 1) 33 (by rfl) (dst.map bc) _ hto Tryz.underlying33 rfl hit ?_)
            | ((with_reducible refine at_load 33 (.tmp 97) ?_); refine wpl_mid (by rfl) 33 (.tmp 97) rfl (G + 1) 33 (by rfl) (dst.map bc) _ hto Tryz.underlying33 rfl hit ?_)
            | ((with_reducible refine at_load 33 (.tmp 103) ?_); refine wpl_mid (by rfl) 33 (.tmp 103) rfl (G + 1) 33 (by rfl) (dst.map bc) _ hto Tryz.underlying33 rfl hit ?_)
            | ((with_reducible refine at_load 33 (.tmp 6) ?_); refine wpl_load (by rfl) 33 (.tmp 6) rfl (G + 3) (by rfl) 33 (z32.map bc).toArray (0, 0) _ bZ Tryz.underlying33 rfl (id_size rfl) ?_))
        refine Calls.mono (delRf _ B _ l.length _ own7 hbs i hil (by omega) (rfC_one l)) ?_
        rintro e w8 ⟨v3, rfl, own3, gr3⟩
        obtain ⟨a3, c3, rfl⟩ := ownSh own3
        have bR8 := grown_keep gr3 bR (own_ne own7 (Or.inl (by omega)))
        replace X := own_base own7 gr3 X (by omega)
        have f0 := block_free bR8 0
        have k0 := block_cell bR8 0
        rw [flat_take l i HOK.out, flat_drop l (i + 1) HOK.out, ← List.flatMap_append] at own3
        have hln : (l.take i ++ l.drop (i + 1)).length = l.length - 1 := by simp; omega
        have hoks : ∀ e ∈ l.take i ++ l.drop (i + 1), RfOk e := fun e he => by
          rcases List.mem_append.1 he with h | h
          · exact HOK.out e (List.mem_of_mem_take h)
          · exact HOK.out e (List.mem_of_mem_drop h)
        go_wp2_with fail
        have bF := block_setCell bR8 (i := 0) (.slice a3 (l.length - 1) c3)
        exact bodyPost_ret (results_cell_tmp rfl _ _ (G + 2) _ _ _ _ (by rfl) bF Tryz.underlying63 rfl (info63 _)) rfl ⟨_, rfl, isR_own (ownsRow_grown own3 (grown_setCell _ (G + 2) 0 _) (own_ne own3 (Or.inl (by omega)))) hln hoks, X.setCell (p := ⟨G + 2, 0, none⟩) (by show w.heap.size ≤ G + 2; omega) _⟩
    | false =>
      rw [show decide (dst = z32) = false from hzt] at etz
      go_wp2_with (first
          | ((with_reducible refine at_load 33 (.tmp 21) ?_); refine wpl_mid (by rfl) 33 (.tmp 21) rfl (G + 1) 1 (by rfl) (fr.map bc) _ hfr Tryz.underlying33 rfl hif ?_)
          | ((with_reducible refine at_load 33 (.tmp 50) ?_); refine wpl_mid (by rfl) 33 (.tmp 50) rfl (G + 1) 1 (by rfl) (fr.map bc) _ hfr Tryz.underlying33 rfl hif ?_)
          | ((with_reducible refine at_load 33 (.tmp 60) ?_); refine wpl_mid (by rfl) 33 (.tmp 60) rfl (G + 1) 1 (by rfl) (fr.map bc) _ hfr Tryz.underlying33 rfl hif ?_)
          | ((with_reducible refine at_load 33 (.tmp 26) ?_); refine wpl_mid (by rfl) 33 (.tmp 26) rfl (G + 1) 33 (by rfl) (dst.map bc) _ hto Tryz.underlying33 rfl hit ?_)
          | ((with_reducible refine at_load 33 (.tmp 45) ?_); refine wpl_mid (by rfl) 33 (.tmp 45) rfl (G + 1) 33 (by rfl) (dst.map bc) _ hto Tryz.underlying33 rfl hit ?_)
          | ((with_reducible refine at_load 33 (.tmp 97) ?_); refine wpl_mid (by rfl) 33 (.tmp 97) rfl (G + 1) 33 (by rfl) (dst.map bc) _ hto Tryz.underlying33 rfl hit ?_)
          | ((with_reducible refine at_load 33 (.tmp 103) ?_); refine wpl_mid (by rfl) 33 (.tmp 103) rfl (G + 1) 33 (by rfl) (dst.map bc) _ hto Tryz.underlying33 rfl hit ?_)
          | ((with_reducible refine at_load 33 (.tmp 6) ?_); refine wpl_load (by rfl) 33 (.tmp 6) rfl (G + 3) (by rfl) 33 (z32.map bc).toArray (0, 0) _ bZ Tryz.underlying33 rfl (id_size rfl) ?_))
      refine Calls.mono (refsFind _ _ l HF nm HS.out (by omega)) ?_
      rintro e w4 ⟨i, hi, rfl, y⟩
      replace c2 := y.cell c2
      replace cM := y.cell cM
      replace hfr := rangeAt_ext hfr y
      replace hto := rangeAt_ext hto y
      replace bR := y.keeps bR
      replace bZ := y.keeps bZ
      replace X := X.trans y
      replace HF := HF.ext y
      clear y
      obtain ⟨q1, q2⟩ := hit_hasR HS.out hi
      have hile := hi.le
      have HPL := Lib.hid (plc_is hi)
      clear hi
      go_wp2_with (first
          | ((with_reducible refine at_load 33 (.tmp 21) ?_); refine wpl_mid (by rfl) 33 (.tmp 21) rfl (G + 1) 1 (by rfl) (fr.map bc) _ hfr Tryz.underlying33 rfl hif ?_)
          | ((with_reducible refine at_load 33 (.tmp 50) ?_); refine wpl_mid (by rfl) 33 (.tmp 50) rfl (G + 1) 1 (by rfl) (fr.map bc) _ hfr Tryz.underlying33 rfl hif ?_)
          | ((with_reducible refine at_load 33 (.tmp 60) ?_); refine wpl_mid (by rfl) 33 (.tmp 60) rfl (G + 1) 1 (by rfl) (fr.map bc) _ hfr Tryz.underlying33 rfl hif ?_)
          | ((with_reducible refine at_load 33 (.tmp 26) ?_); refine wpl_mid (by rfl) 33 (.tmp 26) rfl (G + 1) 33 (by rfl) (dst.map bc) _ hto Tryz.underlying33 rfl hit ?_)
          | ((with_reducible refine at_load 33 (.tmp 45) ?_); refine wpl_mid (by rfl) 33 (.tmp 45) rfl (G + 1) 33 (by rfl) (dst.map bc) _ hto Tryz.underlying33 rfl hit ?_)
          | ((with_reducible refine at_load 33 (.tmp 97) ?_); refine wpl_mid (by rfl) 33 (.tmp 97) rfl (G + 1) 33 (by rfl) (dst.map bc) _ hto Tryz.underlying33 rfl hit ?_)
          | ((with_reducible refine at_load 33 (.tmp 103) ?_); refine wpl_mid (by rfl) 33 (.tmp 103) rfl (G + 1) 33 (by rfl) (dst.map bc) _ hto Tryz.underlying33 rfl hit ?_)
          | ((with_reducible refine at_load 33 (.tmp 6) ?_); refine wpl_load (by rfl) 33 (.tmp 6) rfl (G + 3) (by rfl) 33 (z32.map bc).toArray (0, 0) _ bZ Tryz.underlying33 rfl (id_size rfl) ?_))
      refine Calls.mono (cloneR _ _ l HF (by omega)) ?_
      rintro e w6 ⟨v2, rfl, own2, x2⟩
      have hB : G + 4 ≤ w4.heap.size := block_lt bZ
      generalize hBB : w4.heap.size = B at *
      replace c2 := x2.cell c2
      replace cM := x2.cell cM
      replace hfr := rangeAt_ext hfr x2
      replace hto := rangeAt_ext hto x2
      replace bR := x2.keeps bR
      replace bZ := x2.keeps bZ
      replace X := X.trans x2
      obtain ⟨a2, cp2, rfl⟩ := ownSh own2
      cases hh : hitR l nm i with
      | false =>
        have hgt := q2 hh
        clear q1 q2
        obtain rfl : ([], 4) = R := by rw [← HR.out]; unfold applyR; simp [hr, hn, hzf, hzt, hgt]
        have f0 := block_free bR 0
        have k0 := block_cell bR 0
        clear HR
        go_wp2_with (first
            | ((with_reducible refine at_load 33 (.tmp 21) ?_); refine wpl_mid (by rfl) 33 (.tmp 21) rfl (G + 1) 1 (by rfl) (fr.map bc) _ hfr Tryz.underlying33 rfl hif ?_)
            | ((with_reducible refine at_load 33 (.tmp 50) ?_); refine wpl_mid (by rfl) 33 (.tmp 50) rfl (G + 1) 1 (by rfl) (fr.map bc) _ hfr Tryz.underlying33 rfl hif ?_)
            | ((with_reducible refine at_load 33 (.tmp 60) ?_); refine wpl_mid (by rfl) 33 (.tmp 60) rfl (G + 1) 1 (by rfl) (fr.map bc) _ hfr Tryz.underlying33 rfl hif ?_)
            | ((with_reducible refine at_load 33 (.tmp 26) ?_); refine wpl_mid (by rfl) 33 (.tmp 26) rfl (G + 1) 33 (by rfl) (dst.map bc) _ hto Tryz.underlying33 rfl hit ?_)
            | ((with_reducible refine at_load 33 (.tmp 45) ?_); refine wpl_mid (by rfl) 33 (.tmp 45) rfl (G + 1) 33 (by rfl) (dst.map bc) _ hto Tryz.underlying33 rfl hit ?_)
            | ((with_reducible refine at_load 33 (.tmp 97) ?_); refine wpl_mid (by rfl) 33 (.tmp 97) rfl (G + 1) 33 (by rfl) (dst.map bc) _ hto Tryz.underlying33 rfl hit ?_)
            | ((with_reducible refine at_load 33 (.tmp 103) ?_); refine wpl_mid (by rfl) 33 (.tmp 103) rfl (G + 1) 33 (by rfl) (dst.map bc) _ hto Tryz.underlying33 rfl hit ?_)
            | ((with_reducible refine at_load 33 (.tmp 6) ?_); refine wpl_load (by rfl) 33 (.tmp 6) rfl (G + 3) (by rfl) 33 (z32.map bc).toArray (0, 0) _ bZ Tryz.underlying33 rfl (id_size rfl) ?_))
        have bF := block_setCell bR (i := 0) (.slice none 0 0)
        exact bodyPost_ret (results_cell_tmp rfl _ _ (G + 2) _ _ _ _ (by rfl) bF Tryz.underlying63 rfl (info63 _)) rfl ⟨_, rfl, isR_nil _, X.setCell (p := ⟨G + 2, 0, none⟩) (by show w.heap.size ≤ G + 2; omega) _⟩
      | true =>
        obtain ⟨hil, hgt, hnm⟩ := q1 hh
        clear q1 q2
        obtain ⟨g, cap, e0, hnc, hcm, hbg, hth, hri, owns⟩ := own_set own2 rfl HOK.out i hil dst hdl
        simp only [Value.slice.injEq, true_and] at e0
        obtain ⟨rfl, rfl⟩ := e0
        have hel := (HOK.out _ (List.getElem_mem hil)).1
        rw [hnm] at owns
        obtain ⟨ei, hei0⟩ : ∃ ei, l[i].id = ei := ⟨_, rfl⟩
        rw [hei0] at hri hel
        have hei : (Tryz.prog.info? 33).map (·.size) = some (ei.map bc).length := by simpa using id_size hel
        have hne := fun w => neq_id w ei fr hel hfl
        have i0 : (0 : Int) ≤ (i : Int) := Int.natCast_nonneg _
        have i1 : (i : Int) < (l.length : Int) := by omega
        have OWN := Lib.hid own2
        have OWNS := Lib.hid owns
        have HTH := Lib.hid hth
        clear own2 owns hth
        by_cases hd : ei = fr
        rotate_left
        · rw [decide_eq_false hd] at hne
          obtain rfl : ([], 191) = R := by rw [← HR.out]; unfold applyR; simp [hr, hn, hzf, hzt, hgt, hei0, hd]
          clear HR hgt
          go_wp2_with   (first
              | ((with_reducible refine at_load 33 (.tmp 21) ?_); refine wpl_mid (by rfl) 33 (.tmp 21) rfl (G + 1) 1 (by rfl) (fr.map bc) _ hfr Tryz.underlying33 rfl hif ?_)
              | ((with_reducible refine at_load 33 (.tmp 50) ?_); refine wpl_mid (by rfl) 33 (.tmp 50) rfl (G + 1) 1 (by rfl) (fr.map bc) _ hfr Tryz.underlying33 rfl hif ?_)
              | ((with_reducible refine at_load 33 (.tmp 60) ?_); refine wpl_mid (by rfl) 33 (.tmp 60) rfl (G + 1) 1 (by rfl) (fr.map bc) _ hfr Tryz.underlying33 rfl hif ?_)
              | ((with_reducible refine at_load 33 (.tmp 26) ?_); refine wpl_mid (by rfl) 33 (.tmp 26) rfl (G + 1) 33 (by rfl) (dst.map bc) _ hto Tryz.underlying33 rfl hit ?_)
              | ((with_reducible refine at_load 33 (.tmp 45) ?_); refine wpl_mid (by rfl) 33 (.tmp 45) rfl (G + 1) 33 (by rfl) (dst.map bc) _ hto Tryz.underlying33 rfl hit ?_)
              | ((with_reducible refine at_load 33 (.tmp 97) ?_); refine wpl_mid (by rfl) 33 (.tmp 97) rfl (G + 1) 33 (by rfl) (dst.map bc) _ hto Tryz.underlying33 rfl hit ?_)
              | ((with_reducible refine at_load 33 (.tmp 103) ?_); refine wpl_mid (by rfl) 33 (.tmp 103) rfl (G + 1) 33 (by rfl) (dst.map bc) _ hto Tryz.underlying33 rfl hit ?_)
              | ((with_reducible refine at_load 33 (.tmp 6) ?_); refine wpl_load (by rfl) 33 (.tmp 6) rfl (G + 3) (by rfl) 33 (z32.map bc).toArray (0, 0) _ bZ Tryz.underlying33 rfl (id_size rfl) ?_))
          refine wp_region_ext (by kernel_rfl) fun wd hqd xd hHeld => ?_
          replace hri := rangeAt_ext hri xd
          replace hfr := rangeAt_ext hfr xd
          refine wpAnyH_take (i := 0) (v := ?vp000) rfl (by kernel_rfl) (by kernel_rfl) (by kernel_rfl) (fun _ _ _ h => h) (Or.inl ⟨by rfl, ?hyp000⟩) hHeld ?_
          case hyp000 => (intro w hSw; go_simp; try with_reducible rfl)
          simp only [Act.put, List.setIfInBounds_toArray, List.set_cons_zero, List.set_cons_succ, List.getElem_toArray, List.getElem_cons_zero, List.getElem_cons_succ]
          refine wpAnyH_take (i := 1) (v := ?vp001) rfl (by kernel_rfl) (by kernel_rfl) (by kernel_rfl) (fun _ _ _ h => h) (Or.inl ⟨by rfl, ?hyp001⟩) hHeld ?_
          case hyp001 => (intro w hSw; go_simp; try with_reducible rfl)
          simp only [Act.put, List.setIfInBounds_toArray, List.set_cons_zero, List.set_cons_succ, List.getElem_toArray, List.getElem_cons_zero, List.getElem_cons_succ]
          refine wpAnyH_take (i := 2) (v := ?vp002) rfl (by kernel_rfl) (by kernel_rfl) (by kernel_rfl) (fun _ _ _ h => h) (Or.inl ⟨by rfl, ?hyp002⟩) hHeld ?_
          case hyp002 => (intro w hSw; go_simp; try with_reducible rfl)
          simp only [Act.put, List.setIfInBounds_toArray, List.set_cons_zero, List.set_cons_succ, List.getElem_toArray, List.getElem_cons_zero, List.getElem_cons_succ]
          refine wpAnyH_take (i := 3) (v := ?vp003) rfl (by kernel_rfl) (by kernel_rfl) (by kernel_rfl) (fun _ _ _ h => h) (Or.inl ⟨by rfl, ?hyp003⟩) hHeld ?_
          case hyp003 => (intro w hSw; go_simp; try with_reducible rfl)
          simp only [Act.put, List.setIfInBounds_toArray, List.set_cons_zero, List.set_cons_succ, List.getElem_toArray, List.getElem_cons_zero, List.getElem_cons_succ]
          refine wpAnyH_take (i := 4) (v := ?vp004) rfl (by kernel_rfl) (by kernel_rfl) (by kernel_rfl) (fun _ _ _ h => h) (Or.inl ⟨by rfl, ?hyp004⟩) hHeld ?_
          case hyp004 => (intro w hSw; go_simp; try with_reducible rfl)
          simp only [Act.put, List.setIfInBounds_toArray, List.set_cons_zero, List.set_cons_succ, List.getElem_toArray, List.getElem_cons_zero, List.getElem_cons_succ]
          refine wpAnyH_take (i := 5) (v := ?vp005) rfl (by kernel_rfl) (by kernel_rfl) (by kernel_rfl) (fun _ _ _ h => h) (Or.inl ⟨by rfl, ?hyp005⟩) hHeld ?_
          case hyp005 => (intro w hSw; go_simp; try with_reducible rfl)
          simp only [Act.put, List.setIfInBounds_toArray, List.set_cons_zero, List.set_cons_succ, List.getElem_toArray, List.getElem_cons_zero, List.getElem_cons_succ]
          refine wpAnyH_take (i := 6) rfl (by kernel_rfl) (by kernel_rfl) (by kernel_rfl) (fun _ _ _ h => h) (yieldsIf_load_mid (by rfl) _ _ rfl _ _ rfl (ei.map bc) _ (fun w h => rangeAt_ext hri h) Tryz.underlying33 rfl hei) hHeld ?_
          simp only [Act.put, List.setIfInBounds_toArray, List.set_cons_zero, List.set_cons_succ, List.getElem_toArray, List.getElem_cons_zero, List.getElem_cons_succ]
          refine wpAnyH_take (i := 7) (v := ?vp007) rfl (by kernel_rfl) (by kernel_rfl) (by kernel_rfl) (fun _ _ _ h => h) (Or.inl ⟨by rfl, ?hyp007⟩) hHeld ?_
          case hyp007 => (intro w hSw; go_simp; try with_reducible rfl)
          simp only [Act.put, List.setIfInBounds_toArray, List.set_cons_zero, List.set_cons_succ, List.getElem_toArray, List.getElem_cons_zero, List.getElem_cons_succ]
          refine wpAnyH_take (i := 8) rfl (by kernel_rfl) (by kernel_rfl) (by kernel_rfl) (fun _ _ _ h => h) (yieldsIf_load_mid (by rfl) _ _ rfl _ _ rfl (fr.map bc) _ (fun w h => rangeAt_ext hfr h) Tryz.underlying33 rfl hif) hHeld ?_
          simp only [Act.put, List.setIfInBounds_toArray, List.set_cons_zero, List.set_cons_succ, List.getElem_toArray, List.getElem_cons_zero, List.getElem_cons_succ]
          refine wpAnyH_take (i := 9) (v := ?vp009) rfl (by kernel_rfl) (by kernel_rfl) (by kernel_rfl) (fun _ _ _ h => h) (Or.inl ⟨by rfl, ?hyp009⟩) hHeld ?_
          case hyp009 => (intro w hSw; have k := hne w; go_simp; try with_reducible rfl)
          simp only [Act.put, List.setIfInBounds_toArray, List.set_cons_zero, List.set_cons_succ, List.getElem_toArray, List.getElem_cons_zero, List.getElem_cons_succ]
          refine wpAnyH_take (i := 10) (v := ?vp0010) rfl (by kernel_rfl) (by kernel_rfl) (by kernel_rfl) (fun _ _ _ h => h) (Or.inl ⟨by rfl, ?hyp0010⟩) hHeld ?_
          case hyp0010 => (intro w hSw; go_simp; try with_reducible rfl)
          simp only [Act.put, List.setIfInBounds_toArray, List.set_cons_zero, List.set_cons_succ, List.getElem_toArray, List.getElem_cons_zero, List.getElem_cons_succ]
          refine wpAnyH_take (i := 11) (v := ?vp0011) rfl (by kernel_rfl) (by kernel_rfl) (by kernel_rfl) (fun _ _ _ h => h) (Or.inl ⟨by rfl, ?hyp0011⟩) hHeld ?_
          case hyp0011 => (intro w hSw; go_simp; try with_reducible rfl)
          simp only [Act.put, List.setIfInBounds_toArray, List.set_cons_zero, List.set_cons_succ, List.getElem_toArray, List.getElem_cons_zero, List.getElem_cons_succ]
          refine wpAnyH_done (by kernel_rfl) ?_ _
          refine NoPanic.normal ?_
          replace bR := xd.keeps bR
          have f0 := block_free bR 0
          have k0 := block_cell bR 0
          go_wp2_with   (first
              | ((with_reducible refine at_load 33 (.tmp 21) ?_); refine wpl_mid (by rfl) 33 (.tmp 21) rfl (G + 1) 1 (by rfl) (fr.map bc) _ hfr Tryz.underlying33 rfl hif ?_)
              | ((with_reducible refine at_load 33 (.tmp 50) ?_); refine wpl_mid (by rfl) 33 (.tmp 50) rfl (G + 1) 1 (by rfl) (fr.map bc) _ hfr Tryz.underlying33 rfl hif ?_)
              | ((with_reducible refine at_load 33 (.tmp 60) ?_); refine wpl_mid (by rfl) 33 (.tmp 60) rfl (G + 1) 1 (by rfl) (fr.map bc) _ hfr Tryz.underlying33 rfl hif ?_)
              | ((with_reducible refine at_load 33 (.tmp 26) ?_); refine wpl_mid (by rfl) 33 (.tmp 26) rfl (G + 1) 33 (by rfl) (dst.map bc) _ hto Tryz.underlying33 rfl hit ?_)
              | ((with_reducible refine at_load 33 (.tmp 45) ?_); refine wpl_mid (by rfl) 33 (.tmp 45) rfl (G + 1) 33 (by rfl) (dst.map bc) _ hto Tryz.underlying33 rfl hit ?_)
              | ((with_reducible refine at_load 33 (.tmp 97) ?_); refine wpl_mid (by rfl) 33 (.tmp 97) rfl (G + 1) 33 (by rfl) (dst.map bc) _ hto Tryz.underlying33 rfl hit ?_)
              | ((with_reducible refine at_load 33 (.tmp 103) ?_); refine wpl_mid (by rfl) 33 (.tmp 103) rfl (G + 1) 33 (by rfl) (dst.map bc) _ hto Tryz.underlying33 rfl hit ?_)
              | ((with_reducible refine at_load 33 (.tmp 6) ?_); refine wpl_load (by rfl) 33 (.tmp 6) rfl (G + 3) (by rfl) 33 (z32.map bc).toArray (0, 0) _ bZ Tryz.underlying33 rfl (id_size rfl) ?_))
          have bF := block_setCell bR (i := 0) (.slice none 0 0)
          exact bodyPost_ret (results_cell_tmp rfl _ _ (G + 2) _ _ _ _ (by rfl) bF Tryz.underlying63 rfl (info63 _)) rfl ⟨_, rfl, isR_nil _, (X.trans xd).setCell (p := ⟨G + 2, 0, none⟩) (by show w.heap.size ≤ G + 2; omega) _⟩
        rw [decide_eq_true hd] at hne
        have HD := Lib.hid hd
        clear hd
        obtain rfl : (l.take i ++ ⟨nm, dst⟩ :: l.drop (i + 1), 0) = R := by rw [← HR.out, HPL.out]; unfold applyR; simp [hr, hn, hzf, hzt, hgt, hei0, HD.out]
        have hE : RfOk ⟨nm, dst⟩ := ⟨hdl, hnl⟩
        clear HR hgt
        go_wp2_with (first
            | ((with_reducible refine at_load 33 (.tmp 21) ?_); refine wpl_mid (by rfl) 33 (.tmp 21) rfl (G + 1) 1 (by rfl) (fr.map bc) _ hfr Tryz.underlying33 rfl hif ?_)
            | ((with_reducible refine at_load 33 (.tmp 50) ?_); refine wpl_mid (by rfl) 33 (.tmp 50) rfl (G + 1) 1 (by rfl) (fr.map bc) _ hfr Tryz.underlying33 rfl hif ?_)
            | ((with_reducible refine at_load 33 (.tmp 60) ?_); refine wpl_mid (by rfl) 33 (.tmp 60) rfl (G + 1) 1 (by rfl) (fr.map bc) _ hfr Tryz.underlying33 rfl hif ?_)
            | ((with_reducible refine at_load 33 (.tmp 26) ?_); refine wpl_mid (by rfl) 33 (.tmp 26) rfl (G + 1) 33 (by rfl) (dst.map bc) _ hto Tryz.underlying33 rfl hit ?_)
            | ((with_reducible refine at_load 33 (.tmp 45) ?_); refine wpl_mid (by rfl) 33 (.tmp 45) rfl (G + 1) 33 (by rfl) (dst.map bc) _ hto Tryz.underlying33 rfl hit ?_)
            | ((with_reducible refine at_load 33 (.tmp 97) ?_); refine wpl_mid (by rfl) 33 (.tmp 97) rfl (G + 1) 33 (by rfl) (dst.map bc) _ hto Tryz.underlying33 rfl hit ?_)
            | ((with_reducible refine at_load 33 (.tmp 103) ?_); refine wpl_mid (by rfl) 33 (.tmp 103) rfl (G + 1) 33 (by rfl) (dst.map bc) _ hto Tryz.underlying33 rfl hit ?_)
            | ((with_reducible refine at_load 33 (.tmp 6) ?_); refine wpl_load (by rfl) 33 (.tmp 6) rfl (G + 3) (by rfl) 33 (z32.map bc).toArray (0, 0) _ bZ Tryz.underlying33 rfl (id_size rfl) ?_))
        refine wp_region_ext (by kernel_rfl) fun wd hqd xd hHeld => ?_
        replace hri := rangeAt_ext hri xd
        replace hfr := rangeAt_ext hfr xd
        refine wpAnyH_take (i := 0) (v := ?vq000) rfl (by kernel_rfl) (by kernel_rfl) (by kernel_rfl) (fun _ _ _ h => h) (Or.inl ⟨by rfl, ?hyq000⟩) hHeld ?_
        case hyq000 => (intro w hSw; go_simp; try with_reducible rfl)
        simp only [Act.put, List.setIfInBounds_toArray, List.set_cons_zero, List.set_cons_succ, List.getElem_toArray, List.getElem_cons_zero, List.getElem_cons_succ]
        refine wpAnyH_take (i := 1) (v := ?vq001) rfl (by kernel_rfl) (by kernel_rfl) (by kernel_rfl) (fun _ _ _ h => h) (Or.inl ⟨by rfl, ?hyq001⟩) hHeld ?_
        case hyq001 => (intro w hSw; go_simp; try with_reducible rfl)
        simp only [Act.put, List.setIfInBounds_toArray, List.set_cons_zero, List.set_cons_succ, List.getElem_toArray, List.getElem_cons_zero, List.getElem_cons_succ]
        refine wpAnyH_take (i := 2) (v := ?vq002) rfl (by kernel_rfl) (by kernel_rfl) (by kernel_rfl) (fun _ _ _ h => h) (Or.inl ⟨by rfl, ?hyq002⟩) hHeld ?_
        case hyq002 => (intro w hSw; go_simp; try with_reducible rfl)
        simp only [Act.put, List.setIfInBounds_toArray, List.set_cons_zero, List.set_cons_succ, List.getElem_toArray, List.getElem_cons_zero, List.getElem_cons_succ]
        refine wpAnyH_take (i := 3) (v := ?vq003) rfl (by kernel_rfl) (by kernel_rfl) (by kernel_rfl) (fun _ _ _ h => h) (Or.inl ⟨by rfl, ?hyq003⟩) hHeld ?_
        case hyq003 => (intro w hSw; go_simp; try with_reducible rfl)
        simp only [Act.put, List.setIfInBounds_toArray, List.set_cons_zero, List.set_cons_succ, List.getElem_toArray, List.getElem_cons_zero, List.getElem_cons_succ]
        refine wpAnyH_take (i := 4) (v := ?vq004) rfl (by kernel_rfl) (by kernel_rfl) (by kernel_rfl) (fun _ _ _ h => h) (Or.inl ⟨by rfl, ?hyq004⟩) hHeld ?_
        case hyq004 => (intro w hSw; go_simp; try with_reducible rfl)
        simp only [Act.put, List.setIfInBounds_toArray, List.set_cons_zero, List.set_cons_succ, List.getElem_toArray, List.getElem_cons_zero, List.getElem_cons_succ]
        refine wpAnyH_take (i := 5) (v := ?vq005) rfl (by kernel_rfl) (by kernel_rfl) (by kernel_rfl) (fun _ _ _ h => h) (Or.inl ⟨by rfl, ?hyq005⟩) hHeld ?_
        case hyq005 => (intro w hSw; go_simp; try with_reducible rfl)
        simp only [Act.put, List.setIfInBounds_toArray, List.set_cons_zero, List.set_cons_succ, List.getElem_toArray, List.getElem_cons_zero, List.getElem_cons_succ]
        refine wpAnyH_take (i := 6) rfl (by kernel_rfl) (by kernel_rfl) (by kernel_rfl) (fun _ _ _ h => h) (yieldsIf_load_mid (by rfl) _ _ rfl _ _ rfl (ei.map bc) _ (fun w h => rangeAt_ext hri h) Tryz.underlying33 rfl hei) hHeld ?_
        simp only [Act.put, List.setIfInBounds_toArray, List.set_cons_zero, List.set_cons_succ, List.getElem_toArray, List.getElem_cons_zero, List.getElem_cons_succ]
        refine wpAnyH_take (i := 7) (v := ?vq007) rfl (by kernel_rfl) (by kernel_rfl) (by kernel_rfl) (fun _ _ _ h => h) (Or.inl ⟨by rfl, ?hyq007⟩) hHeld ?_
        case hyq007 => (intro w hSw; go_simp; try with_reducible rfl)
        simp only [Act.put, List.setIfInBounds_toArray, List.set_cons_zero, List.set_cons_succ, List.getElem_toArray, List.getElem_cons_zero, List.getElem_cons_succ]
        refine wpAnyH_take (i := 8) rfl (by kernel_rfl) (by kernel_rfl) (by kernel_rfl) (fun _ _ _ h => h) (yieldsIf_load_mid (by rfl) _ _ rfl _ _ rfl (fr.map bc) _ (fun w h => rangeAt_ext hfr h) Tryz.underlying33 rfl hif) hHeld ?_
        simp only [Act.put, List.setIfInBounds_toArray, List.set_cons_zero, List.set_cons_succ, List.getElem_toArray, List.getElem_cons_zero, List.getElem_cons_succ]
        refine wpAnyH_take (i := 9) (v := ?vq009) rfl (by kernel_rfl) (by kernel_rfl) (by kernel_rfl) (fun _ _ _ h => h) (Or.inl ⟨by rfl, ?hyq009⟩) hHeld ?_
        case hyq009 => (intro w hSw; have k := hne w; go_simp; try with_reducible rfl)
        simp only [Act.put, List.setIfInBounds_toArray, List.set_cons_zero, List.set_cons_succ, List.getElem_toArray, List.getElem_cons_zero, List.getElem_cons_succ]
        refine wpAnyH_take (i := 10) (v := ?vq0010) rfl (by kernel_rfl) (by kernel_rfl) (by kernel_rfl) (fun _ _ _ h => h) (Or.inl ⟨by rfl, ?hyq0010⟩) hHeld ?_
        case hyq0010 => (intro w hSw; go_simp; try with_reducible rfl)
        simp only [Act.put, List.setIfInBounds_toArray, List.set_cons_zero, List.set_cons_succ, List.getElem_toArray, List.getElem_cons_zero, List.getElem_cons_succ]
        refine wpAnyH_take (i := 11) (v := ?vq0011) rfl (by kernel_rfl) (by kernel_rfl) (by kernel_rfl) (fun _ _ _ h => h) (Or.inl ⟨by rfl, ?hyq0011⟩) hHeld ?_
        case hyq0011 => (intro w hSw; go_simp; try with_reducible rfl)
        simp only [Act.put, List.setIfInBounds_toArray, List.set_cons_zero, List.set_cons_succ, List.getElem_toArray, List.getElem_cons_zero, List.getElem_cons_succ]
        refine wpAnyH_done (by kernel_rfl) ?_ _
        refine NoPanic.normal ?_
        replace c2 := xd.cell c2
        replace cM := xd.cell cM
        replace hto := rangeAt_ext hto xd
        replace bR := xd.keeps bR
        replace bZ := xd.keeps bZ
        replace X := X.trans xd
        obtain ⟨g', cap', e', -, -, -, hth, -, owns⟩ := own_set (ownsRow_ext OWN.out xd) rfl HOK.out i hil dst hdl
        simp only [Value.slice.injEq, Option.some.injEq, Addr.mk.injEq, and_true, true_and] at e'
        obtain ⟨rfl, rfl⟩ := e'
        rw [hnm] at owns
        have hsc : (z32.map bc).length = 32 := rfl
        have bR8 := grown_other (grown_setCells g (dst.map bc) (i * 33 + 1) wd) bR (by omega)
        have X8 := X.grown (grown_setCells g (dst.map bc) (i * 33 + 1) wd) (fun k hk => by simp at hk; omega)
        have f0 := block_free bR8 0
        have k0 := block_cell bR8 0
        have hln : (l.take i ++ (⟨nm, dst⟩ : Rf) :: l.drop (i + 1)).length = l.length := by simp; omega
        have hoks : ∀ e ∈ l.take i ++ (⟨nm, dst⟩ : Rf) :: l.drop (i + 1), RfOk e := fun e he => by
          rcases List.mem_append.1 he with h | h
          · exact HOK.out e (List.mem_of_mem_take h)
          · rcases List.mem_cons.1 h with rfl | h
            · exact hE
            · exact HOK.out e (List.mem_of_mem_drop h)
        go_wp2_with (first
            | ((with_reducible refine at_store 33 (.tmp 48) (.tmp 46) ?_); refine wpl_storeMid (by rfl) 33 (.tmp 48) (.tmp 46) rfl g (i * 33 + 1) (dst.map bc).toArray (by rfl) (by rfl) (by simpa [hdl] using hth) (id_size hdl) (id_one _) ?_; simp only [List.toList_toArray]; generalize wd.setCells g (i * 33 + 1) (dst.map bc) = w8 at *)
            | ((with_reducible refine at_load 33 (.tmp 21) ?_); refine wpl_mid (by rfl) 33 (.tmp 21) rfl (G + 1) 1 (by rfl) (fr.map bc) _ hfr Tryz.underlying33 rfl hif ?_)
            | ((with_reducible refine at_load 33 (.tmp 50) ?_); refine wpl_mid (by rfl) 33 (.tmp 50) rfl (G + 1) 1 (by rfl) (fr.map bc) _ hfr Tryz.underlying33 rfl hif ?_)
            | ((with_reducible refine at_load 33 (.tmp 60) ?_); refine wpl_mid (by rfl) 33 (.tmp 60) rfl (G + 1) 1 (by rfl) (fr.map bc) _ hfr Tryz.underlying33 rfl hif ?_)
            | ((with_reducible refine at_load 33 (.tmp 26) ?_); refine wpl_mid (by rfl) 33 (.tmp 26) rfl (G + 1) 33 (by rfl) (dst.map bc) _ hto Tryz.underlying33 rfl hit ?_)
            | ((with_reducible refine at_load 33 (.tmp 45) ?_); refine wpl_mid (by rfl) 33 (.tmp 45) rfl (G + 1) 33 (by rfl) (dst.map bc) _ hto Tryz.underlying33 rfl hit ?_)
            | ((with_reducible refine at_load 33 (.tmp 97) ?_); refine wpl_mid (by rfl) 33 (.tmp 97) rfl (G + 1) 33 (by rfl) (dst.map bc) _ hto Tryz.underlying33 rfl hit ?_)
            | ((with_reducible refine at_load 33 (.tmp 103) ?_); refine wpl_mid (by rfl) 33 (.tmp 103) rfl (G + 1) 33 (by rfl) (dst.map bc) _ hto Tryz.underlying33 rfl hit ?_)
            | ((with_reducible refine at_load 33 (.tmp 6) ?_); refine wpl_load (by rfl) 33 (.tmp 6) rfl (G + 3) (by rfl) 33 (z32.map bc).toArray (0, 0) _ bZ Tryz.underlying33 rfl (id_size rfl) ?_))
        have bF := block_setCell bR8 (i := 0) (.slice (some ⟨g, 0, none⟩) l.length cp2)
        replace X := X8
        exact bodyPost_ret (results_cell_tmp rfl _ _ (G + 2) _ _ _ _ (by rfl) bF Tryz.underlying63 rfl (info63 _)) rfl ⟨_, rfl, isR_own (ownsRow_grown owns (grown_setCell _ (G + 2) 0 _) (own_ne owns (Or.inl (by omega)))) hln hoks, X.setCell (p := ⟨G + 2, 0, none⟩) (by show w.heap.size ≤ G + 2; omega) _⟩
end Go.Proofs.YtglcjdiejnennaaGreatDoor
