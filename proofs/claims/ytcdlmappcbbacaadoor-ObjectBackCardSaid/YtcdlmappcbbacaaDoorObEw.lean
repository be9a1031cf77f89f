/- The walks of the laws ObjectEncodes and ObjectBack. -/
import Derived.Test.YtcdlmappcbbacaaDoorObBy
import Derived.Test.YtcdlmappcbbacaaDoorObCp
import Derived.Test.YtcdlmappcbbacaaDoorObG
import Derived.Test.YtcdlmappcbbacaaDoorObP
import Derived.Test.YtcdlmappcbbacaaDoorObV
import Derived.Test.YtcdlmappcbbacaaDoorObSs
import Derived.Test.YtcdlmappcbbacaaDoorObSh
import Derived.Test.YtcdlmappcbbacaaDoorShF
import Derived.Test.YtcdlmappcbbacaaDoorObOp
namespace Go.Proofs.YtcdlmappcbbacaaDoor
open Go.RowKit
set_option linter.unusedVariables false
set_option linter.unusedSimpArgs false

theorem large_no {o : ObjL} (h : largeB o = false) : o.bytes.length ≤ 10000 ∧ o.ents.length ≤ 200 ∧ o.pars.length ≤ 200 := by
  unfold largeB at h
  simp only [Bool.or_eq_false_iff, decide_eq_false_iff_not] at h
  omega
theorem chkT : chkE true = 0 := rfl
theorem chkF : chkE false = 150 := rfl
theorem objCheckIs (w : World) (QA : Array Value) (vb ve vp : Value) (o : ObjL) (h : IsObj w QA vb ve vp o) {b : Bool} (hc : checkB o = b) :
    Calls Tryd.prog 11 #[.agg QA] w fun e w' => e = .returned (.int .i64 (chkE b)) ∧ Ext w w' := by
  subst hc
  exact objCheck w QA vb ve vp o h
theorem refIdO (w : World) (QA : Array Value) (vb ve vp : Value) (o : ObjL) (h : IsObj w QA vb ve vp o) (hc : checkB o = true) :
    Calls Tryd.prog 14 #[.agg QA] w fun e w' => e = .returned (.agg ((idL o).map bc).toArray) ∧ Ext w w' := by
  have b0 := blk_old (o := .cells (z32.map bc).toArray 25) (heap_alloc_new w (.cells QA 29))
  have bR := blk_new (w := w.alloc (.cells QA 29)) (b := w.heap.size + 1) (o := .cells (z32.map bc).toArray 25) (by simp)
  have X0 : Ext w ((w.alloc (.cells QA 29)).alloc (.cells (z32.map bc).toArray 25)) := ((Ext.refl w).alloc _).alloc _
  have hinfo := h.info
  have hle := encB_le hc h.ok
  have hI : idL o = shaL (encB o) := by unfold idL; rw [hc]; rfl
  rw [hI]
  generalize hBe : encB o = B at *
  go_enter Tryd.func14, Tryd.ntmps14
  go_wp2_with ((with_reducible refine at_load 29 (.tmp 1) ?_); refine wpl_load (by rfl) 29 (.tmp 1) rfl w.heap.size (by rfl) 29 QA (0, 0) _ b0 Tryd.underlying29 rfl hinfo ?_)
  refine Calls.mono (refBytes _ QA vb ve vp o (h.ext X0) hc) ?_
  rintro e w1 ⟨v1, rfl, hB, x1⟩
  have X1 := X0.trans x1
  have bR := x1.keeps bR
  rw [hBe] at hB
  generalize hG : w.heap.size + 1 = R at *
  go_wp2_with fail
  refine Calls.mono (refSum _ v1 B hB (by omega)) ?_
  rintro e w2 ⟨rfl, x2⟩
  have bR := x2.keeps bR
  have hIl := shaL_len B
  go_wp2_with ((with_reducible refine at_store 25 (.tmp 2) (.tmp 5) ?_); refine wpl_store (by rfl) 25 (.tmp 2) (.tmp 5) rfl R ((shaL B).map bc).toArray (by rfl) (by rfl) 25 _ bR (id_size hIl) (id_same rfl hIl) (id_one _) ?_)
  have hfin : (w2.setRow R ((shaL B).map bc).toArray).heap[R]? = some (.cells ((shaL B).map bc).toArray 25 (0, 0)) := setRow_heap _ _ _ _ _ _ bR
  exact bodyPost_ret (results_cell_row rfl _ _ R _ _ _ _ (by rfl) hfin Tryd.underlying25 rfl (id_size hIl)) rfl ⟨rfl, (X1.trans x2).grown grown_setRow' (fun k hk => by simp at hk; omega)⟩

--DEV<
set_option maxHeartbeats 8000000 in
set_option maxRecDepth 100000 in
theorem walkEncodes0 (w : World) (QA : Array Value) (va ve vp : Value) (o : ObjL) (h : IsObj w QA va ve vp o) (hT : Tabs w) :
    Calls Tryd.prog 3 #[.agg QA] w fun e w' => e = .returned (.bool true) ∧ Below w.heap.size w w' := by
  have b3 := heap_alloc_new w (.cells QA 29)
  have X0 : Ext w (w.alloc (.cells QA 29)) := (Ext.refl w).alloc _
  have HX := Lib.hid (h.ext X0)
  have HT := Lib.hid (hT.ext X0)
  have ho := h.ok
  have hiba : (Tryd.prog.info? 29).map (·.size) = some QA.toList.length := by rw [Array.length_toList]; exact h.info
  clear h hT
  go_enter Tryd.func3, Tryd.ntmps3
  go_wp2_with fail
  generalize w.alloc (.cells QA 29) = w0 at *
  generalize hG : w.heap.size = G at *
  refine (wakes05 _).mono ?_
  rintro e w1 ⟨rfl, x1⟩
  have b31 := x1.keeps b3
  go_wp2_with ((with_reducible refine at_load 29 (.tmp 1) ?_); refine wpl_load (by rfl) 29 (.tmp 1) rfl G (by rfl) 29 QA (0, 0) _ b31 Tryd.underlying29 rfl (HX.out).info ?_)
  refine Calls.mono (lawLarge _ _ _ _ _ o (HX.out.ext x1)) ?_
  rintro e w2 ⟨rfl, x2⟩
  have X2 := x1.trans x2
  cases hla : largeB o with
  | true =>
    go_wp2
    go_ret
    exact ⟨rfl, X0.trans X2⟩
  | false =>
  obtain ⟨l1, l2, l3⟩ := large_no hla
  have b32 := x2.keeps b31
  clear b31 hla
  go_wp2_with ((with_reducible refine at_load 29 (.tmp 1) ?_); refine wpl_load (by rfl) 29 (.tmp 1) rfl G (by rfl) 29 QA (0, 0) _ b32 Tryd.underlying29 rfl HX.out.info ?_)
  refine Calls.mono (lawCopied _ _ _ _ _ o (HX.out.ext X2) l1 l2 l3) ?_
  rintro ee w3 ⟨QC, c1, c2, c3, rfl, hC, x3⟩
  go_wp2_with fail
  refine Calls.mono (objEncode _ _ _ _ _ o hC) ?_
  rintro ee w4 ⟨v4, rfl, own4, x4⟩
  have hB4 := IsB.of_owns own4
  have x34 := x3.trans x4
  have X4 := X2.trans x34
  have b34 := x34.keeps b32
  clear hC own4 b32
  go_wp2_with ((with_reducible refine at_load 29 (.tmp 1) ?_); refine wpl_load (by rfl) 29 (.tmp 1) rfl G (by rfl) 29 QA (0, 0) _ b34 Tryd.underlying29 rfl HX.out.info ?_)
  refine Calls.mono (lawCopied _ _ _ _ _ o (HX.out.ext X4) l1 l2 l3) ?_
  rintro ee w5 ⟨QD, d1, d2, d3, rfl, hD, x5⟩
  go_wp2_with fail
  refine Calls.mono (objId _ _ _ _ _ o hD (HT.out.ext (X4.trans x5))) ?_
  rintro ee w6 ⟨rfl, x6⟩
  have x56 := x5.trans x6
  have X6 := X4.trans x56
  have b36 := x56.keeps b34
  have hIl := idL_len o
  have bI := heap_alloc_new w6 (.cells ((idL o).map bc).toArray 25)
  have xi : Ext w6 (w6.alloc (.cells ((idL o).map bc).toArray 25)) := (Ext.refl w6).alloc _
  have b37 := xi.keeps b36
  have HB4 := Lib.hid ((hB4.ext x56).ext xi)
  have X7 := X6.trans xi
  clear hD b34 b36 hB4
  go_wp2_with (first
    | ((with_reducible refine at_store 25 (.tmp 5) (.tmp 21) ?_); refine wpl_store (by rfl) 25 (.tmp 5) (.tmp 21) rfl w6.heap.size ((idL o).map bc).toArray (by rfl) (by rfl) 25 _ (heap_alloc_new _ _) (id_size hIl) (by simp [hIl]) (id_one _) ?_; rw [World.setRow_alloc_new])
    | ((with_reducible refine at_load 29 (.tmp 1) ?_); refine wpl_load (by rfl) 29 (.tmp 1) rfl G (by rfl) 29 QA (0, 0) _ b37 Tryd.underlying29 rfl HX.out.info ?_))
  refine Calls.mono (refRightO _ QA _ _ _ o (HX.out.ext X7)) ?_
  rintro ee w8 ⟨rfl, x8⟩
  have X8 := X7.trans x8
  have ba := x8.keeps b37
  have bI := x8.keeps bI
  have hB4 := HB4.out.ext x8
  have hiI : (Tryd.prog.info? 25).map (·.size) = some ((idL o).map bc).length := by rw [id_size hIl, List.size_toArray]
  clear b37 HB4 xi
  generalize hJ : w6.heap.size = J at *
  cases hc : checkB o with
  | false =>
    have hE : encO o = [] := by unfold encO; rw [hc]; rfl
    have hI : idL o = z32 := by unfold idL; rw [hc]; rfl
    rw [hE] at hB4
    obtain ⟨a4, k4, rfl⟩ := sl_len hB4
    have heq := fun w => eql_zero w (idL o) hIl
    have hd : decide (idL o = z32) = true := decide_eq_true hI
    simp only [hd] at heq
    clear hI hd
    rw [chkF]
    go_wp2_with (first
      | ((with_reducible refine at_load 25 (.tmp 5) ?_); refine wpl_load (by rfl) 25 (.tmp 5) rfl J (by rfl) 25 ((idL o).map bc).toArray (0, 0) _ bI Tryd.underlying25 rfl (id_size hIl) ?_)
      | ((with_reducible refine at_load 29 (.tmp 1) ?_); refine wpl_load (by rfl) 29 (.tmp 1) rfl G (by rfl) 29 QA (0, 0) _ ba Tryd.underlying29 rfl HX.out.info ?_))
    refine Calls.mono (lawCopied _ _ _ _ _ o (HX.out.ext X8) l1 l2 l3) ?_
    rintro ee w9 ⟨QE, e1, e2, e3, rfl, hC, x9⟩
    go_wp2_with fail
    refine Calls.mono (objCheckIs _ _ _ _ _ o hC hc) ?_
    rintro ee wz ⟨rfl, xz⟩
    rw [chkF]
    go_wp2
    go_ret
    exact ⟨rfl, X0.trans ((X8.trans x9).trans xz)⟩
  | true =>
    have hE : encO o = encB o := by unfold encO; rw [hc]; rfl
    have hBB : (encB o == encB o) = true := by simp
    have hII : ∀ w : World, (binOp .eql 25 (.agg ((idL o).map bc).toArray) (.agg ((idL o).map bc).toArray)).run Tryd.prog w = .ok (.bool true) w := fun w => by rw [eql_id w _ _ hIl hIl, decide_eq_true rfl]
    rw [hE] at hB4
    rw [chkT]
    have Xd := X8
    have hB4 : ∀ {W : World}, Ext w8 W → IsB W v4 (encB o) := fun k => hB4.ext k
    have xq : Ext w8 w8 := Ext.refl _
    go_wp2_with fail
    refine wp_region_ext (by kernel_rfl) fun wd hqd xd hHeld => ?_
    have ba := xd.keeps ba
    have bI := xd.keeps bI
    have Xd := Xd.trans xd; have xq := xq.trans xd
    refine wpAnyH_take (i := 0) (v := ?va0) rfl (by kernel_rfl) (by kernel_rfl) (by kernel_rfl) (fun _ _ _ h => h) (Or.inl ⟨by rfl, ?hya0⟩) hHeld ?_
    case hya0 => (intro w hSw; go_simp; try with_reducible rfl)
    simp only [Act.put, List.setIfInBounds_toArray, List.set_cons_zero, List.set_cons_succ, List.getElem_toArray, List.getElem_cons_zero, List.getElem_cons_succ]
    refine wpAnyH_take (i := 1) (v := ?va1) rfl (by kernel_rfl) (by kernel_rfl) (by kernel_rfl) (fun _ _ _ h => h) (Or.inl ⟨by rfl, ?hya1⟩) hHeld ?_
    case hya1 => (intro w hSw; go_simp; try with_reducible rfl)
    simp only [Act.put, List.setIfInBounds_toArray, List.set_cons_zero, List.set_cons_succ, List.getElem_toArray, List.getElem_cons_zero, List.getElem_cons_succ]
    refine wpAnyH_take (i := 2) (v := ?va2) rfl (by kernel_rfl) (by kernel_rfl) (by kernel_rfl) (fun _ _ _ h => h) (Or.inl ⟨by rfl, ?hya2⟩) hHeld ?_
    case hya2 => (intro w hSw; go_simp; try with_reducible rfl)
    simp only [Act.put, List.setIfInBounds_toArray, List.set_cons_zero, List.set_cons_succ, List.getElem_toArray, List.getElem_cons_zero, List.getElem_cons_succ]
    refine wpAnyH_take (i := 3) (v := ?va3) rfl (by kernel_rfl) (by kernel_rfl) (by kernel_rfl) (fun _ _ _ h => h) (Or.inl ⟨by rfl, ?hya3⟩) hHeld ?_
    case hya3 => (intro w hSw; go_simp; try with_reducible rfl)
    simp only [Act.put, List.setIfInBounds_toArray, List.set_cons_zero, List.set_cons_succ, List.getElem_toArray, List.getElem_cons_zero, List.getElem_cons_succ]
    refine wpAnyH_take (i := 4) (v := ?va4) rfl (by kernel_rfl) (by kernel_rfl) (by kernel_rfl) (fun _ _ _ h => h) (Or.inl ⟨by rfl, ?hya4⟩) hHeld ?_
    case hya4 => (intro w hSw; go_simp; try with_reducible rfl)
    simp only [Act.put, List.setIfInBounds_toArray, List.set_cons_zero, List.set_cons_succ, List.getElem_toArray, List.getElem_cons_zero, List.getElem_cons_succ]
    refine wpAnyH_take (i := 5) (v := ?va5) rfl (by kernel_rfl) (by kernel_rfl) (by kernel_rfl) (fun _ _ _ h => h) (Or.inl ⟨by rfl, ?hya5⟩) hHeld ?_
    case hya5 => (intro w hSw; go_simp; try with_reducible rfl)
    simp only [Act.put, List.setIfInBounds_toArray, List.set_cons_zero, List.set_cons_succ, List.getElem_toArray, List.getElem_cons_zero, List.getElem_cons_succ]
    refine wpAnyH_take (i := 6) (v := ?va6) rfl (by kernel_rfl) (by kernel_rfl) (by kernel_rfl) (fun _ _ _ h => h) (Or.inl ⟨by rfl, ?hya6⟩) hHeld ?_
    case hya6 => (intro w hSw; go_simp; try with_reducible rfl)
    simp only [Act.put, List.setIfInBounds_toArray, List.set_cons_zero, List.set_cons_succ, List.getElem_toArray, List.getElem_cons_zero, List.getElem_cons_succ]
    refine wpAnyH_take (i := 7) rfl (by kernel_rfl) (by kernel_rfl) (by kernel_rfl) (fun _ _ _ h => h) (yieldsIf_load_mid (by rfl) _ _ rfl _ _ rfl (QA.toList) _ (fun w h => rangeAt_of (h.keeps ba)) Tryd.underlying29 rfl hiba) hHeld ?_
    simp only [Act.put, List.setIfInBounds_toArray, List.set_cons_zero, List.set_cons_succ, List.getElem_toArray, List.getElem_cons_zero, List.getElem_cons_succ]
    refine wpAnyH_all (rs := [8]) (by kernel_rfl) (by simp) ?_
    intro i hi; obtain rfl : i = 8 := by simpa using hi
    refine wpOp_run rfl (by rfl) ?_
    go_simp
    refine Calls.mono (lawCopied _ _ _ _ _ o (HX.out.ext Xd) l1 l2 l3) ?_
    rintro ee wa ⟨QC, vc1, vc2, vc3, rfl, hC, xa⟩
    have ba := xa.keeps ba
    have bI := xa.keeps bI
    have Xd := Xd.trans xa; have xq := xq.trans xa
    refine wpAnyH_call (xa) fun hHeld => ?_
    try simp only [Act.put, List.setIfInBounds_toArray, List.set_cons_zero, List.set_cons_succ, List.getElem_toArray, List.getElem_cons_zero, List.getElem_cons_succ]
    refine wpAnyH_all (rs := [9]) (by kernel_rfl) (by simp) ?_
    intro i hi; obtain rfl : i = 9 := by simpa using hi
    refine wpOp_run rfl (by rfl) ?_
    go_simp
    refine Calls.mono (objCheckIs _ _ _ _ _ o hC hc) ?_
    rintro ee wb ⟨rfl, xb⟩
    have ba := xb.keeps ba
    have bI := xb.keeps bI
    have Xd := Xd.trans xb; have xq := xq.trans xb
    refine wpAnyH_call (xb) fun hHeld => ?_
    try simp only [Act.put, List.setIfInBounds_toArray, List.set_cons_zero, List.set_cons_succ, List.getElem_toArray, List.getElem_cons_zero, List.getElem_cons_succ]
    refine wpAnyH_take (i := 10) (v := ?va10) rfl (by kernel_rfl) (by kernel_rfl) (by kernel_rfl) (fun _ _ _ h => h) (Or.inl ⟨by rfl, ?hya10⟩) hHeld ?_
    case hya10 => (intro w hSw; have k := chkT; go_simp; try with_reducible rfl)
    simp only [Act.put, List.setIfInBounds_toArray, List.set_cons_zero, List.set_cons_succ, List.getElem_toArray, List.getElem_cons_zero, List.getElem_cons_succ]
    refine wpAnyH_take (i := 11) (v := ?va11) rfl (by kernel_rfl) (by kernel_rfl) (by kernel_rfl) (fun _ _ _ h => h) (Or.inl ⟨by rfl, ?hya11⟩) hHeld ?_
    case hya11 => (intro w hSw; go_simp; try with_reducible rfl)
    simp only [Act.put, List.setIfInBounds_toArray, List.set_cons_zero, List.set_cons_succ, List.getElem_toArray, List.getElem_cons_zero, List.getElem_cons_succ]
    refine wpAnyH_take (i := 12) (v := ?va12) rfl (by kernel_rfl) (by kernel_rfl) (by kernel_rfl) (fun _ _ _ h => h) (Or.inl ⟨by rfl, ?hya12⟩) hHeld ?_
    case hya12 => (intro w hSw; go_simp; try with_reducible rfl)
    simp only [Act.put, List.setIfInBounds_toArray, List.set_cons_zero, List.set_cons_succ, List.getElem_toArray, List.getElem_cons_zero, List.getElem_cons_succ]
    refine wpAnyH_take (i := 13) (v := ?va13) rfl (by kernel_rfl) (by kernel_rfl) (by kernel_rfl) (fun _ _ _ h => h) (Or.inl ⟨by rfl, ?hya13⟩) hHeld ?_
    case hya13 => (intro w hSw; go_simp; try with_reducible rfl)
    simp only [Act.put, List.setIfInBounds_toArray, List.set_cons_zero, List.set_cons_succ, List.getElem_toArray, List.getElem_cons_zero, List.getElem_cons_succ]
    refine wpAnyH_take (i := 14) rfl (by kernel_rfl) (by kernel_rfl) (by kernel_rfl) (fun _ _ _ h => h) (yieldsIf_load_mid (by rfl) _ _ rfl _ _ rfl (QA.toList) _ (fun w h => rangeAt_of (h.keeps ba)) Tryd.underlying29 rfl hiba) hHeld ?_
    simp only [Act.put, List.setIfInBounds_toArray, List.set_cons_zero, List.set_cons_succ, List.getElem_toArray, List.getElem_cons_zero, List.getElem_cons_succ]
    refine wpAnyH_all (rs := [15]) (by kernel_rfl) (by simp) ?_
    intro i hi; obtain rfl : i = 15 := by simpa using hi
    refine wpOp_run rfl (by rfl) ?_
    go_simp
    refine Calls.mono (refBytes _ QA _ _ _ o (HX.out.ext Xd) hc) ?_
    rintro ee we ⟨v5, rfl, hB5, xe⟩
    have ba := xe.keeps ba
    have bI := xe.keeps bI
    have Xd := Xd.trans xe; have xq := xq.trans xe
    refine wpAnyH_call (xe) fun hHeld => ?_
    try simp only [Act.put, List.setIfInBounds_toArray, List.set_cons_zero, List.set_cons_succ, List.getElem_toArray, List.getElem_cons_zero, List.getElem_cons_succ]
    refine wpAnyH_all (rs := [16]) (by kernel_rfl) (by simp) ?_
    intro i hi; obtain rfl : i = 16 := by simpa using hi
    refine wpOp_run rfl (by rfl) ?_
    go_simp
    refine Calls.mono (refSame _ v4 v5 (encB o) (encB o) (hB4 xq) hB5) ?_
    rintro ee wf ⟨rfl, hwf⟩
    have xf := toExt hwf
    have ba := xf.keeps ba
    have bI := xf.keeps bI
    have Xd := Xd.trans xf; have xq := xq.trans xf
    refine wpAnyH_call ((toExt hwf)) fun hHeld => ?_
    try simp only [Act.put, List.setIfInBounds_toArray, List.set_cons_zero, List.set_cons_succ, List.getElem_toArray, List.getElem_cons_zero, List.getElem_cons_succ]
    refine wpAnyH_take (i := 17) (v := ?va17) rfl (by kernel_rfl) (by kernel_rfl) (by kernel_rfl) (fun _ _ _ h => h) (Or.inl ⟨by rfl, ?hya17⟩) hHeld ?_
    case hya17 => (intro w hSw; have k := hBB; go_simp; try with_reducible rfl)
    simp only [Act.put, List.setIfInBounds_toArray, List.set_cons_zero, List.set_cons_succ, List.getElem_toArray, List.getElem_cons_zero, List.getElem_cons_succ]
    refine wpAnyH_take (i := 18) (v := ?va18) rfl (by kernel_rfl) (by kernel_rfl) (by kernel_rfl) (fun _ _ _ h => h) (Or.inl ⟨by rfl, ?hya18⟩) hHeld ?_
    case hya18 => (intro w hSw; go_simp; try with_reducible rfl)
    simp only [Act.put, List.setIfInBounds_toArray, List.set_cons_zero, List.set_cons_succ, List.getElem_toArray, List.getElem_cons_zero, List.getElem_cons_succ]
    refine wpAnyH_take (i := 19) rfl (by kernel_rfl) (by kernel_rfl) (by kernel_rfl) (fun _ _ _ h => h) (yieldsIf_load_mid (by rfl) _ _ rfl _ _ rfl (((idL o).map bc)) _ (fun w h => rangeAt_of (h.keeps bI)) Tryd.underlying25 rfl hiI) hHeld ?_
    simp only [Act.put, List.setIfInBounds_toArray, List.set_cons_zero, List.set_cons_succ, List.getElem_toArray, List.getElem_cons_zero, List.getElem_cons_succ]
    refine wpAnyH_take (i := 20) rfl (by kernel_rfl) (by kernel_rfl) (by kernel_rfl) (fun _ _ _ h => h) (yieldsIf_load_mid (by rfl) _ _ rfl _ _ rfl (QA.toList) _ (fun w h => rangeAt_of (h.keeps ba)) Tryd.underlying29 rfl hiba) hHeld ?_
    simp only [Act.put, List.setIfInBounds_toArray, List.set_cons_zero, List.set_cons_succ, List.getElem_toArray, List.getElem_cons_zero, List.getElem_cons_succ]
    refine wpAnyH_all (rs := [21]) (by kernel_rfl) (by simp) ?_
    intro i hi; obtain rfl : i = 21 := by simpa using hi
    refine wpOp_run rfl (by rfl) ?_
    go_simp
    refine Calls.mono (refIdO _ QA _ _ _ o (HX.out.ext Xd) hc) ?_
    rintro ee wg ⟨rfl, xg⟩
    have ba := xg.keeps ba
    have bI := xg.keeps bI
    have Xd := Xd.trans xg; have xq := xq.trans xg
    refine wpAnyH_call (xg) fun hHeld => ?_
    try simp only [Act.put, List.setIfInBounds_toArray, List.set_cons_zero, List.set_cons_succ, List.getElem_toArray, List.getElem_cons_zero, List.getElem_cons_succ]
    refine wpAnyH_take (i := 22) (v := ?va22) rfl (by kernel_rfl) (by kernel_rfl) (by kernel_rfl) (fun _ _ _ h => h) (Or.inl ⟨by rfl, ?hya22⟩) hHeld ?_
    case hya22 => (intro w hSw; have k := hII w; go_simp; try with_reducible rfl)
    simp only [Act.put, List.setIfInBounds_toArray, List.set_cons_zero, List.set_cons_succ, List.getElem_toArray, List.getElem_cons_zero, List.getElem_cons_succ]
    refine wpAnyH_take (i := 23) (v := ?va23) rfl (by kernel_rfl) (by kernel_rfl) (by kernel_rfl) (fun _ _ _ h => h) (Or.inl ⟨by rfl, ?hya23⟩) hHeld ?_
    case hya23 => (intro w hSw; go_simp; try with_reducible rfl)
    simp only [Act.put, List.setIfInBounds_toArray, List.set_cons_zero, List.set_cons_succ, List.getElem_toArray, List.getElem_cons_zero, List.getElem_cons_succ]
    refine wpAnyH_take (i := 24) (v := ?va24) rfl (by kernel_rfl) (by kernel_rfl) (by kernel_rfl) (fun _ _ _ h => h) (Or.inl ⟨by rfl, ?hya24⟩) hHeld ?_
    case hya24 => (intro w hSw; go_simp; try with_reducible rfl)
    simp only [Act.put, List.setIfInBounds_toArray, List.set_cons_zero, List.set_cons_succ, List.getElem_toArray, List.getElem_cons_zero, List.getElem_cons_succ]
    refine wpAnyH_done (by kernel_rfl) ?_ _
    refine NoPanic.normal ?_
    go_wp2
    go_ret
    exact ⟨rfl, X0.trans Xd⟩
--DEV>
theorem walkObjectEncodes (w : World) (v : Value) (o : ObjL) (h : ArgObj w v o) (hT : Tabs w) :
    Calls Tryd.prog 3 #[v] w fun e w' => e = .returned (.bool true) ∧ Below w.heap.size w w' := by
  obtain ⟨QA, a1, a2, a3, rfl, h⟩ := h
  exact walkEncodes0 w QA a1 a2 a3 o h hT
end Go.Proofs.YtcdlmappcbbacaaDoor
