/- The reference's Id of an object; ref put. -/
import Derived.Test.YtpadfabjihaapaaGreatDoorWtB
import Derived.Test.YtpadfabjihaapaaGreatDoorObBy
import Derived.Test.YtpadfabjihaapaaGreatDoorShF
import Derived.Test.YtpadfabjihaapaaGreatDoorObF
import Derived.Test.YtpadfabjihaapaaGreatDoorLdE
import Derived.Deep.DeepCutAuto
import Derived.Deep.CutBlock
namespace Go.Proofs.YtpadfabjihaapaaGreatDoor
open Go.RowKit
set_option linter.unusedVariables false
set_option linter.unusedSimpArgs false

set_option maxHeartbeats 8000000 in
set_option maxRecDepth 100000 in
theorem refIdO (w : World) (QA : Array Value) (vb ve vp : Value) (o : ObjL) (h : IsObj w QA vb ve vp o) (hc : checkB o = true) :
    Calls Tryz.prog 56 #[.agg QA] w fun e w' => e = .returned (.agg ((idL o).map bc).toArray) ∧ Ext w w' := by
  have b0 := blk_old (o := .cells (z32.map bc).toArray 31) (heap_alloc_new w (.cells QA 45))
  have bR := blk_new (w := w.alloc (.cells QA 45)) (b := w.heap.size + 1) (o := .cells (z32.map bc).toArray 31) (by simp)
  have X0 : Ext w ((w.alloc (.cells QA 45)).alloc (.cells (z32.map bc).toArray 31)) := ((Ext.refl w).alloc _).alloc _
  have hinfo := h.info
  have hle := encB_le hc h.ok
  have hI : idL o = shaL (encB o) := by unfold idL; rw [hc]; rfl
  rw [hI]
  generalize hBe : encB o = B at *
  go_enter Tryz.func56, Tryz.ntmps56
  go_wp2_with ((with_reducible refine at_load 45 (.tmp 1) ?_); refine wpl_load (by rfl) 45 (.tmp 1) rfl w.heap.size (by rfl) 45 QA (0, 0) _ b0 Tryz.underlying45 rfl hinfo ?_)
  refine Calls.mono (refBytes _ QA vb ve vp o (h.ext X0) hc) ?_
  rintro e w1 ⟨v1, rfl, hB, x1⟩
  have X1 := X0.trans x1
  have bR := x1.keeps bR
  rw [hBe] at hB
  generalize hG : w.heap.size + 1 = R at *
  go_wp2_with fail
  refine Calls.mono (refSum _ v1 B hB (by omega)) ?_
  rintro e w2 ⟨rfl, x2⟩
  have bR := x2.keeps bR
  have hIl := shaL_len B
  go_wp2_with ((with_reducible refine at_store 31 (.tmp 2) (.tmp 5) ?_); refine wpl_store (by rfl) 31 (.tmp 2) (.tmp 5) rfl R ((shaL B).map bc).toArray (by rfl) (by rfl) 31 _ bR (id_size hIl) (id_same rfl hIl) (id_one _) ?_)
  have hfin : (w2.setRow R ((shaL B).map bc).toArray).heap[R]? = some (.cells ((shaL B).map bc).toArray 31 (0, 0)) := setRow_heap _ _ _ _ _ _ bR
  exact bodyPost_ret (results_cell_row rfl _ _ R _ _ _ _ (by rfl) hfin Tryz.underlying31 rfl (id_size hIl)) rfl ⟨rfl, (X1.trans x2).grown grown_setRow' (fun k hk => by simp at hk; omega)⟩

theorem results_tcI {P : Program} {fn : Func} {p r : Tmp} {ty : TypeId} (h : fn.results = #[.tmp r, .cell p ty]) (tmps : Array Value) (w : World) (g : Nat) (t : TypeId) (cs : Array Value) (fr : Nat × Nat) (d : TypeDesc)
    (hp : tmps.getD p undef = .pointer (some ⟨g, 0, none⟩)) (hg : w.heap[g]? = some (.cells cs t fr))
    (hu : P.underlying ty = some d) (hd : (match d with | .struct _ | .array _ _ => true | _ => false) = true) (hi : (P.info? ty).map (·.size) = some cs.size) :
    (results fn tmps).run P w = .ok (.tuple #[tmps.getD r undef, .agg cs]) w := by
  have hp' : tmps[p]?.getD undef = .pointer (some ⟨g, 0, none⟩) := by simpa using hp
  simp [results, h, hp', asAddr, run_loadVar_row w g t ty cs fr d hg hu hd hi]
/-- What ref put makes of the objects. -/
def putR (os : List ObjL) (o : ObjL) : List ObjL := if os.any (fun x => decide (idL x = idL o) && sameB x o) then os else os ++ [o]
/-- Objects under their Ids in a row of the call's own; no object's row of entries lies in a block of av. -/
def HeapA (w : World) (base : Nat) (av : Nat → Prop) (v : Value) (os : List ObjL) : Prop :=
  ∃ ds : List HdV, ds.map (·.o) = os ∧ (∀ d ∈ ds, d.id = idL d.o ∧ ObjW w d ∧ ∀ g, d.ve.ownBlock = some g → ¬ av g) ∧ w.ownsRow base 47 70 v ds.length ((ds.map hdV).flatMap hdC) ∧ base ≤ w.heap.size
set_option maxHeartbeats 8000000 in
set_option maxRecDepth 100000 in
theorem refPut (W0 w : World) (vb ve vp : Value) (o : ObjL) (ho : ObjW w ⟨idL o, o, vb, ve, vp⟩) (hc : checkB o = true) (base : Nat) (av : Nat → Prop) (v : Value) (os : List ObjL) (hs : HeapA w base av v os) (hav : ∀ g, ve.ownBlock = some g → ¬ av g) (hl : os.length ≤ 900000)
    (X : Ext W0 w) (hb : W0.heap.size ≤ base) :
    Calls Tryz.prog 33 #[v, .agg (objC vb ve vp o).toArray] w fun e w' => ∃ v', e = .returned (.tuple #[v', .agg ((idL o).map bc).toArray]) ∧ HeapA w' base av v' (putR os o) ∧ KeepH w w' ∧ Ext W0 w' := by
  obtain ⟨QA, hQA⟩ : ∃ QA, (objC vb ve vp o).toArray = QA := ⟨_, rfl⟩
  have h : IsObj w QA vb ve vp o := hQA ▸ ho.obj
  rw [hQA]
  obtain ⟨ds, d1, d2, d3, d4⟩ := hs
  have hlen : ds.length = os.length := by rw [← d1]; simp
  obtain ⟨av0, cv, ev⟩ := ownSh d3
  subst ev
  have hIl : (idL o).length = 32 := idL_len o
  obtain ⟨_, k1, m1⟩ := sl_cap (IsSl.of_owns d3)
  have HH := Lib.hid h
  have HO := Lib.hid ho
  have HD1 := Lib.hid d1
  have HD2 := Lib.hid d2
  have HD3 := Lib.hid d3
  have HX := Lib.hid X
  have HQA := Lib.hid hQA
  have HAV := Lib.hid hav
  have hinfo := h.info
  have hds : ds.length ≤ 900000 := by omega
  clear hlen hl
  clear h ho d1 d2 d3 X hQA hav
  go_enter Tryz.func33, Tryz.ntmps33
  go_upto_region 1 with fail
  obtain ⟨G, hG⟩ : ∃ G, w.heap.size = G := ⟨_, rfl⟩
  rw [hG]
  refine wp_forgetH (fun W => Ext w W ∧ W.heap[G]? = some (.cells QA 45 (0, 0)) ∧ W.heap[G + 1]? = some (.cells (z32.map bc).toArray 31 (0, 0))) (new2s7 hG _ _) ?_
  rintro w1 ⟨x1, b0, bR⟩
  have hG1 : G + 2 ≤ w1.heap.size := block_lt bR
  go_wp2_with ((with_reducible refine at_load 45 (.tmp 3) ?_); refine wpl_load (by rfl) 45 (.tmp 3) rfl G (by rfl) 45 QA (0, 0) _ b0 Tryz.underlying45 rfl hinfo ?_)
  refine Calls.mono (refIdO w1 QA vb ve vp o (HH.out.ext x1) hc) ?_
  rintro e w2 ⟨rfl, x2⟩
  obtain ⟨I, hI⟩ : ∃ I, idL o = I := ⟨_, rfl⟩
  rw [hI] at hIl ⊢
  have HI := Lib.hid hI
  go_upto_region 2 with ((with_reducible refine at_store 31 (.tmp 6) (.tmp 9) ?_); refine wpl_store (by rfl) 31 (.tmp 6) (.tmp 9) rfl _ (I.map bc).toArray (by rfl) (by rfl) 31 _ (heap_alloc_new _ _) (id_size hIl) (id_same (a := z32) rfl hIl) (id_one _) ?_; rw [World.setRow_alloc_new])
  obtain ⟨M, hM⟩ : ∃ M, w2.heap.size = M := ⟨_, rfl⟩
  rw [hM]
  refine wp_forgetH (fun W => Ext w2 W ∧ W.heap[M]? = some (.cells (I.map bc).toArray 31 (0, 0))) ⟨(Ext.refl w2).alloc _, blk_new hM⟩ ?_
  rintro w3 ⟨x3, bI⟩
  have hMG : G + 2 ≤ M := by have := x2.size; omega
  have X3 : Ext w w3 := x1.trans (x2.trans x3)
  have HB0 := Lib.hid ((x2.trans x3).keeps b0)
  have HBR := Lib.hid ((x2.trans x3).keeps bR)
  have HBI := Lib.hid bI
  have HX3 := Lib.hid X3
  have hii := id_info hIl
  have hiq : (Tryz.prog.info? 45).map (·.size) = some QA.toList.length := by rw [Array.length_toList]; exact hinfo
  clear b0 bR bI x1 x2 x3 X3 hI
  go_wp2_with fail
  go_loopg [7] ds.length (fun q s7 wr => ∃ j : Nat, j ≤ ds.length ∧ ds.length - j ≤ q ∧ s7 = .int .i64 (j : Int) ∧ (∀ d ∈ ds.take j, (decide (idL d.o = I) && sameB d.o o) = false) ∧ Ext w3 wr)
  case atStart => exact ⟨0, Nat.zero_le _, by omega, rfl, (fun d hd => by simp at hd), Ext.refl _⟩
  case round =>
  obtain ⟨j, hj, hq, rfl, hall, xr⟩ := hrel
  have HALL := Lib.hid hall
  clear hall
  by_cases hjl : j < ds.length
  · have hm := List.getElem_mem hjl
    obtain ⟨hdi, hdw, _⟩ := HD2.out _ hm
    obtain ⟨pb, of, rfl, hra⟩ := hd_at (es := ds.map hdV) (by rw [List.length_map]; exact (IsSl.of_owns HD3.out).ext (HX3.out.trans xr)) (fun e he => by
      obtain ⟨d, hd, rfl⟩ := List.mem_map.1 he
      exact (HD2.out d hd).2.1.hd) j (by simpa using hjl)
    rw [List.getElem_map] at hra
    have hri := hd_id hra
    have hro := hd_obj hdw.hd hra
    have htk : ds.take (j + 1) = ds.take j ++ [ds[j]] := by rw [List.take_succ_eq_append_getElem hjl]
    obtain ⟨d, hdj⟩ : ∃ d, ds[j] = d := ⟨_, rfl⟩
    rw [hdj] at hdi hdw hri hro htk hm
    have HRI := Lib.hid hri
    have HRO := Lib.hid hro
    have HTK := Lib.hid htk
    have HDW := Lib.hid hdw
    have HDI := Lib.hid hdi
    have HM := Lib.hid hm
    have hid32 : d.id.length = 32 := hdw.id
    have hti := fun W => eql_id W d.id I hid32 hIl
    have hidi := id_info hid32
    have hio : (Tryz.prog.info? 45).map (·.size) = some (hdV d).obj.length := by have := hdw.obj.info; simpa using this
    have j0 : (0 : Int) ≤ (j : Int) := Int.natCast_nonneg _
    have j1 : (j : Int) < (ds.length : Int) := by omega
    clear hri hro htk hdj hra hdi hdw hm
    go_upto_region 5 with fail
    by_cases heq : d.id = I
    · have heq1 : decide (d.id = I) = true := decide_eq_true heq
      have HEQ := Lib.hid heq
      clear heq
      obtain ⟨sb, hsb⟩ : ∃ sb, sameB d.o o = sb := ⟨_, rfl⟩
      have HSB := Lib.hid hsb
      clear hsb
      refine wp_region_S (fun v => Ext wr v) (by kernel_rfl) (fun w' h => h) fun wd hqd xd hHeld => ?_
      refine wpAnyH_take (i := 0) (v := ?vpe0) rfl (by kernel_rfl) (by kernel_rfl) (by kernel_rfl) (fun _ _ _ h => h) (Or.inl ⟨by rfl, ?hype0⟩) hHeld ?_
      case hype0 => (intro w hSw; go_simp; try with_reducible rfl)
      simp only [Act.put, List.setIfInBounds_toArray, List.set_cons_zero, List.set_cons_succ, List.getElem_toArray, List.getElem_cons_zero, List.getElem_cons_succ]
      refine wpAnyH_take (i := 1) (v := ?vpe1) rfl (by kernel_rfl) (by kernel_rfl) (by kernel_rfl) (fun _ _ _ h => h) (Or.inl ⟨by rfl, ?hype1⟩) hHeld ?_
      case hype1 => (intro w hSw; go_simp; try with_reducible rfl)
      simp only [Act.put, List.setIfInBounds_toArray, List.set_cons_zero, List.set_cons_succ, List.getElem_toArray, List.getElem_cons_zero, List.getElem_cons_succ]
      refine wpAnyH_take (i := 2) (v := ?vpe2) rfl (by kernel_rfl) (by kernel_rfl) (by kernel_rfl) (fun _ _ _ h => h) (Or.inl ⟨by rfl, ?hype2⟩) hHeld ?_
      case hype2 => (intro w hSw; go_simp; try with_reducible rfl)
      simp only [Act.put, List.setIfInBounds_toArray, List.set_cons_zero, List.set_cons_succ, List.getElem_toArray, List.getElem_cons_zero, List.getElem_cons_succ]
      refine wpAnyH_take (i := 3) (v := ?vpe3) rfl (by kernel_rfl) (by kernel_rfl) (by kernel_rfl) (fun _ _ _ h => h) (Or.inl ⟨by rfl, ?hype3⟩) hHeld ?_
      case hype3 => (intro w hSw; go_simp; try with_reducible rfl)
      simp only [Act.put, List.setIfInBounds_toArray, List.set_cons_zero, List.set_cons_succ, List.getElem_toArray, List.getElem_cons_zero, List.getElem_cons_succ]
      refine wpAnyH_take (i := 4) (v := _) rfl (by kernel_rfl) (by kernel_rfl) (by kernel_rfl) (fun _ _ _ h => h) (yieldsIf_load_mid (by rfl) _ _ rfl _ _ rfl (d.id.map bc) _ (fun w hSw => rangeAt_ext HRI.out hSw) Tryz.underlying31 rfl hidi) hHeld ?_
      simp only [Act.put, List.setIfInBounds_toArray, List.set_cons_zero, List.set_cons_succ, List.getElem_toArray, List.getElem_cons_zero, List.getElem_cons_succ]
      refine wpAnyH_take (i := 5) (v := _) rfl (by kernel_rfl) (by kernel_rfl) (by kernel_rfl) (fun _ _ _ h => h) (yieldsIf_load_mid (by rfl) _ _ rfl _ _ rfl (I.map bc) _ (fun w hSw => range_blk ((xr.trans hSw).keeps HBI.out)) Tryz.underlying31 rfl hii) hHeld ?_
      simp only [Act.put, List.setIfInBounds_toArray, List.set_cons_zero, List.set_cons_succ, List.getElem_toArray, List.getElem_cons_zero, List.getElem_cons_succ]
      refine wpAnyH_take (i := 6) (v := ?vpe6) rfl (by kernel_rfl) (by kernel_rfl) (by kernel_rfl) (fun _ _ _ h => h) (Or.inl ⟨by rfl, ?hype6⟩) hHeld ?_
      case hype6 => (intro w hSw; have kk := hti w; go_simp; try with_reducible rfl)
      simp only [Act.put, List.setIfInBounds_toArray, List.set_cons_zero, List.set_cons_succ, List.getElem_toArray, List.getElem_cons_zero, List.getElem_cons_succ]
      refine wpAnyH_take (i := 7) (v := ?vpe7) rfl (by kernel_rfl) (by kernel_rfl) (by kernel_rfl) (fun _ _ _ h => h) (Or.inl ⟨by rfl, ?hype7⟩) hHeld ?_
      case hype7 => (intro w hSw; go_simp; try with_reducible rfl)
      simp only [Act.put, List.setIfInBounds_toArray, List.set_cons_zero, List.set_cons_succ, List.getElem_toArray, List.getElem_cons_zero, List.getElem_cons_succ]
      refine wpAnyH_take (i := 8) (v := ?vpe8) rfl (by kernel_rfl) (by kernel_rfl) (by kernel_rfl) (fun _ _ _ h => h) (Or.inl ⟨by rfl, ?hype8⟩) hHeld ?_
      case hype8 => (intro w hSw; go_simp; try with_reducible rfl)
      simp only [Act.put, List.setIfInBounds_toArray, List.set_cons_zero, List.set_cons_succ, List.getElem_toArray, List.getElem_cons_zero, List.getElem_cons_succ]
      refine wpAnyH_take (i := 9) (v := ?vpe9) rfl (by kernel_rfl) (by kernel_rfl) (by kernel_rfl) (fun _ _ _ h => h) (Or.inl ⟨by rfl, ?hype9⟩) hHeld ?_
      case hype9 => (intro w hSw; go_simp; try with_reducible rfl)
      simp only [Act.put, List.setIfInBounds_toArray, List.set_cons_zero, List.set_cons_succ, List.getElem_toArray, List.getElem_cons_zero, List.getElem_cons_succ]
      refine wpAnyH_take (i := 10) (v := ?vpe10) rfl (by kernel_rfl) (by kernel_rfl) (by kernel_rfl) (fun _ _ _ h => h) (Or.inl ⟨by rfl, ?hype10⟩) hHeld ?_
      case hype10 => (intro w hSw; go_simp; try with_reducible rfl)
      simp only [Act.put, List.setIfInBounds_toArray, List.set_cons_zero, List.set_cons_succ, List.getElem_toArray, List.getElem_cons_zero, List.getElem_cons_succ]
      refine wpAnyH_take (i := 11) (v := ?vpe11) rfl (by kernel_rfl) (by kernel_rfl) (by kernel_rfl) (fun _ _ _ h => h) (Or.inl ⟨by rfl, ?hype11⟩) hHeld ?_
      case hype11 => (intro w hSw; go_simp; try with_reducible rfl)
      simp only [Act.put, List.setIfInBounds_toArray, List.set_cons_zero, List.set_cons_succ, List.getElem_toArray, List.getElem_cons_zero, List.getElem_cons_succ]
      refine wpAnyH_take (i := 12) (v := _) rfl (by kernel_rfl) (by kernel_rfl) (by kernel_rfl) (fun _ _ _ h => h) (yieldsIf_load_mid (by rfl) _ _ rfl _ _ rfl ((hdV d).obj) _ (fun w hSw => rangeAt_ext HRO.out hSw) Tryz.underlying45 rfl hio) hHeld ?_
      simp only [Act.put, List.setIfInBounds_toArray, List.set_cons_zero, List.set_cons_succ, List.getElem_toArray, List.getElem_cons_zero, List.getElem_cons_succ]
      refine wpAnyH_take (i := 13) (v := _) rfl (by kernel_rfl) (by kernel_rfl) (by kernel_rfl) (fun _ _ _ h => h) (yieldsIf_load_mid (by rfl) _ _ rfl _ _ rfl (QA.toList) _ (fun w hSw => range_blk ((xr.trans hSw).keeps HB0.out)) Tryz.underlying45 rfl hiq) hHeld ?_
      simp only [Act.put, List.setIfInBounds_toArray, List.set_cons_zero, List.set_cons_succ, List.getElem_toArray, List.getElem_cons_zero, List.getElem_cons_succ]
      refine wpAnyH_all (rs := [14]) (by kernel_rfl) (by simp) ?_
      intro i hi; obtain rfl : i = 14 := by simpa using hi
      refine wpOp_run rfl (by rfl) ?_
      go_simp
      refine Calls.mono (refSameO _ (hdV d).obj.toArray QA d.vb d.ve d.vp vb ve vp d.o o ((HDW.out.ext (HX3.out.trans (xr.trans hHeld))).obj) (HH.out.ext (HX3.out.trans (xr.trans hHeld)))) ?_
      rintro e u6 ⟨rfl, xu6⟩
      rw [HSB.out]
      have hHeld := hHeld.trans xu6
      first | refine ⟨fun _ => hHeld, ?_⟩ | refine ⟨hHeld, ?_⟩
      try simp only [Act.put, List.setIfInBounds_toArray, List.set_cons_zero, List.set_cons_succ, List.getElem_toArray, List.getElem_cons_zero, List.getElem_cons_succ]
      refine wpAnyH_take (i := 15) (v := ?vpe15) rfl (by kernel_rfl) (by kernel_rfl) (by kernel_rfl) (fun _ _ _ h => h) (Or.inl ⟨by rfl, ?hype15⟩) hHeld ?_
      case hype15 => (intro w hSw; go_simp; try with_reducible rfl)
      simp only [Act.put, List.setIfInBounds_toArray, List.set_cons_zero, List.set_cons_succ, List.getElem_toArray, List.getElem_cons_zero, List.getElem_cons_succ]
      refine wpAnyH_done (by kernel_rfl) ?_ _
      refine NoPanic.normal ?_
      have HXU := Lib.hid (xr.trans hHeld)
      cases sb with
      | true =>
        have hput : putR os o = os := by
          unfold putR
          rw [if_pos]
          rw [List.any_eq_true]
          exact ⟨d.o, by rw [← HD1.out]; exact List.mem_map_of_mem HM.out, by rw [HSB.out, HI.out, ← HDI.out, HEQ.out]; simp⟩
        have HPUT := Lib.hid hput
        obtain ⟨w6, rfl⟩ : ∃ x, x = u6 := ⟨_, rfl⟩
        clear hput heq1
        go_upto_region 6 with fail
        refine wp_region_G 3 (fun v => Ext w6 v) (by kernel_rfl) fun wd hqd hHeld => ?_
        refine G_pure (i := 0) (u := ?vpf0) rfl (by kernel_rfl) (by kernel_rfl) (by kernel_rfl) (fun _ _ _ h => h) (by decide) (Or.inl ⟨by rfl, ?hypf0⟩) hHeld ?_
        case hypf0 => (intro w hSw; go_simp; try with_reducible rfl)
        simp only [Act.put, List.setIfInBounds_toArray, List.set_cons_zero, List.set_cons_succ, List.getElem_toArray, List.getElem_cons_zero, List.getElem_cons_succ]
        refine G_take (i := 1) (u := _) rfl (by kernel_rfl) (by kernel_rfl) (by kernel_rfl) (fun _ _ _ h => h) rfl (by kernel_rfl) (by decide) (by rfl) (yieldsIf_load_mid (by rfl) _ _ rfl _ _ rfl (I.map bc) _ (fun w hSw => range_blk ((HXU.out.trans hSw).keeps HBI.out)) Tryz.underlying31 rfl hii) hHeld ?_
        simp only [Act.put, List.setIfInBounds_toArray, List.set_cons_zero, List.set_cons_succ, List.getElem_toArray, List.getElem_cons_zero, List.getElem_cons_succ]
        refine G_pure (i := 2) (u := ?vpf2) rfl (by kernel_rfl) (by kernel_rfl) (by kernel_rfl) (fun _ _ _ h => h) (by decide) (Or.inl ⟨by rfl, ?hypf2⟩) hHeld ?_
        case hypf2 => (intro w hSw; go_simp; try with_reducible rfl)
        simp only [Act.put, List.setIfInBounds_toArray, List.set_cons_zero, List.set_cons_succ, List.getElem_toArray, List.getElem_cons_zero, List.getElem_cons_succ]
        refine G_all (rs := [3]) (by kernel_rfl) (by simp) ?_
        intro i hi; obtain rfl : i = 3 := by simpa using hi
        refine wpOp_run rfl (by rfl) ?_
        have bR7 := (HXU.out.trans hHeld).keeps HBR.out
        refine wp_store_row 31 (.tmp 5) (.tmp 33) rfl (G + 1) (I.map bc).toArray (by rfl) (by rfl) 31 _ bR7 (id_size hIl) (id_same (a := z32) rfl hIl) (id_one _) ?_
        try refine ⟨fun e => absurd e (by decide), ?_⟩
        refine G_free _ _ _ _ (by kernel_rfl) ?_
        try simp only [Act.put, List.setIfInBounds_toArray, List.set_cons_zero, List.set_cons_succ, List.getElem_toArray, List.getElem_cons_zero, List.getElem_cons_succ]
        refine wpAny_done (by kernel_rfl) ?_ _
        refine NoPanic.normal ?_
        go_wp2_with fail
        have hg : wd.grownBy (wd.setRow (G + 1) (I.map bc).toArray) (some (G + 1)) := grown_setRow'
        have f1 := setRow_heap wd (G + 1) _ (I.map bc).toArray _ _ bR7
        have XW := HX3.out.trans (HXU.out.trans hHeld)
        have xF := (HX.out.trans XW).grown hg (fun k hk => by cases hk; have := HX.out.size; omega)
        have hkp : ∀ (g : Nat) (c : Array Value) (t : TypeId) (f : Nat × Nat), w.heap[g]? = some (Obj.cells c t f) → (wd.setRow (G + 1) (I.map bc).toArray).heap[g]? = some (Obj.cells c t f) := fun g c t f hg2 => grown_other hg (XW.keeps hg2) (fun e => by have := block_lt hg2; omega)
        refine bodyPost_ret (results_tcI (p := 5) (r := 4) rfl _ _ (G + 1) _ _ _ _ (by rfl) f1 Tryz.underlying31 rfl (id_size hIl)) rfl ⟨_, by rw [HI.out], ?_, ?_, xF⟩
        · rw [HPUT.out]
          exact ⟨ds, HD1.out, fun d hd => ⟨(HD2.out d hd).1, (HD2.out d hd).2.1.keep fun g c t f hg2 _ => hkp g c t f hg2, (HD2.out d hd).2.2⟩, own_keep HD3.out fun g c hg2 => hkp g c _ _ hg2, by have := XW.size; have := hg.size; omega⟩
        · exact fun g x hg2 _ _ => grown_other hg (XW.keeps hg2) (fun e => by have := block_lt hg2; omega)
      | false =>
        clear heq1
        go_wp2_with fail
        go_roundg (ds.length - (j + 1))
        case measure => omega
        case rel =>
          refine ⟨j + 1, by omega, by omega, by go_num, fun e he => ?_, HXU.out⟩
          rw [HTK.out] at he
          rcases List.mem_append.1 he with q | q
          · exact HALL.out e q
          · rw [List.mem_singleton.1 q, HSB.out, Bool.and_false]
    · have heq1 : decide (d.id = I) = false := decide_eq_false heq
      have HEQ := Lib.hid heq
      clear heq
      refine wp_region_S (fun v => Ext wr v) (by kernel_rfl) (fun w' h => h) fun wd hqd xd hHeld => ?_
      refine wpAnyH_take (i := 0) (v := ?vpn0) rfl (by kernel_rfl) (by kernel_rfl) (by kernel_rfl) (fun _ _ _ h => h) (Or.inl ⟨by rfl, ?hypn0⟩) hHeld ?_
      case hypn0 => (intro w hSw; go_simp; try with_reducible rfl)
      simp only [Act.put, List.setIfInBounds_toArray, List.set_cons_zero, List.set_cons_succ, List.getElem_toArray, List.getElem_cons_zero, List.getElem_cons_succ]
      refine wpAnyH_take (i := 1) (v := ?vpn1) rfl (by kernel_rfl) (by kernel_rfl) (by kernel_rfl) (fun _ _ _ h => h) (Or.inl ⟨by rfl, ?hypn1⟩) hHeld ?_
      case hypn1 => (intro w hSw; go_simp; try with_reducible rfl)
      simp only [Act.put, List.setIfInBounds_toArray, List.set_cons_zero, List.set_cons_succ, List.getElem_toArray, List.getElem_cons_zero, List.getElem_cons_succ]
      refine wpAnyH_take (i := 2) (v := ?vpn2) rfl (by kernel_rfl) (by kernel_rfl) (by kernel_rfl) (fun _ _ _ h => h) (Or.inl ⟨by rfl, ?hypn2⟩) hHeld ?_
      case hypn2 => (intro w hSw; go_simp; try with_reducible rfl)
      simp only [Act.put, List.setIfInBounds_toArray, List.set_cons_zero, List.set_cons_succ, List.getElem_toArray, List.getElem_cons_zero, List.getElem_cons_succ]
      refine wpAnyH_take (i := 3) (v := ?vpn3) rfl (by kernel_rfl) (by kernel_rfl) (by kernel_rfl) (fun _ _ _ h => h) (Or.inl ⟨by rfl, ?hypn3⟩) hHeld ?_
      case hypn3 => (intro w hSw; go_simp; try with_reducible rfl)
      simp only [Act.put, List.setIfInBounds_toArray, List.set_cons_zero, List.set_cons_succ, List.getElem_toArray, List.getElem_cons_zero, List.getElem_cons_succ]
      refine wpAnyH_take (i := 4) (v := _) rfl (by kernel_rfl) (by kernel_rfl) (by kernel_rfl) (fun _ _ _ h => h) (yieldsIf_load_mid (by rfl) _ _ rfl _ _ rfl (d.id.map bc) _ (fun w hSw => rangeAt_ext HRI.out hSw) Tryz.underlying31 rfl hidi) hHeld ?_
      simp only [Act.put, List.setIfInBounds_toArray, List.set_cons_zero, List.set_cons_succ, List.getElem_toArray, List.getElem_cons_zero, List.getElem_cons_succ]
      refine wpAnyH_take (i := 5) (v := _) rfl (by kernel_rfl) (by kernel_rfl) (by kernel_rfl) (fun _ _ _ h => h) (yieldsIf_load_mid (by rfl) _ _ rfl _ _ rfl (I.map bc) _ (fun w hSw => range_blk ((xr.trans hSw).keeps HBI.out)) Tryz.underlying31 rfl hii) hHeld ?_
      simp only [Act.put, List.setIfInBounds_toArray, List.set_cons_zero, List.set_cons_succ, List.getElem_toArray, List.getElem_cons_zero, List.getElem_cons_succ]
      refine wpAnyH_take (i := 6) (v := ?vpn6) rfl (by kernel_rfl) (by kernel_rfl) (by kernel_rfl) (fun _ _ _ h => h) (Or.inl ⟨by rfl, ?hypn6⟩) hHeld ?_
      case hypn6 => (intro w hSw; have kk := hti w; go_simp; try with_reducible rfl)
      simp only [Act.put, List.setIfInBounds_toArray, List.set_cons_zero, List.set_cons_succ, List.getElem_toArray, List.getElem_cons_zero, List.getElem_cons_succ]
      refine wpAnyH_take (i := 7) (v := ?vpn7) rfl (by kernel_rfl) (by kernel_rfl) (by kernel_rfl) (fun _ _ _ h => h) (Or.inl ⟨by rfl, ?hypn7⟩) hHeld ?_
      case hypn7 => (intro w hSw; go_simp; try with_reducible rfl)
      simp only [Act.put, List.setIfInBounds_toArray, List.set_cons_zero, List.set_cons_succ, List.getElem_toArray, List.getElem_cons_zero, List.getElem_cons_succ]
      refine wpAnyH_take (i := 8) (v := undef) rfl (by kernel_rfl) (by kernel_rfl) (by kernel_rfl) (fun _ _ _ h => h) (Or.inr ⟨by rfl, rfl⟩) hHeld ?_
      simp only [Act.put, List.setIfInBounds_toArray, List.set_cons_zero, List.set_cons_succ, List.getElem_toArray, List.getElem_cons_zero, List.getElem_cons_succ]
      refine wpAnyH_take (i := 9) (v := undef) rfl (by kernel_rfl) (by kernel_rfl) (by kernel_rfl) (fun _ _ _ h => h) (Or.inr ⟨by rfl, rfl⟩) hHeld ?_
      simp only [Act.put, List.setIfInBounds_toArray, List.set_cons_zero, List.set_cons_succ, List.getElem_toArray, List.getElem_cons_zero, List.getElem_cons_succ]
      refine wpAnyH_take (i := 10) (v := undef) rfl (by kernel_rfl) (by kernel_rfl) (by kernel_rfl) (fun _ _ _ h => h) (Or.inr ⟨by rfl, rfl⟩) hHeld ?_
      simp only [Act.put, List.setIfInBounds_toArray, List.set_cons_zero, List.set_cons_succ, List.getElem_toArray, List.getElem_cons_zero, List.getElem_cons_succ]
      refine wpAnyH_take (i := 11) (v := undef) rfl (by kernel_rfl) (by kernel_rfl) (by kernel_rfl) (fun _ _ _ h => h) (Or.inr ⟨by rfl, rfl⟩) hHeld ?_
      simp only [Act.put, List.setIfInBounds_toArray, List.set_cons_zero, List.set_cons_succ, List.getElem_toArray, List.getElem_cons_zero, List.getElem_cons_succ]
      refine wpAnyH_take (i := 12) (v := undef) rfl (by kernel_rfl) (by kernel_rfl) (by kernel_rfl) (fun _ _ _ h => h) (Or.inr ⟨by rfl, rfl⟩) hHeld ?_
      simp only [Act.put, List.setIfInBounds_toArray, List.set_cons_zero, List.set_cons_succ, List.getElem_toArray, List.getElem_cons_zero, List.getElem_cons_succ]
      refine wpAnyH_take (i := 13) (v := undef) rfl (by kernel_rfl) (by kernel_rfl) (by kernel_rfl) (fun _ _ _ h => h) (Or.inr ⟨by rfl, rfl⟩) hHeld ?_
      simp only [Act.put, List.setIfInBounds_toArray, List.set_cons_zero, List.set_cons_succ, List.getElem_toArray, List.getElem_cons_zero, List.getElem_cons_succ]
      refine wpAnyH_take (i := 14) (v := undef) rfl (by kernel_rfl) (by kernel_rfl) (by kernel_rfl) (fun _ _ _ h => h) (Or.inr ⟨by rfl, rfl⟩) hHeld ?_
      simp only [Act.put, List.setIfInBounds_toArray, List.set_cons_zero, List.set_cons_succ, List.getElem_toArray, List.getElem_cons_zero, List.getElem_cons_succ]
      refine wpAnyH_take (i := 15) (v := ?vpn15) rfl (by kernel_rfl) (by kernel_rfl) (by kernel_rfl) (fun _ _ _ h => h) (Or.inl ⟨by rfl, ?hypn15⟩) hHeld ?_
      case hypn15 => (intro w hSw; go_simp; try with_reducible rfl)
      simp only [Act.put, List.setIfInBounds_toArray, List.set_cons_zero, List.set_cons_succ, List.getElem_toArray, List.getElem_cons_zero, List.getElem_cons_succ]
      refine wpAnyH_done (by kernel_rfl) ?_ _
      refine NoPanic.normal ?_
      go_wp2_with fail
      go_roundg (ds.length - (j + 1))
      case measure => omega
      case rel =>
        refine ⟨j + 1, by omega, by omega, by go_num, fun e he => ?_, xr.trans xd⟩
        rw [HTK.out] at he
        rcases List.mem_append.1 he with q | q
        · exact HALL.out e q
        · rw [List.mem_singleton.1 q, ← HDI.out, decide_eq_false HEQ.out, Bool.false_and]
  · have ej : j = ds.length := by omega
    have hall := HALL.out
    rw [ej, List.take_length] at hall
    have hput : putR os o = os ++ [o] := by
      unfold putR
      rw [if_neg]
      rw [List.any_eq_true]
      rintro ⟨x, hx, hp⟩
      rw [← HD1.out] at hx
      obtain ⟨d, hd, rfl⟩ := List.mem_map.1 hx
      rw [HI.out, hall d hd] at hp
      cases hp
    have HPUT := Lib.hid hput
    have hok2 : HdOk ⟨I, QA.toList⟩ := obj_hdOk HH.out I hIl
    have HOK2 := Lib.hid hok2
    have hbd := built_hd ⟨I, QA.toList⟩ hok2
    have hbh := fun w => build_hd w ⟨I, QA.toList⟩ hok2
    obtain ⟨zH, tyH⟩ := tyHd
    have hown3 := ownsRow_ext HD3.out (HX3.out.trans xr)
    have HOW := Lib.hid hown3
    have hnM := own_neH hown3 (xr.keeps HBI.out) (by decide)
    have hnG := own_neH hown3 (xr.keeps HB0.out) (by decide)
    have hnR := own_neH hown3 (xr.keeps HBR.out) (by decide)
    have HNM := Lib.hid hnM
    have HNG := Lib.hid hnG
    have HNR := Lib.hid hnR
    have hwd : base ≤ wr.heap.size := by have := HX3.out.size; have := xr.size; omega
    clear hall hput ej hok2 hown3 hnM hnG hnR
    go_upto_region 7 with fail
    obtain ⟨SS, hSS⟩ : ∃ SS : World → Prop, SS = fun v => v.heap[M]? = some (.cells (I.map bc).toArray 31 (0, 0)) ∧ v.heap[G]? = some (.cells QA 45 (0, 0)) := ⟨_, rfl⟩
    have KM := fun v (h : SS v) => range_blk (show v.heap[M]? = _ from by rw [hSS] at h; exact h.1)
    have KG := fun v (h : SS v) => range_blk (show v.heap[G]? = _ from by rw [hSS] at h; exact h.2)
    have HSS := Lib.hid hSS
    clear hSS
    refine wp_region_G 8 (SS) (by kernel_rfl) fun wd hqd hHeld => ?_
    have hE : Ext wr wd := hHeld
    have hHeld : SS wd := by rw [HSS.out]; exact ⟨hE.keeps (xr.keeps HBI.out), hE.keeps (xr.keeps HB0.out)⟩
    refine G_pure (i := 0) (u := ?vpg0) rfl (by kernel_rfl) (by kernel_rfl) (by kernel_rfl) (fun _ _ _ h => h) (by decide) (Or.inl ⟨by rfl, ?hypg0⟩) hHeld ?_
    case hypg0 => (intro w hSw; go_simp; try with_reducible rfl)
    simp only [Act.put, List.setIfInBounds_toArray, List.set_cons_zero, List.set_cons_succ, List.getElem_toArray, List.getElem_cons_zero, List.getElem_cons_succ]
    refine G_take (i := 1) (u := _) rfl (by kernel_rfl) (by kernel_rfl) (by kernel_rfl) (fun _ _ _ h => h) rfl (by kernel_rfl) (by decide) (by rfl) (yieldsIf_load_mid (by rfl) _ _ rfl _ _ rfl (I.map bc) _ (fun w hSw => KM _ hSw) Tryz.underlying31 rfl hii) hHeld ?_
    simp only [Act.put, List.setIfInBounds_toArray, List.set_cons_zero, List.set_cons_succ, List.getElem_toArray, List.getElem_cons_zero, List.getElem_cons_succ]
    refine G_take (i := 2) (u := _) rfl (by kernel_rfl) (by kernel_rfl) (by kernel_rfl) (fun _ _ _ h => h) rfl (by kernel_rfl) (by decide) (by rfl) (yieldsIf_load_mid (by rfl) _ _ rfl _ _ rfl (QA.toList) _ (fun w hSw => KG _ hSw) Tryz.underlying45 rfl hiq) hHeld ?_
    simp only [Act.put, List.setIfInBounds_toArray, List.set_cons_zero, List.set_cons_succ, List.getElem_toArray, List.getElem_cons_zero, List.getElem_cons_succ]
    refine G_take (i := 6) (u := _) rfl (by kernel_rfl) (by kernel_rfl) (by kernel_rfl) (fun _ _ _ h => h) rfl (by kernel_rfl) (by decide) (by rfl) (yieldsIf_load_mid (by rfl) _ _ rfl _ _ rfl (I.map bc) _ (fun w hSw => KM _ hSw) Tryz.underlying31 rfl hii) hHeld ?_
    simp only [Act.put, List.setIfInBounds_toArray, List.set_cons_zero, List.set_cons_succ, List.getElem_toArray, List.getElem_cons_zero, List.getElem_cons_succ]
    refine G_all (rs := [3]) (by kernel_rfl) (by simp) ?_
    intro i hi; obtain rfl : i = 3 := by simpa using hi
    refine wpOp_run rfl (by rfl) ?_
    refine wp_bldO 47 _ rfl [(0, .agg (I.map bc).toArray), (1, .agg QA.toList.toArray)] (by rfl) _ hbd ?_
    first | refine ⟨fun _ => hHeld, ?_⟩ | refine ⟨hHeld, ?_⟩ | skip
    try simp only [Act.put, List.setIfInBounds_toArray, List.set_cons_zero, List.set_cons_succ, List.getElem_toArray, List.getElem_cons_zero, List.getElem_cons_succ]
    refine G_all (rs := [4]) (by kernel_rfl) (by simp) ?_
    intro i hi; obtain rfl : i = 4 := by simpa using hi
    refine wpOp_run rfl (by rfl) ?_
    refine wp_buildOne 27 (.tmp 37) rfl (hdC ⟨I, QA.toList⟩) (by rfl) (hbh _) ?_
    have xb : Ext wd (wd.alloc (.cells (hdC ⟨I, QA.toList⟩).toArray 47)) := (Ext.refl wd).alloc _
    have hE2 := hE.trans xb
    have hHeld : SS (wd.alloc (.cells (hdC ⟨I, QA.toList⟩).toArray 47)) := by rw [HSS.out]; exact ⟨hE2.keeps (xr.keeps HBI.out), hE2.keeps (xr.keeps HB0.out)⟩
    first | refine ⟨fun _ => hHeld, ?_⟩ | refine ⟨hHeld, ?_⟩ | skip
    try simp only [Act.put, List.setIfInBounds_toArray, List.set_cons_zero, List.set_cons_succ, List.getElem_toArray, List.getElem_cons_zero, List.getElem_cons_succ]
    refine G_all (rs := [5]) (by kernel_rfl) (by simp) ?_
    intro i hi; obtain rfl : i = 5 := by simpa using hi
    refine wpOp_run rfl (by rfl) ?_
    refine wp_appO tyH (.tmp 34) (.tmp 38) rfl base _ ds.length _ (ownsRow_ext HOW.out hE2) (by rfl) _ 1 (hdC ⟨I, QA.toList⟩) (sl_one_new (w := wd) (n := 70) (e := 47) (Q := hdC ⟨I, QA.toList⟩) rfl (hdC_len HOK2.out)) (by rfl) (hd_one HOK2.out) (by omega) (by omega) (Nat.le_trans hwd hE2.size) ?_
    intro v9 w9 own9 gr9
    obtain ⟨a9, c9, e9⟩ := ownSh own9
    subst e9
    have hHeld : SS w9 := by rw [HSS.out]; exact ⟨grown_keep gr9 (hE2.keeps (xr.keeps HBI.out)) HNM.out, grown_keep gr9 (hE2.keeps (xr.keeps HB0.out)) HNG.out⟩
    first | refine ⟨fun _ => hHeld, ?_⟩ | refine ⟨hHeld, ?_⟩ | skip
    try simp only [Act.put, List.setIfInBounds_toArray, List.set_cons_zero, List.set_cons_succ, List.getElem_toArray, List.getElem_cons_zero, List.getElem_cons_succ]
    refine G_pure (i := 7) (u := ?vpg7) rfl (by kernel_rfl) (by kernel_rfl) (by kernel_rfl) (fun _ _ _ h => h) (by decide) (Or.inl ⟨by rfl, ?hypg7⟩) hHeld ?_
    case hypg7 => (intro w hSw; go_simp; try with_reducible rfl)
    simp only [Act.put, List.setIfInBounds_toArray, List.set_cons_zero, List.set_cons_succ, List.getElem_toArray, List.getElem_cons_zero, List.getElem_cons_succ]
    refine G_all (rs := [8]) (by kernel_rfl) (by simp) ?_
    intro i hi; obtain rfl : i = 8 := by simpa using hi
    refine wpOp_run rfl (by rfl) ?_
    have bR9 := grown_keep gr9 (hE2.keeps (xr.keeps HBR.out)) HNR.out
    refine wp_store_row 31 (.tmp 5) (.tmp 40) rfl (G + 1) (I.map bc).toArray (by rfl) (by rfl) 31 _ bR9 (id_size hIl) (id_same (a := z32) rfl hIl) (id_one _) ?_
    try refine ⟨fun e => absurd e (by decide), ?_⟩
    refine G_free _ _ _ _ (by kernel_rfl) ?_
    try simp only [Act.put, List.setIfInBounds_toArray, List.set_cons_zero, List.set_cons_succ, List.getElem_toArray, List.getElem_cons_zero, List.getElem_cons_succ]
    refine wpAny_done (by kernel_rfl) ?_ _
    refine NoPanic.normal ?_
    go_wp2_with fail
    have gF : w9.grownBy (w9.setRow (G + 1) (I.map bc).toArray) (some (G + 1)) := grown_setRow'
    have hfin : (w9.setRow (G + 1) (I.map bc).toArray).heap[G + 1]? = some (.cells (I.map bc).toArray 31 (0, 0)) := setRow_heap _ _ _ _ _ _ bR9
    have hG9 : G + 1 < w9.heap.size := block_lt bR9
    have nn : (Value.slice a9 (ds.length + 1) c9).ownBlock ≠ some (G + 1) := own_neH own9 bR9 (by decide)
    have oldlt : ∀ k, (Value.slice av0 ds.length cv).ownBlock = some k → base ≤ k ∧ k < G := fun k hk => by have := HD3.out.lt k hk; omega
    have XW := HX3.out.trans (xr.trans hE2)
    have xF : Ext W0 (w9.setRow (G + 1) (I.map bc).toArray) :=
      ((HX.out.trans XW).grown gr9 (fun k hk => by have := oldlt k hk; omega)).grown gF (fun k hk => by cases hk; have := HX.out.size; omega)
    have hk9 : KeepH w (w9.setRow (G + 1) (I.map bc).toArray) := fun g x hg n1 _ => by
      have hlt := block_lt hg
      refine grown_other gF (grown_keep gr9 (XW.keeps hg) (fun e => ?_)) (by omega)
      rcases HD3.out.2 with ⟨e0, _⟩ | ⟨g', cap, cur, e0, _, hh, _⟩
      · rw [e0] at e
        simp [Value.ownBlock] at e
      · rw [e0] at e
        simp [Value.ownBlock] at e
        subst e
        rw [hh] at hg
        exact n1 _ _ (Option.some.inj hg).symm
    refine bodyPost_ret (results_tcI (p := 5) (r := 4) rfl _ _ (G + 1) _ _ _ _ (by rfl) hfin Tryz.underlying31 rfl (id_size hIl)) rfl ⟨_, by rw [HI.out], ?_, hk9, xF⟩
    rw [HPUT.out]
    refine ⟨ds ++ [⟨I, o, vb, ve, vp⟩], by rw [List.map_append, HD1.out]; rfl, fun d hd => ?_, ?_, ?_⟩
    · rcases List.mem_append.1 hd with q | q
      · exact ⟨(HD2.out d q).1, (HD2.out d q).2.1.keepH hk9, (HD2.out d q).2.2⟩
      · rw [List.mem_singleton.1 q]
        exact ⟨HI.out.symm, (by have hq := HO.out.keepH hk9; rw [HI.out] at hq; exact hq), HAV.out⟩
    · have own10 := ownsRow_grown own9 gF nn
      rw [← HQA.out] at own10
      rw [List.length_append, List.map_append, List.flatMap_append]
      simpa [hdV] using own10
    · have h1 := XW.size
      have h2 := gr9.size
      have h3 := gF.size
      have h4 := HX.out.size
      exact Nat.le_trans d4 (Nat.le_trans h1 (Nat.le_trans h2 h3))
end Go.Proofs.YtpadfabjihaapaaGreatDoor

namespace Go.Proofs.YtpadfabjihaapaaGreatDoor
open Go.RowKit
set_option linter.unusedVariables false
set_option linter.unusedSimpArgs false

def stepR (rc : List ObjL → List Fl → List ObjL × List UInt8) (l : List Fl) (a : List ObjL × List EntL) (nm : ByteArray) : List ObjL × List EntL :=
  if belowF l nm = [] then (putR a.1 (blobO (bL ((textO l nm).getD ⟨#[]⟩))), a.2 ++ [⟨nm, false, idL (blobO (bL ((textO l nm).getD ⟨#[]⟩)))⟩])
  else ((rc a.1 (belowF l nm)).1, a.2 ++ [⟨nm, true, (rc a.1 (belowF l nm)).2⟩])
/-- The document's folder. -/
def folderR : Nat → List ObjL → List Fl → List ObjL × List UInt8
  | 0, os, _ => (os, z32)
  | k + 1, os, l =>
    let r := (sortN (namesF l)).foldl (stepR (folderR k) l) (os, [])
    (putR r.1 (treeO r.2), idL (treeO r.2))
def Ids (L : List ObjL) : Prop := L.Pairwise fun a b => idL a ≠ idL b
/-- The splitter's state and the document's objects. -/
def RelS (st : StS) (L : List ObjL) : Prop := (st.2 = false → L = st.1 ∧ Ids L) ∧ (st.2 = true → ¬ Ids L)
theorem ids_uniq : ∀ {l : List ObjL}, Ids l → ∀ x ∈ l, ∀ y ∈ l, idL x = idL y → x = y
  | [], _, x, hx, _, _, _ => by cases hx
  | a :: r, h, x, hx, y, hy, e => by
    have h' := List.pairwise_cons.1 h
    rcases List.mem_cons.1 hx with q | q
    · rcases List.mem_cons.1 hy with z | z
      · rw [q, z]
      · rw [q] at e
        exact absurd e (h'.1 y z)
    · rcases List.mem_cons.1 hy with z | z
      · rw [z] at e
        exact absurd e.symm (h'.1 x q)
      · exact ids_uniq h'.2 x q y z e
theorem ids_more {L : List ObjL} {o : ObjL} (h : ¬ Ids L) : ¬ Ids (L ++ [o]) := fun q => h (List.Pairwise.sublist (List.sublist_append_left L [o]) q)
theorem RelS.put {os L : List ObjL} {tw : Bool} (h : RelS (os, tw) L) (o : ObjL) : RelS (putS os tw o) (putR L o) := by
  cases tw with
  | true =>
    have hn := h.2 rfl
    have e : (putS os true o).2 = true := by unfold putS; split <;> simp
    refine ⟨fun q => (by rw [e] at q; cases q), fun _ => ?_⟩
    unfold putR
    split
    · exact hn
    · exact ids_more hn
  | false =>
    obtain ⟨e0, hi⟩ := h.1 rfl
    have e1 : L = os := e0
    clear e0
    subst e1
    unfold putS
    cases hf : L.find? (fun x => decide (idL x = idL o)) with
    | none =>
      have hno : ∀ x ∈ L, idL x ≠ idL o := fun x hx => by simpa using List.find?_eq_none.1 hf x hx
      have ha : (L.any fun x => decide (idL x = idL o) && sameB x o) = false := by
        rw [List.any_eq_false]
        intro x hx
        rw [decide_eq_false (hno x hx), Bool.false_and]
        decide
      refine ⟨fun _ => ?_, fun q => by cases q⟩
      unfold putR
      rw [ha, if_neg (by decide)]
      refine ⟨rfl, ?_⟩
      unfold Ids
      rw [List.pairwise_append]
      exact ⟨hi, List.pairwise_singleton _ _, fun x hx y hy => by rw [List.mem_singleton.1 hy]; exact hno x hx⟩
    | some x =>
      have hx := List.mem_of_find?_eq_some hf
      have hxi : idL x = idL o := by simpa using List.find?_some hf
      cases hs : sameB x o with
      | true =>
        have ha : (L.any fun x => decide (idL x = idL o) && sameB x o) = true := by
          rw [List.any_eq_true]
          exact ⟨x, hx, by rw [decide_eq_true hxi, hs]; rfl⟩
        refine ⟨fun _ => ?_, fun q => by simp [hs] at q⟩
        unfold putR
        rw [if_pos ha]
        exact ⟨rfl, hi⟩
      | false =>
        have ha : (L.any fun x => decide (idL x = idL o) && sameB x o) = false := by
          rw [List.any_eq_false]
          intro y hy
          by_cases e : idL y = idL o
          · have := ids_uniq hi y hy x hx (by rw [e, hxi])
            rw [this, hs, Bool.and_false]
            decide
          · rw [decide_eq_false e, Bool.false_and]
            decide
        refine ⟨fun q => by simp [hs] at q, fun _ => ?_⟩
        unfold putR
        rw [ha, if_neg (by decide)]
        intro q
        have := (List.pairwise_append.1 q).2.2 x hx o (by simp)
        exact this hxi
theorem RelS.folder : ∀ (k : Nat) {st : StS} {L : List ObjL} (l : List Fl), RelS st L → RelS (folderS k st l).1 (folderR k L l).1 ∧ (folderS k st l).2 = (folderR k L l).2
  | 0, st, L, l, h => ⟨h, rfl⟩
  | k + 1, st, L, l, h => by
    have hstep : ∀ (ns : List ByteArray) (a : StS × List EntL) (b : List ObjL × List EntL), RelS a.1 b.1 → a.2 = b.2 → RelS (ns.foldl (stepS (folderS k) l) a).1 (ns.foldl (stepR (folderR k) l) b).1 ∧ (ns.foldl (stepS (folderS k) l) a).2 = (ns.foldl (stepR (folderR k) l) b).2 := by
      intro ns
      induction ns with
      | nil => intro a b h1 h2; exact ⟨h1, h2⟩
      | cons n r ih =>
        intro a b h1 h2
        rw [List.foldl_cons, List.foldl_cons]
        refine ih _ _ ?_ ?_
        · unfold stepS stepR
          split
          · exact RelS.put (os := a.1.1) (tw := a.1.2) h1 _
          · exact (RelS.folder k (belowF l n) h1).1
        · unfold stepS stepR
          split
          · simp only [h2]
          · simp only [h2, (RelS.folder k (belowF l n) h1).2]
    have hs := hstep (sortN (namesF l)) (st, []) (L, []) h rfl
    unfold folderS folderR
    simp only
    rw [hs.2]
    exact ⟨RelS.put (os := _) (tw := _) hs.1 _, rfl⟩
theorem RelS.start : RelS (([] : List ObjL), false) [] := ⟨fun _ => ⟨rfl, List.Pairwise.nil⟩, fun q => by cases q⟩
theorem putR_len (os : List ObjL) (o : ObjL) : (putR os o).length ≤ os.length + 1 := by unfold putR; split <;> simp
theorem folderR_len : ∀ (k : Nat) (st : List ObjL) (l : List Fl), l.length ≤ 16 → (folderR k st l).1.length ≤ st.length + costS k
  | 0, st, l, _ => by unfold folderR; simp
  | k + 1, st, l, hl => by
    have hstep : ∀ (ns : List ByteArray) (a : List ObjL × List EntL), (ns.foldl (stepR (folderR k) l) a).1.length ≤ a.1.length + ns.length * costS k := by
      intro ns
      induction ns with
      | nil => intro a; simp
      | cons n r ih =>
        intro a
        rw [List.foldl_cons, List.length_cons]
        have h1 := ih (stepR (folderR k) l a n)
        have h2 : (stepR (folderR k) l a n).1.length ≤ a.1.length + costS k := by
          unfold stepR
          split
          · have := putR_len a.1 (blobO (bL ((textO l n).getD ⟨#[]⟩)))
            have := costS_pos k
            simp only
            omega
          · exact folderR_len k a.1 _ (Nat.le_trans (belowF_len l n) hl)
        rw [Nat.add_mul]
        omega
    have h1 := hstep (sortN (namesF l)) (st, [])
    have h2 : (sortN (namesF l)).length ≤ 16 := by rw [sortN_len]; exact Nat.le_trans (namesF_len l) hl
    have h3 : (sortN (namesF l)).length * costS k ≤ 16 * costS k := Nat.mul_le_mul_right _ h2
    unfold folderR
    simp only
    have h4 := putR_len ((sortN (namesF l)).foldl (stepR (folderR k) l) (st, [])).1 (treeO ((sortN (namesF l)).foldl (stepR (folderR k) l) (st, [])).2)
    unfold costS
    simp only at h1
    omega
/-- A name put in its place, once. -/
def insN (l : List ByteArray) (x : ByteArray) : List ByteArray := (l.filter fun y => bl y x) ++ x :: l.filter fun y => bl x y
theorem foldN_sorted : ∀ (l : List Fl) (a : List ByteArray), a.Pairwise (fun x y => bl x y = true) → (l.foldl (fun a f => insN a (cutN f.path)) a).Pairwise (fun x y => bl x y = true)
  | [], a, h => h
  | f :: r, a, h => by
    rw [List.foldl_cons]
    refine foldN_sorted r _ ?_
    unfold insN
    rw [List.pairwise_append]
    refine ⟨List.Pairwise.sublist List.filter_sublist h, List.pairwise_cons.2 ⟨fun g hg => (List.mem_filter.1 hg).2, List.Pairwise.sublist List.filter_sublist h⟩, fun g hg y hy => ?_⟩
    have h1 := (List.mem_filter.1 hg).2
    rcases List.mem_cons.1 hy with rfl | q
    · exact h1
    · exact bl_tr h1 (List.mem_filter.1 q).2
theorem insN_mem {l : List ByteArray} {x y : ByteArray} : y ∈ insN l x ↔ (y = x ∨ y ∈ l) := by
  unfold insN
  constructor
  · intro h
    rcases List.mem_append.1 h with q | q
    · exact .inr (List.mem_filter.1 q).1
    · rcases List.mem_cons.1 q with q | q
      · exact .inl q
      · exact .inr (List.mem_filter.1 q).1
  · rintro (rfl | h)
    · simp
    · cases h1 : bl y x with
      | true => exact List.mem_append_left _ (List.mem_filter.2 ⟨h, h1⟩)
      | false =>
        cases h2 : bl x y with
        | true => exact List.mem_append_right _ (List.mem_cons_of_mem _ (List.mem_filter.2 ⟨h, h2⟩))
        | false => rw [bl_eq h1 h2]; simp
theorem foldN_mem (x : ByteArray) : ∀ (l : List Fl) (a : List ByteArray), x ∈ l.foldl (fun a f => insN a (cutN f.path)) a ↔ (x ∈ a ∨ ∃ f ∈ l, cutN f.path = x)
  | [], a => by simp
  | f :: r, a => by
    rw [List.foldl_cons, foldN_mem x r, insN_mem]
    constructor
    · rintro ((rfl | h) | ⟨g, hg, e⟩)
      · exact .inr ⟨f, List.mem_cons_self .., rfl⟩
      · exact .inl h
      · exact .inr ⟨g, List.mem_cons_of_mem _ hg, e⟩
    · rintro (h | ⟨g, hg, e⟩)
      · exact .inl (.inr h)
      · rcases List.mem_cons.1 hg with rfl | q
        · exact .inl (.inl e.symm)
        · exact .inr ⟨g, q, e⟩
theorem addN_mem (x : ByteArray) : ∀ (l : List Fl) (a : List ByteArray), x ∈ l.foldl addN a ↔ (x ∈ a ∨ ∃ f ∈ l, cutN f.path = x)
  | [], a => by simp
  | f :: r, a => by
    rw [List.foldl_cons, addN_mem x r]
    have : x ∈ addN a f ↔ (x ∈ a ∨ cutN f.path = x) := by
      unfold addN
      split
      · rename_i h
        constructor
        · exact .inl
        · rintro (q | q)
          · exact q
          · rw [← q]; exact hasS_iff.1 h
      · simp [eq_comm]
    rw [this]
    constructor
    · rintro ((h | h) | ⟨g, hg, e⟩)
      · exact .inl h
      · exact .inr ⟨f, List.mem_cons_self .., h⟩
      · exact .inr ⟨g, List.mem_cons_of_mem _ hg, e⟩
    · rintro (h | ⟨g, hg, e⟩)
      · exact .inl (.inl h)
      · rcases List.mem_cons.1 hg with rfl | q
        · exact .inl (.inr e)
        · exact .inr ⟨g, q, e⟩
theorem perm_memN {α : Type} [DecidableEq α] : ∀ {l1 l2 : List α}, l1.Nodup → l2.Nodup → (∀ x, x ∈ l1 ↔ x ∈ l2) → l1.Perm l2
  | [], l2, _, _, h => by
    cases l2 with
    | nil => exact List.Perm.refl _
    | cons y s => exact absurd ((h y).2 (List.mem_cons_self ..)) (by simp)
  | x :: r, l2, h1, h2, h => by
    have hx : x ∈ l2 := (h x).1 (List.mem_cons_self ..)
    have h1' := List.nodup_cons.1 h1
    refine List.Perm.trans (List.Perm.cons x (perm_memN h1'.2 (h2.erase x) fun y => ?_)) (List.perm_cons_erase hx).symm
    rw [h2.mem_erase_iff]
    constructor
    · intro hy
      exact ⟨fun e => h1'.1 (e ▸ hy), (h y).1 (List.mem_cons_of_mem _ hy)⟩
    · rintro ⟨hne, hy⟩
      rcases List.mem_cons.1 ((h y).2 hy) with q | q
      · exact absurd q hne
      · exact q
/-- The names in order, each once, are the sorted names. -/
theorem names_sorted (l : List Fl) : l.foldl (fun a f => insN a (cutN f.path)) [] = sortN (namesF l) := by
  have hs := foldN_sorted l [] List.Pairwise.nil
  have hr := sortN_rises (namesF_nodup l)
  have hn : ∀ {m : List ByteArray}, m.Pairwise (fun x y => bl x y = true) → m.Nodup := fun hm => hm.imp fun hx e => by rw [e, bl_irr] at hx; cases hx
  have hnl : ∀ x y : ByteArray, nl x y = bl x y := fun x y => rfl
  refine sorted_uniq id (perm_memN (hn hs) (hn hr) fun x => ?_) (hs.imp fun hx => ?_) (hr.imp fun hx => hx)
  · rw [foldN_mem, sortN_mem]
    unfold namesF
    rw [addN_mem]
  · show nl _ _ = false
    rw [hnl]
    exact bl_as hx
end Go.Proofs.YtpadfabjihaapaaGreatDoor

namespace Go.Proofs.YtpadfabjihaapaaGreatDoor
open Go.RowKit
set_option linter.unusedVariables false
set_option linter.unusedSimpArgs false

/-- One round of putting a name in its place. -/
def stepP (x : ByteArray) (a : List ByteArray × Bool) (y : ByteArray) : List ByteArray × Bool := ((if (!a.2 && bl x y) = true then a.1 ++ [x] else a.1) ++ [y], (a.2 || bl x y) || x.toList == y.toList)
def insP (l : List ByteArray) (x : ByteArray) : List ByteArray := if (l.foldl (stepP x) ([], false)).2 = true then (l.foldl (stepP x) ([], false)).1 else (l.foldl (stepP x) ([], false)).1 ++ [x]
theorem stepP_true (x : ByteArray) : ∀ (l a : List ByteArray), l.foldl (stepP x) (a, true) = (a ++ l, true)
  | [], a => by simp
  | y :: r, a => by
    rw [List.foldl_cons]
    have : stepP x (a, true) y = (a ++ [y], true) := by simp [stepP]
    rw [this, stepP_true x r]
    simp
theorem filt_all {l : List ByteArray} {p : ByteArray → Bool} (h : ∀ y ∈ l, p y = true) : l.filter p = l := List.filter_eq_self.2 h
theorem filt_no {l : List ByteArray} {p : ByteArray → Bool} (h : ∀ y ∈ l, p y = false) : l.filter p = [] := by
  rw [List.filter_eq_nil_iff]
  intro y hy
  rw [h y hy]
  exact Bool.false_ne_true
theorem stepP_all (x : ByteArray) : ∀ (l a : List ByteArray), l.Pairwise (fun x y => bl x y = true) → (if (l.foldl (stepP x) (a, false)).2 = true then (l.foldl (stepP x) (a, false)).1 else (l.foldl (stepP x) (a, false)).1 ++ [x]) = a ++ insN l x
  | [], a, _ => by simp [insN]
  | y :: r, a, h => by
    have h' := List.pairwise_cons.1 h
    rw [List.foldl_cons]
    cases h1 : bl x y with
    | true =>
      have e : stepP x (a, false) y = (a ++ [x, y], true) := by simp [stepP, h1]
      rw [e, stepP_true]
      have e1 : bl y x = false := bl_as h1
      have hr : ∀ z ∈ r, bl x z = true := fun z hz => bl_tr h1 (h'.1 z hz)
      unfold insN
      rw [filt_no (l := y :: r) (p := fun z => bl z x) (fun z hz => by rcases List.mem_cons.1 hz with q | q; rw [q]; exact e1; exact bl_as (hr z q)),
        filt_all (l := y :: r) (p := fun z => bl x z) (fun z hz => by rcases List.mem_cons.1 hz with q | q; rw [q]; exact h1; exact hr z q)]
      simp
    | false =>
      by_cases h2 : x = y
      · have e : stepP x (a, false) y = (a ++ [y], true) := by simp [stepP, h2, bl_irr]
        rw [e, stepP_true]
        subst h2
        have hr : ∀ z ∈ r, bl x z = true := h'.1
        unfold insN
        rw [List.filter_cons_of_neg (by rw [bl_irr]; exact Bool.false_ne_true), List.filter_cons_of_neg (by rw [bl_irr]; exact Bool.false_ne_true),
          filt_no (p := fun z => bl z x) (fun z hz => bl_as (hr z hz)), filt_all (p := fun z => bl x z) (fun z hz => hr z hz)]
        simp
      · have h3 : bl y x = true := by
          cases h4 : bl y x with
          | true => rfl
          | false => exact absurd (bl_eq h1 h4) h2
        have e : stepP x (a, false) y = (a ++ [y], false) := by
          have : (x.toList == y.toList) = false := by
            cases q : (x.toList == y.toList) with
            | false => rfl
            | true => exact absurd (beq_nm.1 q) h2
          simp [stepP, h1, this]
        rw [e, stepP_all x r _ h'.2]
        unfold insN
        rw [List.filter_cons_of_pos (by exact h3), List.filter_cons_of_neg (by rw [h1]; exact Bool.false_ne_true)]
        simp
theorem insP_eq {l : List ByteArray} (h : l.Pairwise (fun x y => bl x y = true)) (x : ByteArray) : insP l x = insN l x := by
  have := stepP_all x l [] h
  unfold insP
  simpa using this
theorem foldP_eq : ∀ (l : List Fl) (a : List ByteArray), a.Pairwise (fun x y => bl x y = true) → l.foldl (fun a f => insP a (cutN f.path)) a = l.foldl (fun a f => insN a (cutN f.path)) a
  | [], a, _ => rfl
  | f :: r, a, h => by
    rw [List.foldl_cons, List.foldl_cons, insP_eq h]
    exact foldP_eq r _ (by simpa using foldN_sorted [f] a h)
theorem namesP (l : List Fl) : l.foldl (fun a f => insP a (cutN f.path)) [] = sortN (namesF l) := by rw [foldP_eq l [] List.Pairwise.nil, names_sorted]
theorem stepP_len (x : ByteArray) : ∀ (l : List ByteArray) (a : List ByteArray × Bool), (l.foldl (stepP x) a).1.length ≤ a.1.length + 2 * l.length
  | [], a => by simp
  | y :: r, a => by
    rw [List.foldl_cons, List.length_cons]
    have := stepP_len x r (stepP x a y)
    have h2 : (stepP x a y).1.length ≤ a.1.length + 2 := by unfold stepP; simp only; split <;> simp
    omega

theorem HeapA.ext {w w' : World} {base : Nat} {av : Nat → Prop} {v : Value} {os : List ObjL} (h : HeapA w base av v os) (x : Ext w w') : HeapA w' base av v os := by
  obtain ⟨ds, h1, h2, h3, h5⟩ := h
  exact ⟨ds, h1, fun d hd => ⟨(h2 d hd).1, (h2 d hd).2.1.ext x, (h2 d hd).2.2⟩, ownsRow_ext h3 x, Nat.le_trans h5 x.size⟩
theorem HeapA.less {w : World} {base : Nat} {av av' : Nat → Prop} {v : Value} {os : List ObjL} (h : HeapA w base av v os) (k : ∀ g, av' g → av g) : HeapA w base av' v os := by
  obtain ⟨ds, h1, h2, h3⟩ := h
  exact ⟨ds, h1, fun d hd => ⟨(h2 d hd).1, (h2 d hd).2.1, fun g hg q => (h2 d hd).2.2 g hg (k g q)⟩, h3⟩
theorem HeapA.more {w : World} {base : Nat} {av av' : Nat → Prop} {v : Value} {os : List ObjL} (h : HeapA w base av v os) (k : ∀ g, av' g → av g ∨ w.heap.size ≤ g) : HeapA w base av' v os := by
  obtain ⟨ds, h1, h2, h3⟩ := h
  refine ⟨ds, h1, fun d hd => ⟨(h2 d hd).1, (h2 d hd).2.1, fun g hg q => ?_⟩, h3⟩
  rcases k g q with q | q
  · exact (h2 d hd).2.2 g hg q
  · have := ((h2 d hd).2.1.re.lt g hg).2
    omega
theorem HeapA.turn {w w' : World} {base : Nat} {av : Nat → Prop} {v : Value} {os : List ObjL} (h : HeapA w base av v os) {r : Option Nat} (g : w.grownBy w' r) (hr : ∀ k, r = some k → av k ∧ ∃ c f, w.heap[k]? = some (.cells c 80 f)) : HeapA w' base av v os := by
  obtain ⟨ds, h1, h2, h3, h5⟩ := h
  have hk : ∀ (b : Nat) (c : Array Value) (t : TypeId) (f : Nat × Nat), w.heap[b]? = some (Obj.cells c t f) → t ≠ 80 → w'.heap[b]? = some (Obj.cells c t f) := fun b c t f hb ht => grown_keep g hb (fun e => by
    obtain ⟨_, c2, f2, h2⟩ := hr b e
    rw [h2] at hb
    simp only [Option.some.injEq, Obj.cells.injEq] at hb
    exact ht hb.2.1.symm)
  exact ⟨ds, h1, fun d hd => ⟨(h2 d hd).1, ⟨(h2 d hd).2.1.rb.keep fun b c f hb => hk b c _ f hb (by decide), own_apart (h2 d hd).2.1.re g (fun k e e2 => (h2 d hd).2.2 k e2 (hr k e).1), (h2 d hd).2.1.rp, (h2 d hd).2.1.ok, (h2 d hd).2.1.id⟩, (h2 d hd).2.2⟩, own_keep h3 fun b c hb => hk b c _ _ hb (by decide), Nat.le_trans h5 g.size⟩
theorem HeapA.idSet {w w' : World} {base : Nat} {av : Nat → Prop} {v : Value} {os : List ObjL} (h : HeapA w base av v os) (hk : ∀ (g : Nat) (c : Array Value) (t : TypeId) (f : Nat × Nat), w.heap[g]? = some (Obj.cells c t f) → t ≠ 31 → w'.heap[g]? = some (Obj.cells c t f)) (hz : w.heap.size ≤ w'.heap.size) : HeapA w' base av v os := by
  obtain ⟨ds, h1, h2, h3, h5⟩ := h
  exact ⟨ds, h1, fun d hd => ⟨(h2 d hd).1, (h2 d hd).2.1.keep fun g c t f hg ht => hk g c t f hg (by rcases ht with rfl | rfl <;> decide), (h2 d hd).2.2⟩, own_keep h3 fun g c hg => hk g c _ _ hg (by decide), Nat.le_trans h5 hz⟩
theorem stepR_names (rc : List ObjL → List Fl → List ObjL × List UInt8) (l : List Fl) : ∀ (ns : List ByteArray) (a : List ObjL × List EntL), (ns.foldl (stepR rc l) a).2.map EntL.name = a.2.map EntL.name ++ ns
  | [], a => by simp
  | n :: r, a => by
    rw [List.foldl_cons, stepR_names rc l r]
    unfold stepR
    split <;> simp
theorem folderR_id (k : Nat) (st : List ObjL) (l : List Fl) : (folderR k st l).2.length = 32 := by
  cases k with
  | zero => rfl
  | succ k => exact idL_len _
/-- The reference's Folder does as folderR says, at paths of at most k names. -/
def FolderROk (k : Nat) : Prop := ∀ (W0 w : World) (l : List Fl) (v : Value) (hF : ∀ w', KeepH w w' → Ext W0 w' → IsF w' v l) (hl : l.length ≤ 16) (hg : ∀ f ∈ l, pathN k f.path = true ∧ f.text.size ≤ 4096) (hz : k = 0 → l ≠ []) (base : Nat) (av : Nat → Prop) (ov : Value) (os : List ObjL)
    (hs : HeapA w base av ov os) (hav : ∀ g, av g → g < w.heap.size) (hln : os.length + costS k ≤ 800000) (X : Ext W0 w) (hb : W0.heap.size ≤ base),
    Calls Tryz.prog 13 #[ov, v] w fun e w' => ∃ ov', e = .returned (.tuple #[ov', .agg ((folderR k os l).2.map bc).toArray]) ∧ HeapA w' base av ov' (folderR k os l).1 ∧ KeepH w w' ∧ Ext W0 w'
/-- The names that the second loop reads, the entries and the objects behind some names. -/
structure F3 (W0 w : World) (base : Nat) (av : Nat → Prop) (G M : Nat) (NS : List ByteArray) (nv ov ev : Value) (A : List ObjL × List EntL) (wr : World) : Prop where
  names : wr.ownsRow M 9 1 nv NS.length (NS.flatMap stC)
  sp : HeapA wr base (fun g => av g ∨ ev.ownBlock = some g) ov A.1
  en : wr.ownsRow M 80 34 ev A.2.length (A.2.flatMap entC)
  ok : ∀ e ∈ A.2, EntOk e
  kh : KeepH w wr
  br : wr.heap[G]? = some (.cells (z32.map bc).toArray 31 (0, 0))
  x0 : Ext W0 wr
  sz : M ≤ wr.heap.size
theorem F3.ext {W0 w : World} {base : Nat} {av : Nat → Prop} {G M : Nat} {NS : List ByteArray} {nv ov ev : Value} {A : List ObjL × List EntL} {wr w' : World} (h : F3 W0 w base av G M NS nv ov ev A wr) (x : Ext wr w') : F3 W0 w base av G M NS nv ov ev A w' :=
  ⟨ownsRow_ext h.names x, h.sp.ext x, ownsRow_ext h.en x, h.ok, h.kh.trans (KeepH.of_ext x), x.keeps h.br, h.x0.trans x, Nat.le_trans h.sz x.size⟩

set_option maxHeartbeats 20000000 in
set_option maxRecDepth 100000 in
theorem refFolderStep (k : Nat) (ih : FolderROk k) : FolderROk (k + 1) := by
  intro W0 w l v hF hl16 hgood _ base av ov os hs hav hln X hb
  obtain ⟨zS, tyS⟩ := tySt
  obtain ⟨zF, tyF⟩ := tyFi
  have hh0 := hF w (KeepH.of_ext (Ext.refl w)) X
  obtain ⟨ao, cap, rfl, b1, m1, z1, g1⟩ := hh0.opened
  have HOK := Lib.hid hh0.ok
  have HFF := Lib.hid hF
  have HS := Lib.hid hs
  have HGOOD := Lib.hid hgood
  have HIH := Lib.hid ih
  obtain ⟨R, hR⟩ : ∃ R, folderR (k + 1) os l = R := ⟨_, rfl⟩
  rw [hR]
  have HR := Lib.hid hR
  clear hF hs g1 z1 hh0 hgood ih hR
  go_enter Tryz.func13, Tryz.ntmps13
  go_upto_region 1 with fail
  generalize hG : w.heap.size = G at *
  refine wp_forgetH (fun W => Ext w W ∧ W.heap[G]? = some (.cells (z32.map bc).toArray 31 (0, 0))) ⟨(Ext.refl w).alloc _, blk_new hG⟩ ?_
  rintro w1 ⟨x1, bR⟩
  have hF1 := HFF.out w1 (KeepH.of_ext x1) (X.trans x1)
  have HF1 := Lib.hid hF1
  obtain ⟨M, hM⟩ : ∃ M, w1.heap.size = M := ⟨_, rfl⟩
  clear hF1
  go_wp2_with fail
  go_loopg [7, 8] l.length (fun g s7 s8 wr => ∃ (i : Nat) (ns : List ByteArray), i ≤ l.length ∧ l.length - i ≤ g ∧ s8 = .int .i64 (i : Int) ∧ ns = (l.take i).foldl (fun a f => insP a (cutN f.path)) [] ∧ wr.ownsRow M 9 1 s7 ns.length (ns.flatMap stC) ∧ Ext w1 wr)
  case atStart => exact ⟨0, [], Nat.zero_le _, by omega, rfl, rfl, World.ownsRow_nil _ _ _ _, Ext.refl _⟩
  case round =>
  obtain ⟨i, ns, hi, hg, rfl, hns, own, xr⟩ := hrel
  have hnl : ns.length ≤ 16 := by
    rw [hns, namesP, sortN_len]
    have h1 := namesF_len (l.take i)
    rw [List.length_take] at h1
    omega
  have HNS := Lib.hid hns
  clear hns
  by_cases hlt : i < l.length
  · obtain ⟨_, _, e0, _, _, _, g1⟩ := (HF1.out.ext xr).opened
    simp only [Value.slice.injEq, true_and] at e0
    obtain ⟨rfl, rfl⟩ := e0
    obtain ⟨pb, o, rfl, e0, e1⟩ := g1 i hlt
    have hok := HOK.out l[i] (List.getElem_mem hlt)
    have htk : l.take (i + 1) = l.take i ++ [l[i]] := by rw [List.take_succ_eq_append_getElem hlt]
    generalize l[i] = f at *
    obtain ⟨a7, c7, e7⟩ := ownSh own
    subst e7
    have HTK := Lib.hid htk
    have HOW := Lib.hid own
    have i0 : (0 : Int) ≤ (i : Int) := Int.natCast_nonneg _
    have i1 : (i : Int) < (l.length : Int) := by omega
    clear htk g1 own e1
    go_wp2_with fail
    refine Calls.mono (refCut _ f.path hok.1) ?_
    rintro e w4 ⟨rfl, x4⟩
    rw [cutV_eq]
    obtain ⟨nm, hnm⟩ : ∃ nm, cutN f.path = nm := ⟨_, rfl⟩
    rw [hnm]
    have HNM := Lib.hid hnm
    obtain ⟨MB, hMB⟩ : ∃ MB, w4.heap.size = MB := ⟨_, rfl⟩
    have hMM : M ≤ MB := by have := xr.size; have := x4.size; omega
    clear hnm e0
    go_wp2_with fail
    go_loopg [12, 13, 14] ns.length (fun g s12 s13 s14 wr2 => ∃ (k : Nat) (A1 : List ByteArray) (p : Bool), k ≤ ns.length ∧ ns.length - k ≤ g ∧ s14 = .int .i64 (k : Int) ∧ s13 = .bool p ∧ (A1, p) = (ns.take k).foldl (stepP nm) ([], false) ∧ A1.length ≤ 2 * k ∧ wr2.ownsRow MB 9 1 s12 A1.length (A1.flatMap stC) ∧ Ext w4 wr2)
    case atStart => exact ⟨0, [], false, Nat.zero_le _, by omega, rfl, rfl, rfl, Nat.le_refl 0, World.ownsRow_nil _ _ _ _, Ext.refl _⟩
    case round =>
    obtain ⟨k2, A1, p, hk2, hg3, rfl, rfl, hA, hAl, own2, xr2⟩ := hrel
    have HA := Lib.hid hA
    have HOW2 := Lib.hid own2
    have hMr : MB ≤ wr.heap.size := by have := xr2.size; omega
    clear hA
    by_cases hkl : k2 < ns.length
    · obtain ⟨pb2, o2, rfl, hcn4⟩ := ss_at (IsSl.of_owns (ownsRow_ext HOW.out x4)) k2 hkl
      have hcn := xr2.cell hcn4
      have htk2 : ns.take (k2 + 1) = ns.take k2 ++ [ns[k2]] := by rw [List.take_succ_eq_append_getElem hkl]
      generalize ns[k2] = y at *
      have HTK2 := Lib.hid htk2
      have j0 : (0 : Int) ≤ (k2 : Int) := Int.natCast_nonneg _
      have j1 : (k2 : Int) < (ns.length : Int) := by omega
      have hwr : ∃ wR, wR = wr := ⟨_, rfl⟩
      obtain ⟨wR, rfl⟩ := hwr
      clear htk2 own2
      cases p with
      | true =>
        have HC4 := Lib.hid hcn4
        clear hcn4
        have xs9 : Ext wR (wR.alloc (.cells #[.string y] 9)) := (Ext.refl wR).alloc _
        have hb9 := heap_alloc_new wR (.cells #[.string y] 9)
        have ow9 := ownsRow_ext HOW2.out xs9
        have OW9 := Lib.hid ow9
        have hM9 : MB ≤ (wR.alloc (.cells #[.string y] 9)).heap.size := by have := xs9.size; omega
        clear ow9
        go_wp2_with (at_builtin; refine wpl_appAt tyS (by rfl) (.tmp 68) (.tmp 73) rfl MB u12 A1.length _ OW9.out (by rfl) wR.heap.size [.string y] (0, 0) hb9 rfl (by rfl) (by intro c hc; simp at hc; subst hc; rfl) (by omega) (by omega) hM9 ?_; intro v9 w9 own9 gr9 at9)
        have x9 : Ext w4 w9 := (xr2.trans xs9).grown gr9 (fun b hb => by have := (HOW2.out.lt b hb).1; omega)
        clear hcn
        go_roundg (ns.length - (k2 + 1))
        case measure => omega
        case rel => exact ⟨k2 + 1, A1 ++ [y], true, by omega, by omega, by go_num, rfl, by rw [HTK2.out, List.foldl_append, ← HA.out]; simp [stepP], by simp; omega, by simpa [stC] using own9, x9⟩
      | false =>
        cases hc1 : Op.bytesLess nm.toList y.toList with
        | true =>
          have HC4 := Lib.hid hcn4
          clear hcn4
          have xs9 : Ext wR (wR.alloc (.cells #[.string nm] 9)) := (Ext.refl wR).alloc _
          have hb9 := heap_alloc_new wR (.cells #[.string nm] 9)
          have ow9 := ownsRow_ext HOW2.out xs9
          have OW9 := Lib.hid ow9
          have hM9 : MB ≤ (wR.alloc (.cells #[.string nm] 9)).heap.size := by have := xs9.size; omega
          clear ow9
          go_upto_region 14 with (at_builtin; refine wpl_appAt tyS (by rfl) (.tmp 55) (.tmp 57) rfl MB u12 A1.length _ OW9.out (by rfl) wR.heap.size [.string nm] (0, 0) hb9 rfl (by rfl) (by intro c hc; simp at hc; subst hc; rfl) (by omega) (by omega) hM9 ?_; intro v9 w9 own9 gr9 at9)
          have x9 : Ext w4 w9 := (xr2.trans xs9).grown gr9 (fun b hb => by have := (HOW2.out.lt b hb).1; omega)
          have hlt9 := own9
          have HO9 := Lib.hid own9
          have hM9' : MB ≤ w9.heap.size := by have := x9.size; omega
          have hc9 := x9.cell HC4.out
          refine wp_forgetH (fun W => W = w9) rfl ?_
          rintro w9x rfl
          clear hcn own9 hlt9 hb9
          have xs8 : Ext w9x (w9x.alloc (.cells #[.string y] 9)) := (Ext.refl w9x).alloc _
          have hb8 := heap_alloc_new w9x (.cells #[.string y] 9)
          have ow8 := ownsRow_ext HO9.out xs8
          have OW8 := Lib.hid ow8
          have hM8 : MB ≤ (w9x.alloc (.cells #[.string y] 9)).heap.size := by have := xs8.size; omega
          clear ow8
          go_wp2_with (at_builtin; refine wpl_appAt tyS (by rfl) (.tmp 68) (.tmp 73) rfl MB v9 (A1.length + 1) _ OW8.out (by rfl) w9x.heap.size [.string y] (0, 0) hb8 rfl (by rfl) (by intro c hc; simp at hc; subst hc; rfl) (by omega) (by omega) hM8 ?_; intro v8 w8 own8 gr8 at8)
          have x8 : Ext w4 w8 := (x9.trans xs8).grown gr8 (fun b hb => by have := (HO9.out.lt b hb).1; omega)
          have HC1 := Lib.hid hc1
          clear hc9 hc1
          go_roundg (ns.length - (k2 + 1))
          case measure => omega
          case rel => exact ⟨k2 + 1, (A1 ++ [nm]) ++ [y], true, by omega, by omega, by go_num, rfl, by rw [HTK2.out, List.foldl_append, ← HA.out]; (have h1 : bl nm y = true := HC1.out); simp [stepP, h1], by simp; omega, by simpa [stC] using own8, x8⟩
        | false =>
          have HC4 := Lib.hid hcn4
          obtain ⟨q, hq⟩ : ∃ q, (nm.toList == y.toList) = q := ⟨_, rfl⟩
          clear hcn4
          have xs9 : Ext wR (wR.alloc (.cells #[.string y] 9)) := (Ext.refl wR).alloc _
          have hb9 := heap_alloc_new wR (.cells #[.string y] 9)
          have ow9 := ownsRow_ext HOW2.out xs9
          have OW9 := Lib.hid ow9
          have hM9 : MB ≤ (wR.alloc (.cells #[.string y] 9)).heap.size := by have := xs9.size; omega
          clear ow9
          go_wp2_with (at_builtin; refine wpl_appAt tyS (by rfl) (.tmp 68) (.tmp 73) rfl MB u12 A1.length _ OW9.out (by rfl) wR.heap.size [.string y] (0, 0) hb9 rfl (by rfl) (by intro c hc; simp at hc; subst hc; rfl) (by omega) (by omega) hM9 ?_; intro v9 w9 own9 gr9 at9)
          have x9 : Ext w4 w9 := (xr2.trans xs9).grown gr9 (fun b hb => by have := (HOW2.out.lt b hb).1; omega)
          have HC1 := Lib.hid hc1
          have HQ := Lib.hid hq
          clear hcn hc1 hq
          go_roundg (ns.length - (k2 + 1))
          case measure => omega
          case rel => exact ⟨k2 + 1, A1 ++ [y], q, by omega, by omega, by go_num, rfl, by rw [HTK2.out, List.foldl_append, ← HA.out]; (have h1 : bl nm y = false := HC1.out); (have h2 := HQ.out); simp [stepP, h1, h2], by simp; omega, by simpa [stC] using own9, x9⟩
    · have ek : k2 = ns.length := by omega
      have hA := HA.out
      rw [ek, List.take_length] at hA
      have hMr2 : M ≤ wr.heap.size := by omega
      have hxw := xr.trans (x4.trans xr2)
      have hns' : (l.take (i + 1)).foldl (fun a f => insP a (cutN f.path)) [] = insP ns nm := by
        rw [HTK.out, List.foldl_append, ← HNS.out, ← HNM.out]
        rfl
      have HNS2 := Lib.hid hns'
      obtain ⟨wR, rfl⟩ : ∃ wR, wR = wr := ⟨_, rfl⟩
      clear own2 hns'
      cases p with
      | true =>
        have hi : insP ns nm = A1 := by unfold insP; rw [← hA]; rfl
        have HI := Lib.hid hi
        clear hA hi
        go_wp2_with fail
        go_roundg (l.length - (i + 1))
        case measure => omega
        case rel => exact ⟨i + 1, A1, by omega, by omega, by go_num, by rw [HNS2.out, HI.out], ownsRow_base HOW2.out hMM, hxw⟩
      | false =>
        have hi : insP ns nm = A1 ++ [nm] := by unfold insP; rw [← hA]; rfl
        have HI := Lib.hid hi
        clear hA hi
        have xs9 : Ext wR (wR.alloc (.cells #[.string nm] 9)) := (Ext.refl wR).alloc _
        have hb9 := heap_alloc_new wR (.cells #[.string nm] 9)
        have ow9 := ownsRow_ext HOW2.out xs9
        have OW9 := Lib.hid ow9
        have hM9 : MB ≤ (wR.alloc (.cells #[.string nm] 9)).heap.size := by have := xs9.size; omega
        clear ow9
        go_wp2_with (at_builtin; refine wpl_appAt tyS (by rfl) (.tmp 77) (.tmp 79) rfl MB u12 A1.length _ OW9.out (by rfl) wR.heap.size [.string nm] (0, 0) hb9 rfl (by rfl) (by intro c hc; simp at hc; subst hc; rfl) (by omega) (by omega) hM9 ?_; intro v9 w9 own9 gr9 at9)
        have x9 : Ext w4 w9 := (xr2.trans xs9).grown gr9 (fun b hb => by have := (HOW2.out.lt b hb).1; omega)
        have o9 := ownsRow_base own9 hMM
        go_roundg (l.length - (i + 1))
        case measure => omega
        case rel => exact ⟨i + 1, A1 ++ [nm], by omega, by omega, by go_num, by rw [HNS2.out, HI.out], by simpa [stC] using o9, (xr.trans x4).trans x9⟩
  · have ei : i = l.length := by omega
    have hns := HNS.out
    rw [ei, List.take_length, namesP] at hns
    obtain ⟨a7, c7, e7⟩ := ownSh own
    subst e7
    obtain ⟨_, cc1, cc2⟩ := sl_cap (IsSl.of_owns own)
    have hmem : ∀ nm ∈ ns, nm.size ≤ 140737488355328 := fun nm hm => by
      rw [hns, sortN_mem] at hm
      rcases names_from l [] nm hm with q | ⟨f, hf, rfl⟩
      · cases q
      · exact Nat.le_trans (cutN_size _) (HOK.out f hf).1
    have f0 : F3 W0 w base av G M ns (.slice a7 ns.length c7) ov (.slice none 0 0) (os, []) wr :=
      ⟨own, (HS.out.ext (x1.trans xr)).less (fun g h => by rcases h with h | h; exact h; simp [Value.ownBlock] at h), World.ownsRow_nil _ _ _ _, (fun e he => by cases he), KeepH.of_ext (x1.trans xr), xr.keeps bR, X.trans (x1.trans xr), by have := xr.size; omega⟩
    have HF0 := Lib.hid f0
    have HNS3 := Lib.hid hns
    have HMEM := Lib.hid hmem
    have hGM : G < M := by rw [← hM]; exact block_lt bR
    have hWG : W0.heap.size ≤ G := by have := X.size; omega
    have hMw := f0.sz
    clear f0 hns hmem own bR HF1 HNS ei
    go_wp2_with fail
    obtain ⟨w6, rfl⟩ : ∃ x, x = wr := ⟨_, rfl⟩
    go_loopg [0, 6, 15] ns.length (fun g s0 s6 s15 wr => ∃ (j : Nat) (A : List ObjL × List EntL), j ≤ ns.length ∧ ns.length - j ≤ g ∧ s15 = .int .i64 (j : Int) ∧ A.1.length ≤ os.length + j * costS k ∧ A.2.length ≤ j ∧ A = (ns.take j).foldl (stepR (folderR k) l) (os, []) ∧ F3 W0 w base av G M ns (.slice a7 ns.length c7) s0 s6 A wr)
    case atStart => exact ⟨0, (os, []), Nat.zero_le _, by omega, rfl, by simp, Nat.le_refl 0, rfl, HF0.out⟩
    case round =>
    obtain ⟨j, A, hj, hg2, rfl, hAl, hAk, hA, L⟩ := hrel
    by_cases hjl : j < ns.length
    · obtain ⟨pb2, o2, rfl, hcn⟩ := ss_at (IsSl.of_owns L.names) j hjl
      have hnm := HMEM.out _ (List.getElem_mem hjl)
      have htk : ns.take (j + 1) = ns.take j ++ [ns[j]] := by rw [List.take_succ_eq_append_getElem hjl]
      generalize ns[j] = nm at *
      have HTK := Lib.hid htk
      have HL := Lib.hid L
      have HA := Lib.hid hA
      have j0 : (0 : Int) ≤ (j : Int) := Int.natCast_nonneg _
      have j1 : (j : Int) < (ns.length : Int) := by omega
      have hen0 : EntOk ⟨nm, false, z32⟩ := ⟨rfl, hnm⟩
      have hie := info_ent hen0
      have hoe := one_ent ⟨nm, false, z32⟩
      have hMwr := L.sz
      clear htk L hA
      go_upto_region 24 with ((with_reducible refine at_store 80 (.tmp 16) (.tmp 92) ?_); refine wpl_store (by rfl) 80 (.tmp 16) (.tmp 92) rfl _ (entC ⟨nm, false, z32⟩).toArray (by rfl) (by rfl) 80 _ (heap_alloc_new _ _) hie rfl hoe ?_; rw [World.setRow_alloc_new])
      obtain ⟨BE, hBE⟩ : ∃ BE, wr.heap.size = BE := ⟨_, rfl⟩
      refine wp_forgetH (fun W => Ext wr W ∧ W.heap[BE]? = some (.cells (entC ⟨nm, false, z32⟩).toArray 80 (0, 0))) ⟨(Ext.refl wr).alloc _, blk_new hBE⟩ ?_
      rintro w8 ⟨x8, bE⟩
      rw [hBE]
      have L8 := HL.out.ext x8
      have hMB : M ≤ BE := by omega
      have hu6 : ∀ g, u6.ownBlock = some g → g < BE := fun g hg => by rw [← hBE]; exact (HL.out.en.lt g hg).2
      have sp8 := (HL.out.sp.more (av' := fun g => (av g ∨ u6.ownBlock = some g) ∨ g = BE) (fun g h => by rcases h with h | h; exact .inl h; exact .inr (by omega))).ext x8
      have HSP8 := Lib.hid sp8
      have HL8 := Lib.hid L8
      have hF8 := HFF.out w8 L8.kh L8.x0
      have HF8 := Lib.hid hF8
      have HC8 := Lib.hid (x8.cell hcn)
      have hBE8 := block_lt bE
      have HBE8 := Lib.hid bE
      obtain ⟨MC, hMC⟩ : ∃ MC, w8.heap.size = MC := ⟨_, rfl⟩
      clear L8 x8 hie hoe sp8 hF8 hcn bE
      go_wp2_with fail
      go_loopg [17, 18, 19] l.length (fun g s17 s18 s19 wr2 => ∃ (i2 : Nat) (t : ByteArray) (bs : List Fl), i2 ≤ l.length ∧ l.length - i2 ≤ g ∧ s19 = .int .i64 (i2 : Int) ∧ s18 = .string t ∧ t = (textO (l.take i2) nm).getD ⟨#[]⟩ ∧ bs = belowF (l.take i2) nm ∧ bs.length ≤ 16 ∧ wr2.ownsRow MC 66 2 s17 bs.length (bs.flatMap flC) ∧ Ext w8 wr2)
      case atStart => exact ⟨0, ⟨#[]⟩, [], Nat.zero_le _, by omega, rfl, rfl, rfl, rfl, Nat.zero_le _, World.ownsRow_nil _ _ _ _, Ext.refl _⟩
      case round =>
      obtain ⟨i2, t, bs, hi2, hg4, rfl, rfl, ht, hbs, hbl, ownb, xr2⟩ := hrel
      have HT := Lib.hid ht
      have HBS := Lib.hid hbs
      have HOB := Lib.hid ownb
      have hMCw : MC ≤ wr.heap.size := by have := xr2.size; omega
      clear ht hbs ownb
      by_cases hil : i2 < l.length
      · obtain ⟨_, _, e0, _, _, _, g1⟩ := (HF8.out.ext xr2).opened
        simp only [Value.slice.injEq, true_and] at e0
        obtain ⟨rfl, rfl⟩ := e0
        obtain ⟨pb, o, rfl, e0, e1⟩ := g1 i2 hil
        have hok := HOK.out l[i2] (List.getElem_mem hil)
        have htk : l.take (i2 + 1) = l.take i2 ++ [l[i2]] := by rw [List.take_succ_eq_append_getElem hil]
        have htl : (l.take i2).length ≤ 15 := by rw [List.length_take]; omega
        have hbk := belowF_len (l.take i2) nm
        rw [← HBS.out] at hbk
        generalize l[i2] = f at *
        have HTK2 := Lib.hid htk
        have i0 : (0 : Int) ≤ (i2 : Int) := Int.natCast_nonneg _
        have i1 : (i2 : Int) < (l.length : Int) := by omega
        have E1 := Lib.hid e1
        clear htk g1 e1
        go_wp2_with fail
        refine Calls.mono (refCut _ f.path hok.1) ?_
        rintro e w4 ⟨rfl, x4⟩
        rw [cutV_eq]
        have hc4 := (xr2.trans x4).cell HC8.out
        have e1 := x4.cell E1.out
        have ow4 := ownsRow_ext HOB.out x4
        have x84 := xr2.trans x4
        have hM4 : MC ≤ w4.heap.size := by have := x84.size; omega
        have HO4 := Lib.hid ow4
        clear e0 ow4
        cases heq : ((cutN f.path).toList == nm.toList) with
        | true =>
          cases hw : cutW f.path with
          | true =>
            have xs9 : Ext w4 (w4.alloc (.cells #[.string (cutR f.path), .string f.text] 66)) := (Ext.refl w4).alloc _
            have hb9 := heap_alloc_new w4 (.cells #[.string (cutR f.path), .string f.text] 66)
            have ow9 := ownsRow_ext HO4.out xs9
            have OW9 := Lib.hid ow9
            have hM9 : MC ≤ (w4.alloc (.cells #[.string (cutR f.path), .string f.text] 66)).heap.size := by have := xs9.size; omega
            clear ow9
            go_upto_region 32 with (at_builtin; refine wpl_appAt tyF (by rfl) (.tmp 118) (.tmp 126) rfl MC u17 bs.length _ OW9.out (by rfl) w4.heap.size (flC ⟨cutR f.path, f.text⟩) (0, 0) hb9 rfl (by rfl) (flC_one1 _) (by omega) (by omega) hM9 ?_; intro v9 w9 own9 gr9 at9)
            have x9 : Ext w8 w9 := (x84.trans xs9).grown gr9 (fun b hb => by have := (OW9.out.lt b hb).1; omega)
            have hc9 := x9.cell HC8.out
            have hib : isBelow nm f = true := isBelow_iff.2 ⟨hw, (beq_nm.1 heq).symm⟩
            have hit : isText nm f = false := by unfold isText; rw [hw]; rfl
            have hb2 : belowF (l.take i2 ++ [f]) nm = bs ++ [⟨cutR f.path, f.text⟩] := by rw [belowF_snoc, if_pos hib, ← HBS.out]
            have ht2 : (textO (l.take i2 ++ [f]) nm).getD ⟨#[]⟩ = t := by rw [textO_snoc, hit, if_neg Bool.false_ne_true, ← HT.out]
            have HB2 := Lib.hid hb2
            have HT2 := Lib.hid ht2
            clear hib hit hb2 ht2 hc4 e1
            go_wp2_with fail
            go_roundg (l.length - (i2 + 1))
            case measure => omega
            case rel => exact ⟨i2 + 1, t, bs ++ [⟨cutR f.path, f.text⟩], by omega, by omega, by go_num, rfl, by rw [HTK2.out, HT2.out], by rw [HTK2.out, HB2.out], by simp; omega, by simpa [flC] using own9, x9⟩
          | false =>
            have hib : isBelow nm f = false := by unfold isBelow; rw [hw]; rfl
            have hit : isText nm f = true := isText_iff.2 ⟨hw, (beq_nm.1 heq).symm⟩
            have hb2 : belowF (l.take i2 ++ [f]) nm = bs := by rw [belowF_snoc, hib, if_neg Bool.false_ne_true, ← HBS.out]
            have ht2 : (textO (l.take i2 ++ [f]) nm).getD ⟨#[]⟩ = f.text := by rw [textO_snoc, if_pos hit]; rfl
            have HB2 := Lib.hid hb2
            have HT2 := Lib.hid ht2
            clear hib hit hb2 ht2
            go_wp2_with fail
            go_roundg (l.length - (i2 + 1))
            case measure => omega
            case rel => exact ⟨i2 + 1, f.text, bs, by omega, by omega, by go_num, rfl, by rw [HTK2.out, HT2.out], by rw [HTK2.out, HB2.out], hbl, HO4.out, x84⟩
        | false =>
          have hib : isBelow nm f = false := by unfold isBelow; rw [heq, Bool.and_false]
          have hit : isText nm f = false := by unfold isText; rw [heq, Bool.and_false]
          have hb2 : belowF (l.take i2 ++ [f]) nm = bs := by rw [belowF_snoc, hib, if_neg Bool.false_ne_true, ← HBS.out]
          have ht2 : (textO (l.take i2 ++ [f]) nm).getD ⟨#[]⟩ = t := by rw [textO_snoc, hit, if_neg Bool.false_ne_true, ← HT.out]
          have HB2 := Lib.hid hb2
          have HT2 := Lib.hid ht2
          clear hib hit hb2 ht2
          go_wp2_with fail
          go_roundg (l.length - (i2 + 1))
          case measure => omega
          case rel => exact ⟨i2 + 1, t, bs, by omega, by omega, by go_num, rfl, by rw [HTK2.out, HT2.out], by rw [HTK2.out, HB2.out], hbl, HO4.out, x84⟩
      · have ei : i2 = l.length := by omega
        have ht := HT.out
        have hbs := HBS.out
        rw [ei, List.take_length] at ht hbs
        obtain ⟨a17, c17, e17⟩ := ownSh HOB.out
        subst e17
        have L9 := HL8.out.ext xr2
        have hMr : MC ≤ wr.heap.size := hMCw
        have bE := xr2.keeps HBE8.out
        have hAl2 : A.2.length ≤ 16 := by omega
        have hmul : j * costS k ≤ 16 * costS k := Nat.mul_le_mul_right _ (by omega)
        have hjk : (j + 1) * costS k ≤ 16 * costS k := Nat.mul_le_mul_right _ (by omega)
        rw [Nat.add_mul, Nat.one_mul] at hjk
        have hck : os.length + (1 + 16 * costS k) ≤ 800000 := hln
        have hMC8 : BE < MC := by omega
        obtain ⟨w9, rfl⟩ : ∃ x, x = wr := ⟨_, rfl⟩
        have HBS2 := Lib.hid hbs
        have HT2 := Lib.hid ht
        have HL9 := Lib.hid L9
        have HBE9 := Lib.hid bE
        clear hbs ht L9 ei HT HBS bE
        by_cases hbn : bs = []
        · have htl : t.size ≤ 4096 := by rw [HT2.out]; exact text_of (fun f hf => (HGOOD.out f hf).2) nm
          have hbel := HBS2.out.symm.trans hbn
          have HBEL := Lib.hid hbel
          have hbb := fun (v : Value) (hv : v.cells = #[v]) => built_blob v hv (bL t)
          have hz0 : bs.length = 0 := by rw [hbn]; rfl
          have hz1 : ¬ ((0 : Int) < (bs.length : Int)) := by omega
          have hz2 : decide ((0 : Int) < (bs.length : Int)) = false := decide_eq_false hz1
          subst hbn
          clear hbel hz0 hz1 hz2
          go_wp2_with (first
            | ((with_reducible refine at_convS 9 40 (.tmp 156) ?_); refine wpl_strRow (by rfl) 9 40 (.tmp 156) rfl t (by rfl) Tryz.underlying9 Tryz.underlying40 Tryz.underlying5 (by omega) ?_; intro cp wq rt9 x9)
            | ((with_reducible refine at_bldT 45 ?_); refine wpl_bldG (by rfl) 45 _ rfl [(0, .int .i64 1), (1, .slice (some ⟨w9.heap.size, 0, none⟩) t.size cp)] (by rfl) _ (hbb _ rfl) ?_))
          have ho : ObjW wq ⟨idL (blobO (bL t)), blobO (bL t), .slice (some ⟨w9.heap.size, 0, none⟩) t.size cp, nilS, nilS⟩ :=
            ⟨rt9, World.ownsRow_nil _ _ _ _, ⟨rfl, rfl⟩, ok_blob (by unfold bL; rw [Array.length_toList]; exact htl), idL_len _⟩
          have HO := Lib.hid ho
          have HXX := Lib.hid (HL9.out.x0.trans x9)
          refine Calls.mono (refPut W0 _ _ nilS nilS (blobO (bL t)) HO.out (chk_blob (by unfold bL; rw [Array.length_toList]; exact htl)) base _ u0 A.1 (HSP8.out.ext (xr2.trans x9)) (fun g hg => by simp [nilS, Value.ownBlock] at hg) (by omega) HXX.out hb) ?_
          rintro e w10 ⟨ov', rfl, sp10, kh10, x10⟩
          obtain ⟨I, hI⟩ : ∃ I, idL (blobO (bL t)) = I := ⟨_, rfl⟩
          have hIl : I.length = 32 := by rw [← hI]; exact idL_len _
          rw [hI]
          have nmq := ownsRow_ext HL9.out.names x9
          have enq := ownsRow_ext HL9.out.en x9
          have kq := HL9.out.kh.trans (KeepH.of_ext x9)
          have brq := x9.keeps HL9.out.br
          have bEq := x9.keeps HBE9.out
          have bE10 := kh10.cells bEq (by decide) (by decide)
          have nm10 := kh10.row nmq (by decide) (by decide)
          have en10 := kh10.row enq (by decide) (by decide)
          have k10 := kq.trans kh10
          have br10 := kh10.cells brq (by decide) (by decide)
          have hok10 : ∀ e ∈ A.2, EntOk e := HL8.out.ok
          have heI : EntOk ⟨nm, false, I⟩ := ⟨hIl, hnm⟩
          have hth := there_ent bE10 (entC_len (e := ⟨nm, false, z32⟩) ⟨rfl, hnm⟩)
          have b11 : (w10.setCells BE 2 (I.map bc)).heap[BE]? = some (.cells (entC ⟨nm, false, I⟩).toArray 80 (0, 0)) := by
            rw [heap_setCells BE (I.map bc) 2 w10 _ bE10, ent_set nm false z32 I (by rw [hIl]; rfl)]
          have g11 := grown_setCells BE (I.map bc) 2 w10
          have hie := info_ent heI
          obtain ⟨zN, tyN⟩ := tyEn
          have HNM10 := Lib.hid nm10
          have HEN := Lib.hid en10
          have HK := Lib.hid k10
          have HBR := Lib.hid br10
          have HSP := Lib.hid sp10
          have HOK10 := Lib.hid hok10
          have hBE10 := block_lt bE10
          have hBEf := Lib.hid bE10
          clear nm10 en10 k10 br10 sp10 hok10 bE10 kh10
          go_upto_region 38 with ((with_reducible refine at_store 31 (.tmp 162) (.tmp 161) ?_); refine wpl_storeMid (by rfl) 31 (.tmp 162) (.tmp 161) rfl BE 2 (I.map bc).toArray (by rfl) (by rfl) (by simpa [hIl] using hth) (id_size hIl) (id_one _) ?_; simp only [List.toList_toArray])
          obtain ⟨w11, hw11⟩ : ∃ x, x = w10.setCells BE 2 (I.map bc) := ⟨_, rfl⟩
          have sp11 := HSP.out.turn g11 (fun k hk => by cases hk; exact ⟨.inr rfl, _, _, hBEf.out⟩)
          rw [← hw11] at b11 g11 sp11
          have hne5 : u6.ownBlock ≠ some BE := fun e => by have := hu6 _ e; omega
          have en11 := ownsRow_grown HEN.out g11 hne5
          have hM11 : M ≤ w11.heap.size := by have := g11.size; omega
          refine wp_forgetH (fun W => W = w11) hw11.symm ?_
          rintro w11' rfl
          have HW11 := Lib.hid hw11
          clear hw11
          have xb : Ext w11' (w11'.alloc (.cells (entC ⟨nm, false, I⟩).toArray 80)) := (Ext.refl w11').alloc _
          have hbb2 := fun w => build_en w ⟨nm, false, I⟩ heI
          have hbN := heap_alloc_new w11' (.cells (entC ⟨nm, false, I⟩).toArray 80)
          have enB := ownsRow_ext en11 xb
          have hMB2 : M ≤ (w11'.alloc (.cells (entC ⟨nm, false, I⟩).toArray 80)).heap.size := by have := xb.size; omega
          have HENB := Lib.hid enB
          clear enB en11
          go_wp2_with (first
            | ((with_reducible refine at_load 80 (.tmp 16) ?_); refine wpl_load (by rfl) 80 (.tmp 16) rfl BE (by rfl) 80 (entC ⟨nm, false, I⟩).toArray (0, 0) _ b11 Tryz.underlying80 rfl hie ?_)
            | ((with_reducible refine at_build1 41 (.tmp 164) ?_); refine wpl_buildOne (by rfl) 41 (.tmp 164) rfl (entC ⟨nm, false, I⟩) (by rfl) (hbb2 _) ?_)
            | (at_builtin; refine wpl_appAt tyN (by rfl) (.tmp 163) (.tmp 165) rfl M u6 A.2.length _ HENB.out (by rfl) w11'.heap.size (entC ⟨nm, false, I⟩) (0, 0) hbN (entC_len heI) (by rfl) (one_en _) (by omega) (by omega) hMB2 ?_; intro v13 w13 own13 gr13 at13))
          have hrow : ∀ b, u6.ownBlock = some b → ∃ c f, (w11'.alloc (.cells (entC ⟨nm, false, I⟩).toArray 80)).heap[b]? = some (.cells c 80 f) := fun b hb5 => by
            rcases HENB.out.2 with ⟨q, _⟩ | ⟨g', cap', cur, q, _, hh, _⟩
            · rw [q] at hb5; simp [Value.ownBlock] at hb5
            · rw [q] at hb5; simp [Value.ownBlock] at hb5; subst hb5; exact ⟨_, _, hh⟩
          have sp13 : HeapA w13 base (fun g => av g ∨ v13.ownBlock = some g) ov' (putR A.1 (blobO (bL t))) := by
            refine (((sp11.ext xb).more (av' := fun g => ((av g ∨ u6.ownBlock = some g) ∨ g = BE) ∨ g = (w11'.alloc (.cells (entC ⟨nm, false, I⟩).toArray 80)).heap.size) (fun g h => by rcases h with h | h; exact .inl h; exact .inr (by omega))).turn gr13 (fun b hb5 => ⟨.inl (.inl (.inr hb5)), hrow b hb5⟩)).less (fun g h => ?_)
            rcases h with h | h
            · exact .inl (.inl (.inl h))
            · rcases at13 with e | e
              · exact .inl (.inl (.inr (by rw [← e]; exact h)))
              · rw [e] at h; exact .inr (Option.some.inj h).symm
          have hkE : ∀ (g : Nat) (x : Obj), w10.heap[g]? = some x → g ≠ BE → u6.ownBlock ≠ some g → w13.heap[g]? = some x := fun g x hg h1 h2 => grown_keep gr13 (xb.keeps (grown_other g11 hg h1)) h2
          have kE : KeepE w10 w13 := fun g x hg hx => hkE g x hg (fun e => by subst e; rw [hBEf.out] at hg; exact hx _ _ (Option.some.inj hg).symm) (fun e => by
            obtain ⟨c, f, hh⟩ := hrow g e
            have hne : g ≠ BE := fun e2 => hne5 (by rw [← e2]; exact e)
            rw [xb.keeps (grown_other g11 hg hne)] at hh
            exact hx _ _ (Option.some.inj hh))
          have kh13 : KeepH w w13 := fun g x hg n1 n2 => hkE g x (HK.out g x hg n1 n2) (fun e => by have := block_lt hg; omega) (fun e => by have := (HENB.out.lt g e).1; have := block_lt hg; omega)
          have hbr13 : w13.heap[G]? = some (.cells (z32.map bc).toArray 31 (0, 0)) := kE _ _ HBR.out (fun c f q => by injection q with _ q _; revert q; decide)
          have x013 : Ext W0 w13 := ((x10.grown g11 (fun b hb5 => by cases hb5; omega)).trans xb).grown gr13 (fun b hb5 => by have := (HENB.out.lt b hb5).1; omega)
          have hsz13 : M ≤ w13.heap.size := by have := gr13.size; omega
          have hstep : stepR (folderR k) l A nm = (putR A.1 (blobO (bL t)), A.2 ++ [⟨nm, false, I⟩]) := by
            unfold stepR
            rw [if_pos HBEL.out, ← HT2.out, hI]
          have hrel2 : F3 W0 w base av G M ns (.slice (some ⟨pb2, o2, none⟩) ns.length c7) ov' v13 (putR A.1 (blobO (bL t)), A.2 ++ [⟨nm, false, I⟩]) w13 :=
            ⟨kE.row HNM10.out (by decide), sp13, by simpa using own13, fun e he => by
              rcases List.mem_append.1 he with q | q
              · exact HOK10.out e q
              · rw [List.mem_singleton.1 q]; exact heI, kh13, hbr13, x013, hsz13⟩
          have HREL := Lib.hid hrel2
          have HSTEP := Lib.hid hstep
          have hpl := putR_len A.1 (blobO (bL t))
          have hcp := costS_pos k
          clear hrel2 hstep sp13 hkE kE kh13 hrow
          go_roundg (ns.length - (j + 1))
          case measure => omega
          case rel => exact ⟨j + 1, (putR A.1 (blobO (bL t)), A.2 ++ [⟨nm, false, I⟩]), by omega, by omega, by go_num, by rw [Nat.add_mul, Nat.one_mul]; show (putR A.1 (blobO (bL t))).length ≤ _; omega, by simp; omega, by rw [HTK.out, List.foldl_append, ← HA.out]; exact HSTEP.out.symm, HREL.out⟩
        · have hbpos : (0 : Int) < (bs.length : Int) := by
            have : 0 < bs.length := List.length_pos_iff.2 hbn
            omega
          have hfl : ∀ f ∈ bs, flOk f ∧ pathN k f.path = true ∧ f.text.size ≤ 4096 := by rw [HBS2.out]; exact below_good HGOOD.out HOK.out
          have HBN := Lib.hid hbn
          have HFL := Lib.hid hfl
          have kkE := block_allH HBE9.out
          have ffE := fun z => block_free HBE9.out z
          have bEq : (w9.setCell ⟨BE, 1, none⟩ (.bool true)).heap[BE]? = some (.cells (entC ⟨nm, true, z32⟩).toArray 80 (0, 0)) := by
            have := block_setCell HBE9.out (i := 1) (.bool true)
            simpa [entC] using this
          have gq := grown_setCell w9 BE 1 (.bool true)
          have spq := (HSP8.out.ext xr2).turn gq (fun k hk => by cases hk; exact ⟨.inr rfl, _, _, HBE9.out⟩)
          have hbq := HOB.out
          have nmq : (w9.setCell ⟨BE, 1, none⟩ (.bool true)).ownsRow M 9 1 _ ns.length (ns.flatMap stC) := ownsRow_grown HL9.out.names gq (own_neH HL9.out.names HBE9.out (by decide))
          have enq := ownsRow_grown HL9.out.en gq (fun e => absurd (hu6 _ e) (Nat.lt_irrefl _))
          have ownq := ownsRow_grown hbq gq (own_neH hbq HBE9.out (by decide))
          have kq : KeepH w (w9.setCell ⟨BE, 1, none⟩ (.bool true)) := fun g x hg n1 n2 => grown_other gq (HL9.out.kh g x hg n1 n2) (fun e => by have := block_lt hg; omega)
          have brq := grown_other gq HL9.out.br (by omega)
          have x0q : Ext W0 (w9.setCell ⟨BE, 1, none⟩ (.bool true)) := HL9.out.x0.grown gq (fun b hb5 => by cases hb5; omega)
          have hisF : ∀ w', KeepH (w9.setCell ⟨BE, 1, none⟩ (.bool true)) w' → Ext W0 w' → IsF w' (.slice a17 bs.length c17) bs := fun w' k _ => ⟨IsSl.of_owns (k.row ownq (by decide) (by decide)), fun f hf => (HFL.out f hf).1⟩
          have HIF := Lib.hid hisF
          have hszq : BE < (w9.setCell ⟨BE, 1, none⟩ (.bool true)).heap.size := block_lt bEq
          have havl : ∀ g, (av g ∨ u6.ownBlock = some g) ∨ g = BE → g < (w9.setCell ⟨BE, 1, none⟩ (.bool true)).heap.size := fun g h => by
            rcases h with (h | h) | h
            · have := hav g h; omega
            · have := hu6 g h; omega
            · omega
          have SPQ := Lib.hid spq
          have NMQ := Lib.hid nmq
          have ENQ := Lib.hid enq
          have KQ := Lib.hid kq
          have BRQ := Lib.hid brq
          have BEQ := Lib.hid bEq
          have XQ := Lib.hid x0q
          clear spq hbq nmq enq ownq kq brq bEq x0q hisF hbn hfl gq
          go_wp2_with fail
          refine Calls.mono (HIH.out W0 _ bs _ HIF.out hbl (fun f hf => (HFL.out f hf).2) (fun _ => HBN.out) base _ u0 A.1 SPQ.out havl (by omega) XQ.out hb) ?_
          rintro e w10 ⟨ov', rfl, sp10, kh10, x10⟩
          obtain ⟨I, hI⟩ : ∃ I, (folderR k A.1 bs).2 = I := ⟨_, rfl⟩
          have hIl : I.length = 32 := by rw [← hI]; exact folderR_id _ _ _
          rw [hI]
          have nmq := NMQ.out
          have enq := ENQ.out
          have kq := KQ.out
          have brq := BRQ.out
          have bEq := BEQ.out
          clear kkE ffE
          have bE10 := kh10.cells bEq (by decide) (by decide)
          have nm10 := kh10.row nmq (by decide) (by decide)
          have en10 := kh10.row enq (by decide) (by decide)
          have k10 := kq.trans kh10
          have br10 := kh10.cells brq (by decide) (by decide)
          have hok10 : ∀ e ∈ A.2, EntOk e := HL8.out.ok
          have heI : EntOk ⟨nm, true, I⟩ := ⟨hIl, hnm⟩
          have hth := there_ent bE10 (entC_len (e := ⟨nm, true, z32⟩) ⟨rfl, hnm⟩)
          have b11 : (w10.setCells BE 2 (I.map bc)).heap[BE]? = some (.cells (entC ⟨nm, true, I⟩).toArray 80 (0, 0)) := by
            rw [heap_setCells BE (I.map bc) 2 w10 _ bE10, ent_set nm true z32 I (by rw [hIl]; rfl)]
          have g11 := grown_setCells BE (I.map bc) 2 w10
          have hie := info_ent heI
          obtain ⟨zN, tyN⟩ := tyEn
          have HNM10 := Lib.hid nm10
          have HEN := Lib.hid en10
          have HK := Lib.hid k10
          have HBR := Lib.hid br10
          have HSP := Lib.hid sp10
          have HOK10 := Lib.hid hok10
          have hBE10 := block_lt bE10
          have hBEf := Lib.hid bE10
          clear nm10 en10 k10 br10 sp10 hok10 bE10 kh10
          go_upto_region 38 with ((with_reducible refine at_store 31 (.tmp 153) (.tmp 152) ?_); refine wpl_storeMid (by rfl) 31 (.tmp 153) (.tmp 152) rfl BE 2 (I.map bc).toArray (by rfl) (by rfl) (by simpa [hIl] using hth) (id_size hIl) (id_one _) ?_; simp only [List.toList_toArray])
          obtain ⟨w11, hw11⟩ : ∃ x, x = w10.setCells BE 2 (I.map bc) := ⟨_, rfl⟩
          have sp11 := HSP.out.turn g11 (fun k hk => by cases hk; exact ⟨.inr rfl, _, _, hBEf.out⟩)
          rw [← hw11] at b11 g11 sp11
          have hne5 : u6.ownBlock ≠ some BE := fun e => by have := hu6 _ e; omega
          have en11 := ownsRow_grown HEN.out g11 hne5
          have hM11 : M ≤ w11.heap.size := by have := g11.size; omega
          refine wp_forgetH (fun W => W = w11) hw11.symm ?_
          rintro w11' rfl
          have HW11 := Lib.hid hw11
          clear hw11
          have xb : Ext w11' (w11'.alloc (.cells (entC ⟨nm, true, I⟩).toArray 80)) := (Ext.refl w11').alloc _
          have hbb2 := fun w => build_en w ⟨nm, true, I⟩ heI
          have hbN := heap_alloc_new w11' (.cells (entC ⟨nm, true, I⟩).toArray 80)
          have enB := ownsRow_ext en11 xb
          have hMB2 : M ≤ (w11'.alloc (.cells (entC ⟨nm, true, I⟩).toArray 80)).heap.size := by have := xb.size; omega
          have HENB := Lib.hid enB
          clear enB en11
          go_wp2_with (first
            | ((with_reducible refine at_load 80 (.tmp 16) ?_); refine wpl_load (by rfl) 80 (.tmp 16) rfl BE (by rfl) 80 (entC ⟨nm, true, I⟩).toArray (0, 0) _ b11 Tryz.underlying80 rfl hie ?_)
            | ((with_reducible refine at_build1 41 (.tmp 164) ?_); refine wpl_buildOne (by rfl) 41 (.tmp 164) rfl (entC ⟨nm, true, I⟩) (by rfl) (hbb2 _) ?_)
            | (at_builtin; refine wpl_appAt tyN (by rfl) (.tmp 163) (.tmp 165) rfl M u6 A.2.length _ HENB.out (by rfl) w11'.heap.size (entC ⟨nm, true, I⟩) (0, 0) hbN (entC_len heI) (by rfl) (one_en _) (by omega) (by omega) hMB2 ?_; intro v13 w13 own13 gr13 at13))
          have hrow : ∀ b, u6.ownBlock = some b → ∃ c f, (w11'.alloc (.cells (entC ⟨nm, true, I⟩).toArray 80)).heap[b]? = some (.cells c 80 f) := fun b hb5 => by
            rcases HENB.out.2 with ⟨q, _⟩ | ⟨g', cap', cur, q, _, hh, _⟩
            · rw [q] at hb5; simp [Value.ownBlock] at hb5
            · rw [q] at hb5; simp [Value.ownBlock] at hb5; subst hb5; exact ⟨_, _, hh⟩
          have sp13 : HeapA w13 base (fun g => av g ∨ v13.ownBlock = some g) ov' (folderR k A.1 bs).1 := by
            refine (((sp11.ext xb).more (av' := fun g => ((av g ∨ u6.ownBlock = some g) ∨ g = BE) ∨ g = (w11'.alloc (.cells (entC ⟨nm, true, I⟩).toArray 80)).heap.size) (fun g h => by rcases h with h | h; exact .inl h; exact .inr (by omega))).turn gr13 (fun b hb5 => ⟨.inl (.inl (.inr hb5)), hrow b hb5⟩)).less (fun g h => ?_)
            rcases h with h | h
            · exact .inl (.inl (.inl h))
            · rcases at13 with e | e
              · exact .inl (.inl (.inr (by rw [← e]; exact h)))
              · rw [e] at h; exact .inr (Option.some.inj h).symm
          have hkE : ∀ (g : Nat) (x : Obj), w10.heap[g]? = some x → g ≠ BE → u6.ownBlock ≠ some g → w13.heap[g]? = some x := fun g x hg h1 h2 => grown_keep gr13 (xb.keeps (grown_other g11 hg h1)) h2
          have kE : KeepE w10 w13 := fun g x hg hx => hkE g x hg (fun e => by subst e; rw [hBEf.out] at hg; exact hx _ _ (Option.some.inj hg).symm) (fun e => by
            obtain ⟨c, f, hh⟩ := hrow g e
            have hne : g ≠ BE := fun e2 => hne5 (by rw [← e2]; exact e)
            rw [xb.keeps (grown_other g11 hg hne)] at hh
            exact hx _ _ (Option.some.inj hh))
          have kh13 : KeepH w w13 := fun g x hg n1 n2 => hkE g x (HK.out g x hg n1 n2) (fun e => by have := block_lt hg; omega) (fun e => by have := (HENB.out.lt g e).1; have := block_lt hg; omega)
          have hbr13 : w13.heap[G]? = some (.cells (z32.map bc).toArray 31 (0, 0)) := kE _ _ HBR.out (fun c f q => by injection q with _ q _; revert q; decide)
          have x013 : Ext W0 w13 := ((x10.grown g11 (fun b hb5 => by cases hb5; omega)).trans xb).grown gr13 (fun b hb5 => by have := (HENB.out.lt b hb5).1; omega)
          have hsz13 : M ≤ w13.heap.size := by have := gr13.size; omega
          have hstep : stepR (folderR k) l A nm = ((folderR k A.1 bs).1, A.2 ++ [⟨nm, true, I⟩]) := by
            unfold stepR
            rw [if_neg (by rw [← HBS2.out]; exact HBN.out), ← HBS2.out, hI]
          have hrel2 : F3 W0 w base av G M ns (.slice (some ⟨pb2, o2, none⟩) ns.length c7) ov' v13 ((folderR k A.1 bs).1, A.2 ++ [⟨nm, true, I⟩]) w13 :=
            ⟨kE.row HNM10.out (by decide), sp13, by simpa using own13, fun e he => by
              rcases List.mem_append.1 he with q | q
              · exact HOK10.out e q
              · rw [List.mem_singleton.1 q]; exact heI, kh13, hbr13, x013, hsz13⟩
          have HREL := Lib.hid hrel2
          have HSTEP := Lib.hid hstep
          have hpl := folderR_len k A.1 bs hbl
          have hcp := costS_pos k
          clear hrel2 hstep sp13 hkE kE kh13 hrow
          go_roundg (ns.length - (j + 1))
          case measure => omega
          case rel => exact ⟨j + 1, ((folderR k A.1 bs).1, A.2 ++ [⟨nm, true, I⟩]), by omega, by omega, by go_num, by rw [Nat.add_mul, Nat.one_mul]; show ((folderR k A.1 bs).1).length ≤ _; omega, by simp; omega, by rw [HTK.out, List.foldl_append, ← HA.out]; exact HSTEP.out.symm, HREL.out⟩
    · have ej : j = ns.length := by omega
      rw [ej, List.take_length] at hA
      have hst : folderR (k + 1) os l = (putR A.1 (treeO A.2), idL (treeO A.2)) := by
        unfold folderR
        simp only
        rw [← HNS3.out, ← hA]
      have hck : checkB (treeO A.2) = true := chk_tree (fun f hf => (HGOOD.out f hf).1) hl16 (by rw [hA, stepR_names, HNS3.out]; rfl)
      have hokT : ObjOk (treeO A.2) := ⟨⟨by show (-9223372036854775808 : Int) ≤ 2; omega, by show (2 : Int) ≤ _; omega⟩, Nat.zero_le _, L.ok, by show A.2.length ≤ _; omega, rfl, (fun e he => by cases he), Nat.zero_le _, by show 0 < 4294967296; omega, Nat.zero_le _⟩
      have hoT : ObjW wr ⟨idL (treeO A.2), treeO A.2, nilS, u6, nilS⟩ := ⟨RowT.nil wr, ownsRow_base L.en (Nat.zero_le _), ⟨rfl, rfl⟩, hokT, idL_len _⟩
      obtain ⟨a5, c5, e5⟩ := ownSh L.en
      have hbt := built_tree u6 (by rw [e5]; rfl) A.2
      have hav5 : ∀ g, u6.ownBlock = some g → ¬ av g := fun g hg q => by have := (L.en.lt g hg).1; have := hav g q; omega
      have HST := Lib.hid hst
      have HCK := Lib.hid hck
      have HOT := Lib.hid hoT
      have HL := Lib.hid L
      have hlnA : A.1.length ≤ 900000 := by
        have h1 : j * costS k ≤ 16 * costS k := Nat.mul_le_mul_right _ (by omega)
        have h2 : os.length + (1 + 16 * costS k) ≤ 800000 := hln
        omega
      clear hst hck hoT hA L e5
      go_wp2_with ((with_reducible refine at_bldT 45 ?_); refine wpl_bldG (by rfl) 45 _ rfl [(0, .int .i64 2), (2, u6)] (by rfl) _ hbt ?_)
      refine Calls.mono (refPut W0 wr nilS u6 nilS (treeO A.2) HOT.out HCK.out base av u0 A.1 (HL.out.sp.less (fun g h => .inl h)) hav5 hlnA HL.out.x0 hb) ?_
      rintro e w14 ⟨ov', rfl, sp14, kh14, x14⟩
      have br14 := kh14.cells HL.out.br (by decide) (by decide)
      have hIl := idL_len (treeO A.2)
      have hRR := HR.out.symm.trans HST.out
      have hkw := HL.out.kh.trans kh14
      have HSP := Lib.hid sp14
      have HKW := Lib.hid hkw
      have HRR := Lib.hid hRR
      clear sp14 kh14 hkw hRR
      generalize hIT : idL (treeO A.2) = IT at *
      go_wp2_with ((with_reducible refine at_store 31 (.tmp 5) (.tmp 172) ?_); refine wpl_store (by rfl) 31 (.tmp 5) (.tmp 172) rfl G (IT.map bc).toArray (by rfl) (by rfl) 31 _ br14 (id_size hIl) (id_same (a := z32) rfl hIl) (id_one _) ?_)
      have gF : w14.grownBy (w14.setRow G (IT.map bc).toArray) (some G) := grown_setRow'
      have hfin := setRow_heap w14 G _ (IT.map bc).toArray _ _ br14
      refine bodyPost_ret (results_tcI (p := 5) (r := 4) rfl _ _ G _ _ _ _ (by rfl) hfin Tryz.underlying31 rfl (id_size hIl)) rfl ⟨ov', ?_, ?_, ?_, x14.grown gF (fun b hb5 => by cases hb5; exact hWG)⟩
      · rw [HRR.out]; rfl
      · rw [HRR.out]
        exact HSP.out.idSet (fun g c t f hg ht => grown_other gF hg (fun e => by subst e; rw [br14] at hg; simp only [Option.some.injEq, Obj.cells.injEq] at hg; exact ht hg.2.1.symm)) gF.size
      · exact fun g x hg n1 n2 => grown_other gF (HKW.out g x hg n1 n2) (fun e => by have := block_lt hg; omega)
end Go.Proofs.YtpadfabjihaapaaGreatDoor

namespace Go.Proofs.YtpadfabjihaapaaGreatDoor
open Go.RowKit
set_option linter.unusedVariables false
set_option linter.unusedSimpArgs false

theorem refFolderAll : ∀ k, FolderROk k
  | 0 => by
    intro W0 w l v h hl hg hz
    cases l with
    | nil => exact absurd rfl (hz rfl)
    | cons f r => exact absurd (hg f (List.mem_cons_self ..)).1 (by unfold pathN; decide)
  | k + 1 => refFolderStep k (refFolderAll k)
/-- A row of objects under their Ids, read. -/
structure HdsW (w : World) (v : Value) (ds : List HdV) (os : List ObjL) : Prop where
  os : ds.map (·.o) = os
  ok : ∀ d ∈ ds, d.id = idL d.o ∧ ObjW w d
  sl : IsSl w v 70 ds.length ((ds.map hdV).flatMap hdC)
theorem HdsW.ext {w w' : World} {v : Value} {ds : List HdV} {os : List ObjL} (h : HdsW w v ds os) (x : Ext w w') : HdsW w' v ds os := ⟨h.os, fun d hd => ⟨(h.ok d hd).1, (h.ok d hd).2.ext x⟩, h.sl.ext x⟩
theorem HeapA.hds {w : World} {base : Nat} {av : Nat → Prop} {v : Value} {os : List ObjL} (h : HeapA w base av v os) : ∃ ds, HdsW w v ds os := by
  obtain ⟨ds, h1, h2, h3, h5⟩ := h
  exact ⟨ds, h1, fun d hd => ⟨(h2 d hd).1, (h2 d hd).2.1⟩, IsSl.of_owns h3⟩
theorem HeapW.hds {w : World} {base : Nat} {v : Value} {os : List ObjL} (h : HeapW base w v os) : ∃ ds, HdsW w v ds os := by
  obtain ⟨ds, h1, h2, h3⟩ := h
  exact ⟨ds, h1, h2, by have := IsSl.of_owns h3; rw [List.length_map] at this; exact this⟩
theorem hds_at {w : World} {ao : Option Addr} {n cap : Nat} {ds : List HdV} {os : List ObjL} (h : HdsW w (.slice ao n cap) ds os) (i : Nat) (hi : i < ds.length) :
    ∃ b off, ao = some ⟨b, off, none⟩ ∧ w.rangeAt b (off + i * 70) (ds[i].id.map bc) ∧ w.rangeAt b (off + i * 70 + 32) (hdV ds[i]).obj ∧ ds[i].id.length = 32 ∧ ds[i].id = idL ds[i].o ∧ ObjW w ds[i] := by
  have hm := List.getElem_mem hi
  obtain ⟨hdi, hdw⟩ := h.ok _ hm
  obtain ⟨pb, of, rfl, hra⟩ := hd_at (es := ds.map hdV) (by rw [List.length_map]; exact h.sl) (fun e he => by
    obtain ⟨d, hd, rfl⟩ := List.mem_map.1 he
    exact (h.ok d hd).2.hd) i (by simpa using hi)
  rw [List.getElem_map] at hra
  exact ⟨pb, of, rfl, hd_id hra, hd_obj hdw.hd hra, hdw.id, hdi, hdw⟩
theorem ids_of {ds : List HdV} {os : List ObjL} (h1 : ds.map (·.o) = os) (h2 : ∀ d ∈ ds, d.id = idL d.o) : Ids os ↔ ds.Pairwise fun a b => a.id ≠ b.id := by
  subst h1
  unfold Ids
  rw [List.pairwise_map]
  constructor
  · intro h
    refine h.imp_of_mem fun {a b} ha hb hx => ?_
    rw [h2 a ha, h2 b hb]
    exact hx
  · intro h
    refine h.imp_of_mem fun {a b} ha hb hx => ?_
    rw [← h2 a ha, ← h2 b hb]
    exact hx

set_option maxHeartbeats 4000000 in
set_option maxRecDepth 100000 in
theorem refTwins (w : World) (v : Value) (ds : List HdV) (os : List ObjL) (h : HdsW w v ds os) :
    Calls Tryz.prog 14 #[v] w fun e w' => ∃ b, e = .returned (.bool b) ∧ (b = true → ¬ Ids os) ∧ (b = false → Ids os) ∧ Ext w w' := by
  obtain ⟨ao, cap, rfl⟩ := sl_len h.sl
  obtain ⟨_, k1, m1⟩ := sl_cap h.sl
  have hio := ids_of h.os (fun d hd => (h.ok d hd).1)
  have HIO := Lib.hid hio
  have HH := Lib.hid h
  clear h hio
  go_enter Tryz.func14, Tryz.ntmps14
  go_wp2_with fail
  go_loopg [3] ds.length (fun g s3 wr => ∃ i : Nat, i ≤ ds.length ∧ ds.length - i ≤ g ∧ s3 = .int .i64 (i : Int) ∧ (∀ p q (hp : p < ds.length) (hq : q < ds.length), p < q → q < i → ds[p].id ≠ ds[q].id) ∧ Ext w wr)
  case atStart => exact ⟨0, Nat.zero_le _, by omega, rfl, fun p q _ _ _ h => absurd h (Nat.not_lt_zero _), Ext.refl _⟩
  case round =>
  obtain ⟨i, hi, hg, rfl, hall, xr⟩ := hrel
  have HALL := Lib.hid hall
  clear hall
  by_cases hlt : i < ds.length
  · have i0 : (0 : Int) ≤ (i : Int) := Int.natCast_nonneg _
    have i1 : (i : Int) < (ds.length : Int) := by omega
    obtain ⟨w2, rfl⟩ : ∃ x, x = wr := ⟨_, rfl⟩
    go_wp2_with fail
    go_loopg [4] i (fun g s4 wr => ∃ j : Nat, j ≤ i ∧ i - j ≤ g ∧ s4 = .int .i64 (j : Int) ∧ (∀ p (hp : p < ds.length), p < j → ds[p].id ≠ ds[i].id) ∧ Ext w wr)
    case atStart => exact ⟨0, Nat.zero_le _, by omega, rfl, fun p _ h => absurd h (Nat.not_lt_zero _), xr⟩
    case round =>
    obtain ⟨j, hj, hg2, rfl, hin, xj⟩ := hrel
    have HIN := Lib.hid hin
    clear hin
    by_cases hjl : j < i
    · have hjd : j < ds.length := by omega
      obtain ⟨pb, of, rfl, hra, _, h32a, _, _⟩ := hds_at (HH.out.ext xj) i hlt
      obtain ⟨pb2, of2, e2, hrb, _, h32b, _, _⟩ := hds_at (HH.out.ext xj) j hjd
      simp only [Option.some.injEq, Addr.mk.injEq, and_true] at e2
      obtain ⟨rfl, rfl⟩ := e2
      obtain ⟨A, hA⟩ : ∃ A, ds[i].id = A := ⟨_, rfl⟩
      obtain ⟨B, hB⟩ : ∃ B, ds[j].id = B := ⟨_, rfl⟩
      rw [hA] at hra h32a
      rw [hB] at hrb h32b
      have hti := fun W => eql_id W B A h32b h32a
      have hia := id_info h32a
      have hib := id_info h32b
      have HRA := Lib.hid hra
      have HRB := Lib.hid hrb
      have HA := Lib.hid hA
      have HB := Lib.hid hB
      have j0 : (0 : Int) ≤ (j : Int) := Int.natCast_nonneg _
      have j1 : (j : Int) < (i : Int) := by omega
      have j2 : (j : Int) < (ds.length : Int) := by omega
      clear hra hrb hA hB
      go_upto_region 7 with fail
      by_cases heq : B = A
      · have heq1 : decide (B = A) = true := decide_eq_true heq
        have HEQ := Lib.hid heq
        clear heq
        refine wp_region_S (fun v => Ext wr v) (by kernel_rfl) (fun w' h => h) fun wd hqd xd hHeld => ?_
        refine wpAnyH_take (i := 0) (v := ?vpt0) rfl (by kernel_rfl) (by kernel_rfl) (by kernel_rfl) (fun _ _ _ h => h) (Or.inl ⟨by rfl, ?hypt0⟩) hHeld ?_
        case hypt0 => (intro w hSw; go_simp; try with_reducible rfl)
        simp only [Act.put, List.setIfInBounds_toArray, List.set_cons_zero, List.set_cons_succ, List.getElem_toArray, List.getElem_cons_zero, List.getElem_cons_succ]
        refine wpAnyH_take (i := 1) (v := ?vpt1) rfl (by kernel_rfl) (by kernel_rfl) (by kernel_rfl) (fun _ _ _ h => h) (Or.inl ⟨by rfl, ?hypt1⟩) hHeld ?_
        case hypt1 => (intro w hSw; go_simp; try with_reducible rfl)
        simp only [Act.put, List.setIfInBounds_toArray, List.set_cons_zero, List.set_cons_succ, List.getElem_toArray, List.getElem_cons_zero, List.getElem_cons_succ]
        refine wpAnyH_take (i := 2) (v := ?vpt2) rfl (by kernel_rfl) (by kernel_rfl) (by kernel_rfl) (fun _ _ _ h => h) (Or.inl ⟨by rfl, ?hypt2⟩) hHeld ?_
        case hypt2 => (intro w hSw; go_simp; try with_reducible rfl)
        simp only [Act.put, List.setIfInBounds_toArray, List.set_cons_zero, List.set_cons_succ, List.getElem_toArray, List.getElem_cons_zero, List.getElem_cons_succ]
        refine wpAnyH_take (i := 3) (v := ?vpt3) rfl (by kernel_rfl) (by kernel_rfl) (by kernel_rfl) (fun _ _ _ h => h) (Or.inl ⟨by rfl, ?hypt3⟩) hHeld ?_
        case hypt3 => (intro w hSw; go_simp; try with_reducible rfl)
        simp only [Act.put, List.setIfInBounds_toArray, List.set_cons_zero, List.set_cons_succ, List.getElem_toArray, List.getElem_cons_zero, List.getElem_cons_succ]
        refine wpAnyH_take (i := 4) (v := _) rfl (by kernel_rfl) (by kernel_rfl) (by kernel_rfl) (fun _ _ _ h => h) (yieldsIf_load_mid (by rfl) _ _ rfl _ _ rfl (B.map bc) _ (fun w hSw => rangeAt_ext HRB.out hSw) Tryz.underlying31 rfl hib) hHeld ?_
        simp only [Act.put, List.setIfInBounds_toArray, List.set_cons_zero, List.set_cons_succ, List.getElem_toArray, List.getElem_cons_zero, List.getElem_cons_succ]
        refine wpAnyH_take (i := 5) (v := ?vpt5) rfl (by kernel_rfl) (by kernel_rfl) (by kernel_rfl) (fun _ _ _ h => h) (Or.inl ⟨by rfl, ?hypt5⟩) hHeld ?_
        case hypt5 => (intro w hSw; go_simp; try with_reducible rfl)
        simp only [Act.put, List.setIfInBounds_toArray, List.set_cons_zero, List.set_cons_succ, List.getElem_toArray, List.getElem_cons_zero, List.getElem_cons_succ]
        refine wpAnyH_take (i := 6) (v := ?vpt6) rfl (by kernel_rfl) (by kernel_rfl) (by kernel_rfl) (fun _ _ _ h => h) (Or.inl ⟨by rfl, ?hypt6⟩) hHeld ?_
        case hypt6 => (intro w hSw; go_simp; try with_reducible rfl)
        simp only [Act.put, List.setIfInBounds_toArray, List.set_cons_zero, List.set_cons_succ, List.getElem_toArray, List.getElem_cons_zero, List.getElem_cons_succ]
        refine wpAnyH_take (i := 7) (v := ?vpt7) rfl (by kernel_rfl) (by kernel_rfl) (by kernel_rfl) (fun _ _ _ h => h) (Or.inl ⟨by rfl, ?hypt7⟩) hHeld ?_
        case hypt7 => (intro w hSw; go_simp; try with_reducible rfl)
        simp only [Act.put, List.setIfInBounds_toArray, List.set_cons_zero, List.set_cons_succ, List.getElem_toArray, List.getElem_cons_zero, List.getElem_cons_succ]
        refine wpAnyH_take (i := 8) (v := ?vpt8) rfl (by kernel_rfl) (by kernel_rfl) (by kernel_rfl) (fun _ _ _ h => h) (Or.inl ⟨by rfl, ?hypt8⟩) hHeld ?_
        case hypt8 => (intro w hSw; go_simp; try with_reducible rfl)
        simp only [Act.put, List.setIfInBounds_toArray, List.set_cons_zero, List.set_cons_succ, List.getElem_toArray, List.getElem_cons_zero, List.getElem_cons_succ]
        refine wpAnyH_take (i := 9) (v := _) rfl (by kernel_rfl) (by kernel_rfl) (by kernel_rfl) (fun _ _ _ h => h) (yieldsIf_load_mid (by rfl) _ _ rfl _ _ rfl (A.map bc) _ (fun w hSw => rangeAt_ext HRA.out hSw) Tryz.underlying31 rfl hia) hHeld ?_
        simp only [Act.put, List.setIfInBounds_toArray, List.set_cons_zero, List.set_cons_succ, List.getElem_toArray, List.getElem_cons_zero, List.getElem_cons_succ]
        refine wpAnyH_take (i := 10) (v := ?vpt10) rfl (by kernel_rfl) (by kernel_rfl) (by kernel_rfl) (fun _ _ _ h => h) (Or.inl ⟨by rfl, ?hypt10⟩) hHeld ?_
        case hypt10 => (intro w hSw; have kk := hti w; go_simp; try with_reducible rfl)
        simp only [Act.put, List.setIfInBounds_toArray, List.set_cons_zero, List.set_cons_succ, List.getElem_toArray, List.getElem_cons_zero, List.getElem_cons_succ]
        refine wpAnyH_done (by kernel_rfl) ?_ _
        refine NoPanic.normal ?_
        go_wp2_with fail
        refine bodyPost_ret (results_t rfl _ _) rfl ⟨true, rfl, (fun _ hI => ?_), (fun e => by cases e), xj.trans xd⟩
        have := List.pairwise_iff_getElem.1 (HIO.out.1 hI) j i hjd hlt hjl
        rw [HA.out, HB.out] at this
        exact this HEQ.out
      · have heq1 : decide (B = A) = false := decide_eq_false heq
        have HEQ := Lib.hid heq
        clear heq
        refine wp_region_S (fun v => Ext wr v) (by kernel_rfl) (fun w' h => h) fun wd hqd xd hHeld => ?_
        refine wpAnyH_take (i := 0) (v := ?vpu0) rfl (by kernel_rfl) (by kernel_rfl) (by kernel_rfl) (fun _ _ _ h => h) (Or.inl ⟨by rfl, ?hypu0⟩) hHeld ?_
        case hypu0 => (intro w hSw; go_simp; try with_reducible rfl)
        simp only [Act.put, List.setIfInBounds_toArray, List.set_cons_zero, List.set_cons_succ, List.getElem_toArray, List.getElem_cons_zero, List.getElem_cons_succ]
        refine wpAnyH_take (i := 1) (v := ?vpu1) rfl (by kernel_rfl) (by kernel_rfl) (by kernel_rfl) (fun _ _ _ h => h) (Or.inl ⟨by rfl, ?hypu1⟩) hHeld ?_
        case hypu1 => (intro w hSw; go_simp; try with_reducible rfl)
        simp only [Act.put, List.setIfInBounds_toArray, List.set_cons_zero, List.set_cons_succ, List.getElem_toArray, List.getElem_cons_zero, List.getElem_cons_succ]
        refine wpAnyH_take (i := 2) (v := ?vpu2) rfl (by kernel_rfl) (by kernel_rfl) (by kernel_rfl) (fun _ _ _ h => h) (Or.inl ⟨by rfl, ?hypu2⟩) hHeld ?_
        case hypu2 => (intro w hSw; go_simp; try with_reducible rfl)
        simp only [Act.put, List.setIfInBounds_toArray, List.set_cons_zero, List.set_cons_succ, List.getElem_toArray, List.getElem_cons_zero, List.getElem_cons_succ]
        refine wpAnyH_take (i := 3) (v := ?vpu3) rfl (by kernel_rfl) (by kernel_rfl) (by kernel_rfl) (fun _ _ _ h => h) (Or.inl ⟨by rfl, ?hypu3⟩) hHeld ?_
        case hypu3 => (intro w hSw; go_simp; try with_reducible rfl)
        simp only [Act.put, List.setIfInBounds_toArray, List.set_cons_zero, List.set_cons_succ, List.getElem_toArray, List.getElem_cons_zero, List.getElem_cons_succ]
        refine wpAnyH_take (i := 4) (v := _) rfl (by kernel_rfl) (by kernel_rfl) (by kernel_rfl) (fun _ _ _ h => h) (yieldsIf_load_mid (by rfl) _ _ rfl _ _ rfl (B.map bc) _ (fun w hSw => rangeAt_ext HRB.out hSw) Tryz.underlying31 rfl hib) hHeld ?_
        simp only [Act.put, List.setIfInBounds_toArray, List.set_cons_zero, List.set_cons_succ, List.getElem_toArray, List.getElem_cons_zero, List.getElem_cons_succ]
        refine wpAnyH_take (i := 5) (v := ?vpu5) rfl (by kernel_rfl) (by kernel_rfl) (by kernel_rfl) (fun _ _ _ h => h) (Or.inl ⟨by rfl, ?hypu5⟩) hHeld ?_
        case hypu5 => (intro w hSw; go_simp; try with_reducible rfl)
        simp only [Act.put, List.setIfInBounds_toArray, List.set_cons_zero, List.set_cons_succ, List.getElem_toArray, List.getElem_cons_zero, List.getElem_cons_succ]
        refine wpAnyH_take (i := 6) (v := ?vpu6) rfl (by kernel_rfl) (by kernel_rfl) (by kernel_rfl) (fun _ _ _ h => h) (Or.inl ⟨by rfl, ?hypu6⟩) hHeld ?_
        case hypu6 => (intro w hSw; go_simp; try with_reducible rfl)
        simp only [Act.put, List.setIfInBounds_toArray, List.set_cons_zero, List.set_cons_succ, List.getElem_toArray, List.getElem_cons_zero, List.getElem_cons_succ]
        refine wpAnyH_take (i := 7) (v := ?vpu7) rfl (by kernel_rfl) (by kernel_rfl) (by kernel_rfl) (fun _ _ _ h => h) (Or.inl ⟨by rfl, ?hypu7⟩) hHeld ?_
        case hypu7 => (intro w hSw; go_simp; try with_reducible rfl)
        simp only [Act.put, List.setIfInBounds_toArray, List.set_cons_zero, List.set_cons_succ, List.getElem_toArray, List.getElem_cons_zero, List.getElem_cons_succ]
        refine wpAnyH_take (i := 8) (v := ?vpu8) rfl (by kernel_rfl) (by kernel_rfl) (by kernel_rfl) (fun _ _ _ h => h) (Or.inl ⟨by rfl, ?hypu8⟩) hHeld ?_
        case hypu8 => (intro w hSw; go_simp; try with_reducible rfl)
        simp only [Act.put, List.setIfInBounds_toArray, List.set_cons_zero, List.set_cons_succ, List.getElem_toArray, List.getElem_cons_zero, List.getElem_cons_succ]
        refine wpAnyH_take (i := 9) (v := _) rfl (by kernel_rfl) (by kernel_rfl) (by kernel_rfl) (fun _ _ _ h => h) (yieldsIf_load_mid (by rfl) _ _ rfl _ _ rfl (A.map bc) _ (fun w hSw => rangeAt_ext HRA.out hSw) Tryz.underlying31 rfl hia) hHeld ?_
        simp only [Act.put, List.setIfInBounds_toArray, List.set_cons_zero, List.set_cons_succ, List.getElem_toArray, List.getElem_cons_zero, List.getElem_cons_succ]
        refine wpAnyH_take (i := 10) (v := ?vpu10) rfl (by kernel_rfl) (by kernel_rfl) (by kernel_rfl) (fun _ _ _ h => h) (Or.inl ⟨by rfl, ?hypu10⟩) hHeld ?_
        case hypu10 => (intro w hSw; have kk := hti w; go_simp; try with_reducible rfl)
        simp only [Act.put, List.setIfInBounds_toArray, List.set_cons_zero, List.set_cons_succ, List.getElem_toArray, List.getElem_cons_zero, List.getElem_cons_succ]
        refine wpAnyH_done (by kernel_rfl) ?_ _
        refine NoPanic.normal ?_
        go_wp2_with fail
        go_roundg (i - (j + 1))
        case measure => omega
        case rel =>
          refine ⟨j + 1, by omega, by omega, by go_num, fun p hp hpj => ?_, xj.trans xd⟩
          by_cases e : p = j
          · subst e
            rw [HA.out, HB.out]
            exact HEQ.out
          · exact HIN.out p hp (by omega)
    · have ej : j = i := by omega
      subst ej
      have hall' : ∀ p q (hp : p < ds.length) (hq : q < ds.length), p < q → q < j + 1 → ds[p].id ≠ ds[q].id := fun p q hp hq h1 h2 => by
        by_cases e : q = j
        · subst e
          exact HIN.out p hp h1
        · exact HALL.out p q hp hq h1 (by omega)
      have HAL2 := Lib.hid hall'
      clear hall'
      go_wp2_with fail
      go_roundg (ds.length - (j + 1))
      case measure => omega
      case rel => exact ⟨j + 1, by omega, by omega, by go_num, HAL2.out, xj⟩
  · have ei : i = ds.length := by omega
    go_wp2_with fail
    refine bodyPost_ret (results_t rfl _ _) rfl ⟨false, rfl, (fun e => by cases e), (fun _ => HIO.out.2 (List.pairwise_iff_getElem.2 fun p q hp hq h1 => HALL.out p q hp hq h1 (by omega))), xr⟩
end Go.Proofs.YtpadfabjihaapaaGreatDoor
