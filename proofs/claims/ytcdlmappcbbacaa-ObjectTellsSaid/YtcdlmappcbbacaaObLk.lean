/- The walk of object.Links. -/
import Derived.Test.YtcdlmappcbbacaaObCp
import Derived.Test.YtcdlmappcbbacaaObN
import Derived.Test.YtcdlmappcbbacaaObC
import Derived.Test.YtcdlmappcbbacaaObS
namespace Go.Proofs.Ytcdlmappcbbacaa
open Go.RowKit
set_option linter.unusedVariables false
set_option linter.unusedSimpArgs false

/-- The Ids of the first i entries, as cells. -/
def lkC (es : List EntL) (i : Nat) : List Value := ((es.take i).map EntL.id).flatMap idC
theorem lk_next {es : List EntL} {i : Nat} (h : i < es.length) : lkC es (i + 1) = lkC es i ++ es[i].id.map bc := by
  unfold lkC
  rw [List.take_succ_eq_append_getElem h, List.map_append, List.flatMap_append]
  simp [idC]
/-- What an object names. -/
def linksL (o : ObjL) : List (List UInt8) := if checkB o then o.ents.map EntL.id ++ (if o.kind = 3 then o.tree :: o.pars else []) else []
theorem links_len {o : ObjL} (h : checkB o = true) : (linksL o).length = o.ents.length + (if o.kind = 3 then 1 + o.pars.length else 0) := by
  unfold linksL
  rw [h, if_pos rfl]
  by_cases k : o.kind = 3
  · rw [if_pos k, if_pos k]; simp; omega
  · rw [if_neg k, if_neg k]; simp
theorem links_3 {o : ObjL} (h : checkB o = true) (k : o.kind = 3) : (linksL o).flatMap idC = (lkC o.ents o.ents.length ++ o.tree.map bc) ++ o.pars.flatMap idC := by
  unfold linksL lkC
  rw [h, if_pos rfl, if_pos k, List.take_length, List.flatMap_append, List.append_assoc]
  rfl
theorem links_n {o : ObjL} (h : checkB o = true) (k : ¬ o.kind = 3) : (linksL o).flatMap idC = lkC o.ents o.ents.length := by
  unfold linksL lkC
  rw [h, if_pos rfl, if_neg k, List.take_length, List.append_nil]

set_option maxHeartbeats 8000000 in
set_option maxRecDepth 100000 in
theorem objLinks (w : World) (QA : Array Value) (vb ve vp : Value) (o : ObjL) (h : IsObj w QA vb ve vp o) :
    Calls Try.prog 18 #[.agg QA] w fun e w' => ∃ v, e = .returned v ∧ IsSl w' v 32 (linksL o).length ((linksL o).flatMap idC) ∧ Ext w w' := by
  obtain ⟨zI, tyI⟩ := tyIds
  have b0 := heap_alloc_new w (.cells QA 30)
  have X0 : Ext w (w.alloc (.cells QA 30)) := (Ext.refl w).alloc _
  have hinfo := h.info
  obtain ⟨ae, ce, rfl⟩ := sl_len h.ve
  obtain ⟨ap, cp, rfl⟩ := sl_len h.vp
  go_enter Try.func18, Try.ntmps18
  go_wp2_with ((with_reducible refine at_load 30 (.tmp 1) ?_); refine wpl_load (by rfl) 30 (.tmp 1) rfl w.heap.size (by rfl) 30 QA (0, 0) _ b0 Try.underlying30 rfl hinfo ?_)
  refine Calls.mono (objCheck _ QA vb _ _ o (h.ext X0)) ?_
  rintro e w1 ⟨rfl, x1⟩
  cases hc : checkB o with
  | false =>
    have HC := Lib.hid hc
    unfold chkE
    rw [if_neg (by decide)]
    clear hc
    go_wp2
    go_ret
    refine ⟨_, rfl, ?_, X0.trans x1⟩
    rw [show linksL o = [] from by unfold linksL; rw [HC.out]; rfl]
    exact IsSl.nil _ _
  | true =>
    obtain ⟨_, hp1, hp2, hp3, hp4, hp5⟩ := chk_parts hc
    have hbn := h.ok.ents
    have X1 := X0.trans x1
    have ho := h.ok
    have hat := obj_at (x1.keeps b0) h.eq h.ok
    have c0 := hat.c0
    have c2 := hat.c2
    have ctree := hat.c3
    have cpar := hat.c4
    have hve := Lib.hid (h.ext X1).ve
    have hvp := Lib.hid (h.ext X1).vp
    have hce : o.ents.length ≤ ce := by obtain ⟨_, _, _, e, h, _⟩ := hve.out; simp only [Value.slice.injEq] at e; omega
    have hGw : w.heap.size < w1.heap.size := block_lt (x1.keeps b0)
    have HL3 := Lib.hid (fun k => links_3 hc k)
    have HLN := Lib.hid (fun k => links_n hc k)
    have HLL := Lib.hid (links_len hc)
    have HKK := Lib.hid (chk_parts hc).1
    unfold chkE
    rw [if_pos rfl]
    clear hc h hp5 hat x1 hp1
    generalize hG : w.heap.size = G at *
    have hle : o.ents.length = o.ents.length := rfl
    generalize hes : o.ents = es at *
    clear hle hes
    go_wp2_with fail
    have x0 := Ext.refl w1
    go_loopg [3, 12] es.length (fun g sL sI wr => ∃ i : Nat, i ≤ es.length ∧ es.length - i ≤ g ∧ sI = .int .i64 i ∧ wr.ownsRow w1.heap.size 26 32 sL i (lkC es i) ∧ Ext w1 wr)
    case atStart => exact ⟨0, Nat.zero_le _, by omega, rfl, World.ownsRow_nil _ _ _ _, x0⟩
    case round =>
      clear x0
      obtain ⟨i, hi, hg, rfl, own, xr⟩ := hrel
      by_cases hlt : i < es.length
      · obtain ⟨p, off, rfl, hra⟩ := ent_at hve.out hbn i hlt
        have hok := hbn _ (List.getElem_mem hlt)
        have hnx := lk_next hlt
        have hra := rangeAt_ext hra xr
        generalize es[i] = e at *
        have HNX := Lib.hid hnx
        clear hnx
        have hl34 := entC_len hok
        have hinf := ent_info hok
        have hone := ent_one e
        have hi32 := id_info hok.1
        have i0 : (0 : Int) ≤ (i : Int) := Int.natCast_nonneg _
        have i1 : (i : Int) < (es.length : Int) := by omega
        have bn := heap_alloc_new wr (.cells (entC e).toArray 43)
        have xa : Ext w1 (wr.alloc (.cells (entC e).toArray 43)) := xr.alloc _
        have owna := own.alloc (.cells (entC e).toArray 43)
        have hrid : (wr.alloc (.cells (entC e).toArray 43)).rangeAt wr.heap.size 2 (e.id.map bc) := fun j v hj => by
          rw [block_cell bn, List.getElem?_toArray, show entC e = [.string e.name, .bool e.folder] ++ e.id.map bc from rfl, List.getElem?_append_right (by simp), show 2 + j - [Value.string e.name, Value.bool e.folder].length = j from by simp]
          exact hj
        have hbl := fun w => build_one (P := Try.prog) w 27 26 32 Try.underlying27 infoIdS (by omega) (by omega) (e.id.map bc) (by rw [List.length_map]; exact hok.1)
        go_wp2_with (first
          | ((with_reducible refine at_load 43 (.tmp 14) ?_); refine wpl_mid (by rfl) 43 (.tmp 14) rfl p (off + i * 34) (by rfl) (entC e) _ hra Try.underlying43 rfl hinf ?_)
          | ((with_reducible refine at_store 43 (.tmp 5) (.tmp 15) ?_); refine wpl_store (by rfl) 43 (.tmp 5) (.tmp 15) rfl wr.heap.size (entC e).toArray (by rfl) (by rfl) 43 _ (heap_alloc_new _ _) (by simpa using hinf) (by simp [hl34]) (all_oneCell_toArray hone) ?_; rw [World.setRow_alloc_new])
          | ((with_reducible refine at_load 26 (.tmp 17) ?_); refine wpl_mid (by rfl) 26 (.tmp 17) rfl wr.heap.size 2 (by rfl) (e.id.map bc) _ hrid Try.underlying26 rfl hi32 ?_)
          | ((with_reducible refine at_build1 27 (.tmp 18) ?_); refine wpl_buildOne (by rfl) 27 (.tmp 18) rfl (e.id.map bc) (by rfl) (hbl _) ?_)
          | (at_builtin; refine wp_app (w := (wr.alloc (.cells (entC e).toArray 43)).alloc (.cells (e.id.map bc).toArray 26)) tyI rfl (.tmp 16) (.tmp 19) rfl w1.heap.size _ i _ (owna.alloc _) (by rfl) _ 1 (e.id.map bc) (sl_one_new (w := wr.alloc (.cells (entC e).toArray 43)) (n := 32) (e := 26) (Q := e.id.map bc) rfl (by rw [List.length_map]; exact hok.1)) (by rfl) (bc_one _) (by omega) (by omega) (xa.alloc _).size ?_; intro v6 w6 own6 gr6))
        go_roundg (es.length - (i + 1))
        case measure => omega
        case rel =>
          refine ⟨i + 1, by omega, by omega, by go_num, ?_, own_base (owna.alloc _) gr6 (xa.alloc _) (Nat.le_refl _)⟩
          rw [HNX.out]
          exact own6
      · have hie : i = es.length := by omega
        subst hie
        have c0 := xr.cell c0
        by_cases hk : o.kind = 3
        · have hl3 := HL3.out hk
          have hll := HLL.out
          rw [if_pos hk] at hll
          have HL := Lib.hid hl3
          have HLE := Lib.hid hll
          rw [hk] at c0
          clear hl3 hll hk
          go_wp2_with fail
          refine wp_region_S (fun v => Ext w1 v) (by kernel_rfl) (fun w' h => xr.trans h) fun wd hqd xd hHeld => ?_
          refine wpAnyH_take (i := 0) (v := ?vr0) rfl (by kernel_rfl) (by kernel_rfl) (by kernel_rfl) (fun _ _ _ h => h) (Or.inl ⟨by rfl, ?hyr0⟩) hHeld ?_
          case hyr0 => (intro w hSw; go_simp; try with_reducible rfl)
          simp only [Act.put, List.setIfInBounds_toArray, List.set_cons_zero, List.set_cons_succ, List.getElem_toArray, List.getElem_cons_zero, List.getElem_cons_succ]
          refine wpAnyH_take (i := 1) (v := ?vr1) rfl (by kernel_rfl) (by kernel_rfl) (by kernel_rfl) (fun _ _ _ h => h) (Or.inl ⟨by rfl, ?hyr1⟩) hHeld ?_
          case hyr1 => (intro w hSw; go_simp; try with_reducible rfl)
          simp only [Act.put, List.setIfInBounds_toArray, List.set_cons_zero, List.set_cons_succ, List.getElem_toArray, List.getElem_cons_zero, List.getElem_cons_succ]
          refine wpAnyH_take (i := 2) rfl (by kernel_rfl) (by kernel_rfl) (by kernel_rfl) (fun _ _ _ h => h) (yieldsIf_load_mid (by rfl) _ _ rfl _ _ rfl (o.tree.map bc) _ (fun w h => rangeAt_ext ctree h) Try.underlying26 rfl (id_info ho.tree)) hHeld ?_
          simp only [Act.put, List.setIfInBounds_toArray, List.set_cons_zero, List.set_cons_succ, List.getElem_toArray, List.getElem_cons_zero, List.getElem_cons_succ]
          refine wpAnyH_take (i := 5) (v := ?vr5) rfl (by kernel_rfl) (by kernel_rfl) (by kernel_rfl) (fun _ _ _ h => h) (Or.inl ⟨by rfl, ?hyr5⟩) hHeld ?_
          case hyr5 => (intro w hSw; go_simp; try with_reducible rfl)
          simp only [Act.put, List.setIfInBounds_toArray, List.set_cons_zero, List.set_cons_succ, List.getElem_toArray, List.getElem_cons_zero, List.getElem_cons_succ]
          refine wpAnyH_take (i := 6) (v := ?vr6) rfl (by kernel_rfl) (by kernel_rfl) (by kernel_rfl) (fun _ _ _ h => h) (Or.inl ⟨by rfl, ?hyr6⟩) hHeld ?_
          case hyr6 => (intro w hSw; have k := hSw.cell cpar; go_simp; try with_reducible rfl)
          simp only [Act.put, List.setIfInBounds_toArray, List.set_cons_zero, List.set_cons_succ, List.getElem_toArray, List.getElem_cons_zero, List.getElem_cons_succ]
          have own := ownsRow_ext own xd
          refine wpAnyH_all (rs := [3]) (by kernel_rfl) (by simp) ?_
          intro i hi; obtain rfl : i = 3 := by simpa using hi
          have hbl := fun w => build_one (P := Try.prog) w 27 26 32 Try.underlying27 infoIdS (by omega) (by omega) (o.tree.map bc) (by rw [List.length_map]; exact ho.tree)
          refine wpOp_run rfl (by rfl) ?_
          refine wp_buildOne 27 (.tmp 27) rfl (o.tree.map bc) (by rfl) (hbl _) ?_
          have hHeld := hHeld.alloc (.cells (o.tree.map bc).toArray 26)
          have own := own.alloc (.cells (o.tree.map bc).toArray 26)
          refine ⟨hHeld, ?_⟩
          try simp only [Act.put, List.setIfInBounds_toArray, List.set_cons_zero, List.set_cons_succ, List.getElem_toArray, List.getElem_cons_zero, List.getElem_cons_succ]
          refine wpAnyH_all (rs := [4]) (by kernel_rfl) (by simp) ?_
          intro i hi; obtain rfl : i = 4 := by simpa using hi
          refine wpOp_run rfl (by rfl) ?_
          refine wp_appO (w := wd.alloc (.cells (o.tree.map bc).toArray 26)) tyI (.tmp 25) (.tmp 28) rfl w1.heap.size _ es.length _ own (by rfl) _ 1 (o.tree.map bc) (sl_one_new (w := wd) (n := 32) (e := 26) (Q := o.tree.map bc) rfl (by rw [List.length_map]; exact ho.tree)) (by rfl) (bc_one _) (by omega) (by omega) hHeld.size ?_
          intro v7 w7 own7 gr7
          have hHeld := own_base own gr7 hHeld (Nat.le_refl _)
          refine ⟨hHeld, ?_⟩
          try simp only [Act.put, List.setIfInBounds_toArray, List.set_cons_zero, List.set_cons_succ, List.getElem_toArray, List.getElem_cons_zero, List.getElem_cons_succ]
          refine wpAnyH_all (rs := [7]) (by kernel_rfl) (by simp) ?_
          intro i hi; obtain rfl : i = 7 := by simpa using hi
          refine wpOp_run rfl (by rfl) ?_
          refine wp_appO tyI (.tmp 29) (.tmp 31) rfl w1.heap.size v7 (es.length + 1) _ own7 (by rfl) (.slice ap o.pars.length cp) o.pars.length (o.pars.flatMap idC) (hvp.out.ext hHeld) (by rfl) (ids_one _) (by omega) (by omega) hHeld.size ?_
          intro v8 w8 own8 gr8
          have hHeld := own_base own7 gr8 hHeld (Nat.le_refl _)
          refine ⟨hHeld, ?_⟩
          try simp only [Act.put, List.setIfInBounds_toArray, List.set_cons_zero, List.set_cons_succ, List.getElem_toArray, List.getElem_cons_zero, List.getElem_cons_succ]
          refine wpAnyH_take (i := 8) (v := ?vr8) rfl (by kernel_rfl) (by kernel_rfl) (by kernel_rfl) (fun _ _ _ h => h) (Or.inl ⟨by rfl, ?hyr8⟩) hHeld ?_
          case hyr8 => (intro w hSw; go_simp; try with_reducible rfl)
          simp only [Act.put, List.setIfInBounds_toArray, List.set_cons_zero, List.set_cons_succ, List.getElem_toArray, List.getElem_cons_zero, List.getElem_cons_succ]
          refine wpAnyH_done (by kernel_rfl) ?_ _
          refine NoPanic.normal ?_
          go_wp2
          go_ret
          refine ⟨v8, rfl, ?_, X1.trans hHeld⟩
          rw [HL.out, HLE.out, show es.length + (1 + o.pars.length) = es.length + 1 + o.pars.length from by omega]
          exact IsSl.of_owns own8
        · have hln := HLN.out hk
          have hll := HLL.out
          rw [if_neg hk, Nat.add_zero] at hll
          have HL := Lib.hid hln
          have HLE := Lib.hid hll
          have hk3 : (o.kind == 3) = false := by simpa using hk
          clear hln hll hk
          go_wp2
          go_ret
          refine ⟨_, rfl, ?_, X1.trans xr⟩
          rw [HL.out, HLE.out]
          exact IsSl.of_owns own
end Go.Proofs.Ytcdlmappcbbacaa
