/- The walk of the reference's Bytes: an object's bytes. -/
import Derived.Test.YtpadfabjihaapaaGreatDoorObU
import Derived.Test.YtpadfabjihaapaaGreatDoorStrB
import Derived.Test.YtpadfabjihaapaaGreatDoorObId
namespace Go.Proofs.YtpadfabjihaapaaGreatDoor
open Go.RowKit
set_option linter.unusedVariables false
set_option linter.unusedSimpArgs false

theorem own_not {w : World} {base size n : Nat} {e : TypeId} {v : Value} {xs : List Value} {H : Nat} (h : w.ownsRow base e size v n xs) (hH : w.heap.size = H) : v.ownBlock ≠ some H := fun e => by
  have := (h.lt H e).2
  omega

set_option maxHeartbeats 8000000 in
set_option maxRecDepth 100000 in
theorem refBytes1 (w : World) (QA : Array Value) (vb ve vp : Value) (o : ObjL) (h : IsObj w QA vb ve vp o) (hc : checkB o = true) (hk : o.kind = 1) :
    Calls Tryz.prog 76 #[.agg QA] w fun e w' => ∃ v, e = .returned v ∧ IsB w' v (encB o) ∧ Ext w w' := by
  have b0 := heap_alloc_new w (.cells QA 45)
  have X0 : Ext w (w.alloc (.cells QA 45)) := (Ext.refl w).alloc _
  obtain ⟨_, hp1, hp2, hp3, hp4, hp5⟩ := chk_parts hc
  have ho := h.ok
  have hQA := h.eq
  obtain ⟨ab, cb, rfl⟩ := sl_len h.vb
  have he : encB o = 1 :: (be o.bytes.length 2 ++ o.bytes) := by unfold encB; rw [if_pos hk]
  have HE := Lib.hid he
  have hA := obj_at b0 h.eq h.ok
  obtain ⟨c0, c1, c2, c3, c4, c5, c6⟩ := hA
  have HX := Lib.hid (h.ext X0)
  have hN1 : (w.alloc (.cells QA 45)).heap.size = w.heap.size + 1 := World.size_alloc _ _
  have own0 := own_new (w.alloc (.cells QA 45)) [.int .u8 1] 1 1 5 rfl (by decide)
  rw [hN1] at own0
  rw [hk] at c0
  have xw0 : Ext (w.alloc (.cells QA 45)) ((w.alloc (.cells QA 45)).alloc (.cells #[.int .u8 1] 5)) := (Ext.refl _).alloc _
  have c0w := xw0.cell c0
  have c2z := xw0.cell c2
  go_enter Tryz.func76, Tryz.ntmps76
  go_wp2_with fail
  generalize w.alloc (.cells QA 45) = w1 at *
  generalize hN : w.heap.size + 1 = N1 at *
  generalize hG : w.heap.size = G at *
  have own0 : (w1.alloc (.cells #[.int .u8 1] 5)).ownsRow N1 5 1 (.slice (some ⟨N1, 0, none⟩) 1 1) 1 [.int .u8 1] := own0
  have xw : Ext w1 (w1.alloc (.cells #[.int .u8 1] 5)) := (Ext.refl w1).alloc _
  have HB := Lib.hid HX.out.vb
  have hmod : IntKind.u64.wrap (o.bytes.length : Int) = ((o.bytes.length : Nat) : Int) := by rw [IntKind.wrap_u64]; omega
  have c1 := xw.cell c1
  clear he hk h hp5 c0 c0w c2z xw0 c2 c3 c4 c5 c6
  refine wp_region_ext (by kernel_rfl) fun wd hqd xd hHeld => ?_
  refine wpAnyH_take (i := 0) (v := ?va0) rfl (by kernel_rfl) (by kernel_rfl) (by kernel_rfl) (fun _ _ _ h => h) (Or.inl ⟨by rfl, ?hya0⟩) hHeld ?_
  case hya0 => (intro w hSw; go_simp; try with_reducible rfl)
  simp only [Act.put, List.setIfInBounds_toArray, List.set_cons_zero, List.set_cons_succ, List.getElem_toArray, List.getElem_cons_zero, List.getElem_cons_succ]
  refine wpAnyH_take (i := 1) (v := ?va1) rfl (by kernel_rfl) (by kernel_rfl) (by kernel_rfl) (fun _ _ _ h => h) (Or.inl ⟨by rfl, ?hya1⟩) hHeld ?_
  case hya1 => (intro w hSw; go_simp; try with_reducible rfl)
  simp only [Act.put, List.setIfInBounds_toArray, List.set_cons_zero, List.set_cons_succ, List.getElem_toArray, List.getElem_cons_zero, List.getElem_cons_succ]
  refine wpAnyH_take (i := 2) (v := ?va2) rfl (by kernel_rfl) (by kernel_rfl) (by kernel_rfl) (fun _ _ _ h => h) (Or.inl ⟨by rfl, ?hya2⟩) hHeld ?_
  case hya2 => (intro w hSw; have k := (hSw.cell (xd.cell c1)); go_simp; try with_reducible rfl)
  simp only [Act.put, List.setIfInBounds_toArray, List.set_cons_zero, List.set_cons_succ, List.getElem_toArray, List.getElem_cons_zero, List.getElem_cons_succ]
  refine wpAnyH_take (i := 3) (v := ?va3) rfl (by kernel_rfl) (by kernel_rfl) (by kernel_rfl) (fun _ _ _ h => h) (Or.inl ⟨by rfl, ?hya3⟩) hHeld ?_
  case hya3 => (intro w hSw; go_simp; try with_reducible rfl)
  simp only [Act.put, List.setIfInBounds_toArray, List.set_cons_zero, List.set_cons_succ, List.getElem_toArray, List.getElem_cons_zero, List.getElem_cons_succ]
  refine wpAnyH_take (i := 4) (v := ?va4) rfl (by kernel_rfl) (by kernel_rfl) (by kernel_rfl) (fun _ _ _ h => h) (Or.inl ⟨by rfl, ?hya4⟩) hHeld ?_
  case hya4 => (intro w hSw; go_simp; try with_reducible rfl)
  simp only [Act.put, List.setIfInBounds_toArray, List.set_cons_zero, List.set_cons_succ, List.getElem_toArray, List.getElem_cons_zero, List.getElem_cons_succ]
  refine wpAnyH_take (i := 6) (v := ?va6) rfl (by kernel_rfl) (by kernel_rfl) (by kernel_rfl) (fun _ _ _ h => h) (Or.inl ⟨by rfl, ?hya6⟩) hHeld ?_
  case hya6 => (intro w hSw; go_simp; try with_reducible rfl)
  simp only [Act.put, List.setIfInBounds_toArray, List.set_cons_zero, List.set_cons_succ, List.getElem_toArray, List.getElem_cons_zero, List.getElem_cons_succ]
  refine wpAnyH_take (i := 7) (v := ?va7) rfl (by kernel_rfl) (by kernel_rfl) (by kernel_rfl) (fun _ _ _ h => h) (Or.inl ⟨by rfl, ?hya7⟩) hHeld ?_
  case hya7 => (intro w hSw; have k := (hSw.cell (xd.cell c1)); go_simp; try with_reducible rfl)
  simp only [Act.put, List.setIfInBounds_toArray, List.set_cons_zero, List.set_cons_succ, List.getElem_toArray, List.getElem_cons_zero, List.getElem_cons_succ]
  refine wpAnyH_all (rs := [5]) (by kernel_rfl) (by simp) ?_
  intro i hi; obtain rfl : i = 5 := by simpa using hi
  refine wpOp_run rfl (by rfl) ?_
  go_simp
  refine Calls.mono (refHigh _ o.bytes.length 2 (by omega) (by omega)) ?_
  rintro ee w3 ⟨v3, rfl, own3, x3⟩
  refine wpAnyH_call (x3) fun hHeld => ?_
  try simp only [Act.put, List.setIfInBounds_toArray, List.set_cons_zero, List.set_cons_succ, List.getElem_toArray, List.getElem_cons_zero, List.getElem_cons_succ]
  refine wpAnyH_all (rs := [8]) (by kernel_rfl) (by simp) ?_
  intro i hi; obtain rfl : i = 8 := by simpa using hi
  refine wpOp_run rfl (by rfl) ?_
  go_simp
  refine Calls.mono (refBoth _ v3 _ (be o.bytes.length 2) o.bytes (IsB.of_owns own3) (HB.out.ext ((xw.trans xd).trans x3)) (by rw [be_length]; omega)) ?_
  rintro ee w4 ⟨v4, rfl, own4, x4⟩
  refine wpAnyH_call (x4) fun hHeld => ?_
  try simp only [Act.put, List.setIfInBounds_toArray, List.set_cons_zero, List.set_cons_succ, List.getElem_toArray, List.getElem_cons_zero, List.getElem_cons_succ]
  refine wpAnyH_all (rs := [9]) (by kernel_rfl) (by simp) ?_
  intro i hi; obtain rfl : i = 9 := by simpa using hi
  refine wpOp_run rfl (by rfl) ?_
  go_simp
  refine Calls.mono (refBoth _ _ v4 [1] (be o.bytes.length 2 ++ o.bytes) (IsB.of_owns (ownsRow_ext own0 (xd.trans (x3.trans x4)))) (IsB.of_owns own4) (by simp only [List.length_append, be_length, List.length_singleton]; omega)) ?_
  rintro ee w5 ⟨v5, rfl, own5, x5⟩
  refine wpAnyH_call (x5) fun hHeld => ?_
  try simp only [Act.put, List.setIfInBounds_toArray, List.set_cons_zero, List.set_cons_succ, List.getElem_toArray, List.getElem_cons_zero, List.getElem_cons_succ]
  refine wpAnyH_take (i := 10) (v := ?va10) rfl (by kernel_rfl) (by kernel_rfl) (by kernel_rfl) (fun _ _ _ h => h) (Or.inl ⟨by rfl, ?hya10⟩) hHeld ?_
  case hya10 => (intro w hSw; go_simp; try with_reducible rfl)
  simp only [Act.put, List.setIfInBounds_toArray, List.set_cons_zero, List.set_cons_succ, List.getElem_toArray, List.getElem_cons_zero, List.getElem_cons_succ]
  refine wpAnyH_done (by kernel_rfl) ?_ _
  refine NoPanic.normal ?_
  go_wp2
  go_ret
  exact ⟨v5, rfl, by rw [HE.out]; exact IsB.of_owns own5, X0.trans ((xw.trans xd).trans (x3.trans (x4.trans x5)))⟩

set_option maxHeartbeats 8000000 in
set_option maxRecDepth 100000 in
theorem refBytes2 (w : World) (QA : Array Value) (vb ve vp : Value) (o : ObjL) (h : IsObj w QA vb ve vp o) (hc : checkB o = true) (hk : o.kind = 2) :
    Calls Tryz.prog 76 #[.agg QA] w fun e w' => ∃ v, e = .returned v ∧ IsB w' v (encB o) ∧ Ext w w' := by
  have b0 := heap_alloc_new w (.cells QA 45)
  have X0 : Ext w (w.alloc (.cells QA 45)) := (Ext.refl w).alloc _
  obtain ⟨_, hp1, hp2, hp3, hp4, hp5⟩ := chk_parts hc
  have ho := h.ok
  have hQA := h.eq
  obtain ⟨ae, ce, rfl⟩ := sl_len h.ve
  have he : encB o = encT o.ents o.ents.length := by unfold encB encT; rw [if_neg (by omega), if_pos hk, List.take_length]
  have HE := Lib.hid he
  have hbn : ∀ e ∈ o.ents, EntOk e ∧ e.name.size ≤ 24 := fun e he => ⟨h.ok.ents e he, (hp5 e he).1⟩
  have hA := obj_at b0 h.eq h.ok
  obtain ⟨c0, c1, c2, c3, c4, c5, c6⟩ := hA
  have HX := Lib.hid (h.ext X0)
  have hN1 : (w.alloc (.cells QA 45)).heap.size = w.heap.size + 1 := World.size_alloc _ _
  have own0 := own_new (w.alloc (.cells QA 45)) [.int .u8 2] 1 1 5 rfl (by decide)
  rw [hN1] at own0
  rw [hk] at c0
  have xw0 : Ext (w.alloc (.cells QA 45)) ((w.alloc (.cells QA 45)).alloc (.cells #[.int .u8 2] 5)) := (Ext.refl _).alloc _
  have c0w := xw0.cell c0
  have c2z := xw0.cell c2
  go_enter Tryz.func76, Tryz.ntmps76
  go_wp2_with (at_builtin; refine wp_app1 tyB rfl _ _ rfl (w.heap.size + 1) _ 1 _ _ _ own0 (by rfl) (by rw [World.size_alloc, World.size_alloc]; rfl) rfl (by omega) (by omega) (by rw [World.size_alloc, World.size_alloc]; omega) ?_; intro v2 w2 own2 gr2; have x2 := own_base (own0.alloc _) gr2 (xw0.alloc _) (by rw [World.size_alloc]; omega); have c2y := x2.cell c2)
  generalize w.alloc (.cells QA 45) = w1 at *
  generalize hN : w.heap.size + 1 = N1 at *
  generalize hG : w.heap.size = G at *
  have own0 : (w1.alloc (.cells #[.int .u8 2] 5)).ownsRow N1 5 1 (.slice (some ⟨N1, 0, none⟩) 1 1) 1 [.int .u8 2] := own0
  have xw : Ext w1 (w1.alloc (.cells #[.int .u8 2] 5)) := (Ext.refl w1).alloc _
  have hve := Lib.hid HX.out.ve
  have hce : o.ents.length ≤ ce := by obtain ⟨_, _, _, e, h, _⟩ := hve.out; simp only [Value.slice.injEq] at e; omega
  clear he hk h hp5 c0 c0w c2z xw0 c1 c3 c4 c5 c6 ho hQA HX
  generalize o.ents = es at *
  have c2w := c2
  have own2' : w2.ownsRow N1 5 1 v2 (encT es 0).length ((encT es 0).map bc) := by
    have e : (encT es 0).map bc = [.int .u8 2] ++ [.int .u8 (es.length : Int)] := by
      show [bc 2, bc (UInt8.ofNat es.length)] = _
      rw [bc_ofNat, Int.emod_eq_of_lt (by omega) (by omega)]; rfl
    rw [e]
    exact own2
  have C2 := Lib.hid c2w
  go_loopg [3, 4] es.length (fun g s3 s4 wr => ∃ i : Nat, i ≤ es.length ∧ es.length - i ≤ g ∧ s4 = .int .i64 i ∧ wr.ownsRow N1 5 1 s3 (encT es i).length ((encT es i).map bc) ∧ Ext w1 wr)
  case atStart => exact ⟨0, Nat.zero_le _, by omega, rfl, own2', x2⟩
  case round =>
    clear own2' own2 gr2 own0 xw c2
    obtain ⟨i, hi, hg, rfl, own, xr⟩ := hrel
    have c2 := xr.cell C2.out
    by_cases hlt : i < es.length
    · obtain ⟨p, off, rfl, hra⟩ := ent_at hve.out (fun e he => (hbn e he).1) i hlt
      have hok := (hbn _ (List.getElem_mem hlt)).1
      have hnm := (hbn _ (List.getElem_mem hlt)).2
      have hle := encT_le (i := i) hbn (by omega)
      have hnx := encT_next hlt
      have hra := rangeAt_ext hra xr
      generalize es[i] = e at *
      generalize hP : encT es i = P at *
      generalize hP' : encT es (i + 1) = P' at *
      have HN := Lib.hid hnx
      have HP := Lib.hid hP
      have HP' := Lib.hid hP'.symm
      clear hnx hP hP'
      have hl34 := entC_len hok
      have hidl := hok.1
      have hinf := ent_info hok
      have hone := ent_one e
      have hec : entC e = .string e.name :: .bool e.folder :: e.id.map bc := rfl
      have i0 : (0 : Int) ≤ (i : Int) := Int.natCast_nonneg _
      have i1 : (i : Int) < (es.length : Int) := by omega
      have bn := heap_alloc_new wr (.cells (entC e).toArray 80)
      have xa : Ext w1 (wr.alloc (.cells (entC e).toArray 80)) := xr.alloc _
      have owna := own.alloc (.cells (entC e).toArray 80)
      have hcn : ∀ W : World, W.heap[wr.heap.size]? = some (.cells (entC e).toArray 80 (0, 0)) → W.cell? ⟨wr.heap.size, 0, none⟩ = some (.string e.name) := fun W h => by rw [block_cell h, hec]; rfl
      have hwm : IntKind.u8.wrap (e.name.size : Int) = (e.name.size : Int) := by rw [IntKind.wrap_u8]; omega
      have hM : P.map bc ++ [.int .u8 (e.name.size : Int)] = (P ++ [UInt8.ofNat e.name.size]).map bc := by rw [List.map_append, List.map_singleton, bc_ofNat, Int.emod_eq_of_lt (by omega) (by omega)]
      obtain ⟨M, hMM⟩ : ∃ M, P.length + 1 + e.name.size = M := ⟨_, rfl⟩
      go_wp2_with (first
        | ((with_reducible refine at_load 80 (.tmp 44) ?_); refine wpl_mid (by rfl) 80 (.tmp 44) rfl p (off + i * 34) (by rfl) (entC e) _ hra Tryz.underlying80 rfl hinf ?_)
        | ((with_reducible refine at_store 80 (.tmp 5) (.tmp 45) ?_); refine wpl_store (by rfl) 80 (.tmp 5) (.tmp 45) rfl wr.heap.size (entC e).toArray (by rfl) (by rfl) 80 _ (heap_alloc_new _ _) (by simpa using hinf) (by simp [hl34]) (all_oneCell_toArray hone) ?_; rw [World.setRow_alloc_new]))
      generalize wr.alloc (.cells (entC e).toArray 80) = wa at *
      generalize wr.heap.size = Hb at *
      clear hra own hinf hone
      refine wp_region_S (fun v => Ext w1 v ∧ v.heap[Hb]? = some (.cells (entC e).toArray 80 (0, 0))) (by kernel_rfl) (fun w' h => ⟨xa.trans h, h.keeps bn⟩) fun wd hqd xd hHeld => ?_
      refine wpAnyH_take (i := 0) (v := ?vb0) rfl (by kernel_rfl) (by kernel_rfl) (by kernel_rfl) (fun _ _ _ h => h) (Or.inl ⟨by rfl, ?hyb0⟩) hHeld ?_
      case hyb0 => (intro w hSw; go_simp; try with_reducible rfl)
      simp only [Act.put, List.setIfInBounds_toArray, List.set_cons_zero, List.set_cons_succ, List.getElem_toArray, List.getElem_cons_zero, List.getElem_cons_succ]
      refine wpAnyH_take (i := 1) (v := ?vb1) rfl (by kernel_rfl) (by kernel_rfl) (by kernel_rfl) (fun _ _ _ h => h) (Or.inl ⟨by rfl, ?hyb1⟩) hHeld ?_
      case hyb1 => (intro w hSw; go_simp; try with_reducible rfl)
      simp only [Act.put, List.setIfInBounds_toArray, List.set_cons_zero, List.set_cons_succ, List.getElem_toArray, List.getElem_cons_zero, List.getElem_cons_succ]
      refine wpAnyH_take (i := 2) (v := ?vb2) rfl (by kernel_rfl) (by kernel_rfl) (by kernel_rfl) (fun _ _ _ h => h) (Or.inl ⟨by rfl, ?hyb2⟩) hHeld ?_
      case hyb2 => (intro w hSw; have k := hcn _ hSw.2; go_simp; try with_reducible rfl)
      simp only [Act.put, List.setIfInBounds_toArray, List.set_cons_zero, List.set_cons_succ, List.getElem_toArray, List.getElem_cons_zero, List.getElem_cons_succ]
      refine wpAnyH_take (i := 3) (v := ?vb3) rfl (by kernel_rfl) (by kernel_rfl) (by kernel_rfl) (fun _ _ _ h => h) (Or.inl ⟨by rfl, ?hyb3⟩) hHeld ?_
      case hyb3 => (intro w hSw; go_simp; try with_reducible rfl)
      simp only [Act.put, List.setIfInBounds_toArray, List.set_cons_zero, List.set_cons_succ, List.getElem_toArray, List.getElem_cons_zero, List.getElem_cons_succ]
      refine wpAnyH_take (i := 4) (v := ?vb4) rfl (by kernel_rfl) (by kernel_rfl) (by kernel_rfl) (fun _ _ _ h => h) (Or.inl ⟨by rfl, ?hyb4⟩) hHeld ?_
      case hyb4 => (intro w hSw; go_simp; try with_reducible rfl)
      simp only [Act.put, List.setIfInBounds_toArray, List.set_cons_zero, List.set_cons_succ, List.getElem_toArray, List.getElem_cons_zero, List.getElem_cons_succ]
      refine wpAnyH_take (i := 7) (v := ?vb7) rfl (by kernel_rfl) (by kernel_rfl) (by kernel_rfl) (fun _ _ _ h => h) (Or.inl ⟨by rfl, ?hyb7⟩) hHeld ?_
      case hyb7 => (intro w hSw; go_simp; try with_reducible rfl)
      simp only [Act.put, List.setIfInBounds_toArray, List.set_cons_zero, List.set_cons_succ, List.getElem_toArray, List.getElem_cons_zero, List.getElem_cons_succ]
      refine wpAnyH_take (i := 8) (v := ?vb8) rfl (by kernel_rfl) (by kernel_rfl) (by kernel_rfl) (fun _ _ _ h => h) (Or.inl ⟨by rfl, ?hyb8⟩) hHeld ?_
      case hyb8 => (intro w hSw; have k := hcn _ hSw.2; go_simp; try with_reducible rfl)
      simp only [Act.put, List.setIfInBounds_toArray, List.set_cons_zero, List.set_cons_succ, List.getElem_toArray, List.getElem_cons_zero, List.getElem_cons_succ]
      have own0 := ownsRow_ext owna xd
      have hnl : e.name.data.toList.length = e.name.size := by rw [Array.length_toList]; rfl
      refine wpAnyH_all (rs := [5, 9]) (by kernel_rfl) (by simp) ?_
      intro i hi; have hi' : i = 5 ∨ i = 9 := by simpa using hi
      clear hi; rcases hi' with rfl | rfl
      · refine wpOp_run rfl (by rfl) ?_
        go_simp
        have own0 := own0.alloc (.cells #[.int .u8 (e.name.size : Int)] 5)
        have bS := heap_alloc_new wd (.cells #[.int .u8 (e.name.size : Int)] 5)
        have hHeld := And.intro (hHeld.1.alloc (.cells #[.int .u8 (e.name.size : Int)] 5)) (blk_old (o := (.cells #[.int .u8 (e.name.size : Int)] 5)) hHeld.2)
        refine ⟨hHeld, ?_⟩
        try simp only [Act.put, List.setIfInBounds_toArray, List.set_cons_zero, List.set_cons_succ, List.getElem_toArray, List.getElem_cons_zero, List.getElem_cons_succ]
        refine wpAnyH_all (rs := [6, 9]) (by kernel_rfl) (by simp) ?_
        intro i hi; have hi' : i = 6 ∨ i = 9 := by simpa using hi
        clear hi; rcases hi' with rfl | rfl
        · refine wpOp_run rfl (by rfl) ?_
          refine wp_appO tyB (.tmp 46) (.tmp 51) rfl N1 _ P.length _ own0 (by rfl) (.slice (some ⟨wd.heap.size, 0, none⟩) 1 1) 1 [.int .u8 (e.name.size : Int)] (blk_one bS) (by rfl) (by intro c hc; rw [List.mem_singleton.1 hc]; rfl) (by omega) (by omega) (by rw [← hN1]; exact hHeld.1.size) ?_
          intro v6 w6 own6 gr6
          have hHeld := And.intro (own_base own0 gr6 hHeld.1 (by omega)) (KeepU.own own0 gr6 _ _ _ _ hHeld.2 (by decide))
          rw [hM] at own6
          refine ⟨hHeld, ?_⟩
          try simp only [Act.put, List.setIfInBounds_toArray, List.set_cons_zero, List.set_cons_succ, List.getElem_toArray, List.getElem_cons_zero, List.getElem_cons_succ]
          refine wpAnyH_all (rs := [9]) (by kernel_rfl) (by simp) ?_
          intro i hi; obtain rfl : i = 9 := by simpa using hi
          refine wpOp_run rfl (by rfl) ?_
          refine wp_strBytes 9 40 5 (.tmp 54) rfl e.name (by rfl) Tryz.underlying9 Tryz.underlying40 Tryz.underlying5 (by omega) ?_
          intro cap5 w5 hv5 x5
          have own6b := own6
          have own6 := ownsRow_ext own6 x5
          have hHeld := And.intro (hHeld.1.trans x5) (x5.keeps hHeld.2)
          refine ⟨hHeld, ?_⟩
          try simp only [Act.put, List.setIfInBounds_toArray, List.set_cons_zero, List.set_cons_succ, List.getElem_toArray, List.getElem_cons_zero, List.getElem_cons_succ]
          refine wpAnyH_all (rs := [10]) (by kernel_rfl) (by simp) ?_
          intro i hi; obtain rfl : i = 10 := by simpa using hi
          refine wpOp_run rfl (by rfl) ?_
          go_simp
          have hsz6 := hHeld.1.size
          refine Calls.mono (refBoth _ v6 _ (P ++ [UInt8.ofNat e.name.size]) e.name.data.toList (IsB.of_owns own6) hv5 (by rw [List.length_append, List.length_singleton, hnl]; omega)) ?_
          rintro ee w7 ⟨v7, rfl, own7, x7⟩
          have own7 := ownsRow_base own7 (show N1 ≤ _ by rw [← hN1]; exact hsz6)
          have hHeld := And.intro (hHeld.1.trans x7) (x7.keeps hHeld.2)
          refine ⟨hHeld, ?_⟩
          try simp only [Act.put, List.setIfInBounds_toArray, List.set_cons_zero, List.set_cons_succ, List.getElem_toArray, List.getElem_cons_zero, List.getElem_cons_succ]
          refine wpAnyH_take (i := 11) (v := ?vbe111) rfl (by kernel_rfl) (by kernel_rfl) (by kernel_rfl) (fun _ _ _ h => h) (Or.inl ⟨by rfl, ?hybe111⟩) hHeld ?_
          case hybe111 => (intro w hSw; go_simp; try with_reducible rfl)
          simp only [Act.put, List.setIfInBounds_toArray, List.set_cons_zero, List.set_cons_succ, List.getElem_toArray, List.getElem_cons_zero, List.getElem_cons_succ]
          refine wpAnyH_done (by kernel_rfl) ?_ _
          refine NoPanic.normal ?_
          have hM2 : ((P ++ [UInt8.ofNat e.name.size]) ++ e.name.data.toList) = P ++ txtB e.name := by unfold txtB; simp
          have hM3 : (P ++ [UInt8.ofNat e.name.size]).length + e.name.data.toList.length = M := by rw [List.length_append, List.length_singleton, hnl]; exact hMM
          rw [hM2, hM3] at own7
          cases hf : e.folder with
          | false =>
            have cf : w7.cell? ⟨Hb, 1, none⟩ = some (.bool false) := by rw [block_cell hHeld.2, hec, hf]; rfl
            have own8a := own7.alloc (.cells #[.int .u8 0] 5)
            have b8a := blk_old (o := .cells #[.int .u8 0] 5) hHeld.2
            go_wp2_with (at_builtin; refine wp_app1 tyB rfl _ _ rfl N1 _ M _ _ _ own7 (by rfl) (by rfl) rfl (by omega) (by omega) (by rw [← hN1]; exact hHeld.1.size) ?_; intro v8 w8 own8 gr8)
            have b8 := KeepU.own own8a gr8 _ _ _ _ b8a (by decide)
            have x8 := own_base own8a gr8 (hHeld.1.alloc _) (by omega)
            have hsl := part_sl (pre := [.string e.name, .bool e.folder]) (post := []) (l := e.id) (by rw [List.append_nil]; exact b8) rfl hidl (by omega)
            have hslB : IsB w8 (.slice (some ⟨Hb, 2, none⟩) 32 32) e.id := by unfold IsB; rw [hidl]; exact hsl
            have own8 : w8.ownsRow N1 5 1 v8 (M + 1) ((P ++ txtB e.name ++ [0]).map bc) := by rw [List.map_append]; exact own8
            have hsz8 := x8.size
            refine Calls.mono (refBoth _ v8 _ (P ++ txtB e.name ++ [0]) e.id (IsB.of_owns own8) hslB (by have := own8.1; simp only [List.length_map] at this; omega)) ?_
            rintro ee w9 ⟨v9, rfl, own9, x9⟩
            have own9 := ownsRow_base own9 (show N1 ≤ _ by rw [← hN1]; exact hsz8)
            go_wp2_with fail
            go_roundg (es.length - (i + 1))
            case measure => omega
            case rel =>
              refine ⟨i + 1, by omega, by omega, by go_num, ?_, x8.trans x9⟩
              have e3 : (P ++ txtB e.name ++ [0]) ++ e.id = P' := by rw [HN.out]; unfold encE; rw [hf]; simp
              rw [e3] at own9
              have e4 : (P ++ txtB e.name ++ [0]).length + e.id.length = P'.length := by rw [← e3]; simp only [List.length_append]
              rw [e4] at own9
              rw [← HP'.out]
              exact own9
          | true =>
            have cf : w7.cell? ⟨Hb, 1, none⟩ = some (.bool true) := by rw [block_cell hHeld.2, hec, hf]; rfl
            have own8a := own7.alloc (.cells #[.int .u8 1] 5)
            have b8a := blk_old (o := .cells #[.int .u8 1] 5) hHeld.2
            go_wp2_with (at_builtin; refine wp_app1 tyB rfl _ _ rfl N1 _ M _ _ _ own7 (by rfl) (by rfl) rfl (by omega) (by omega) (by rw [← hN1]; exact hHeld.1.size) ?_; intro v8 w8 own8 gr8)
            have b8 := KeepU.own own8a gr8 _ _ _ _ b8a (by decide)
            have x8 := own_base own8a gr8 (hHeld.1.alloc _) (by omega)
            have hsl := part_sl (pre := [.string e.name, .bool e.folder]) (post := []) (l := e.id) (by rw [List.append_nil]; exact b8) rfl hidl (by omega)
            have hslB : IsB w8 (.slice (some ⟨Hb, 2, none⟩) 32 32) e.id := by unfold IsB; rw [hidl]; exact hsl
            have own8 : w8.ownsRow N1 5 1 v8 (M + 1) ((P ++ txtB e.name ++ [1]).map bc) := by rw [List.map_append]; exact own8
            have hsz8 := x8.size
            refine Calls.mono (refBoth _ v8 _ (P ++ txtB e.name ++ [1]) e.id (IsB.of_owns own8) hslB (by have := own8.1; simp only [List.length_map] at this; omega)) ?_
            rintro ee w9 ⟨v9, rfl, own9, x9⟩
            have own9 := ownsRow_base own9 (show N1 ≤ _ by rw [← hN1]; exact hsz8)
            go_wp2_with fail
            go_roundg (es.length - (i + 1))
            case measure => omega
            case rel =>
              refine ⟨i + 1, by omega, by omega, by go_num, ?_, x8.trans x9⟩
              have e3 : (P ++ txtB e.name ++ [1]) ++ e.id = P' := by rw [HN.out]; unfold encE; rw [hf]; simp
              rw [e3] at own9
              have e4 : (P ++ txtB e.name ++ [1]).length + e.id.length = P'.length := by rw [← e3]; simp only [List.length_append]
              rw [e4] at own9
              rw [← HP'.out]
              exact own9
        · refine wpOp_run rfl (by rfl) ?_
          refine wp_strBytes 9 40 5 (.tmp 54) rfl e.name (by rfl) Tryz.underlying9 Tryz.underlying40 Tryz.underlying5 (by omega) ?_
          intro cap5 w5 hv5 x5
          obtain ⟨H5, hH5⟩ : ∃ H5, (wd.alloc (.cells #[.int .u8 (e.name.size : Int)] 5)).heap.size = H5 := ⟨_, rfl⟩
          skip
          rw [hH5] at hv5 ⊢
          have own0b := own0
          have own0 := ownsRow_ext own0 x5
          have hHeld := And.intro (hHeld.1.trans x5) (x5.keeps hHeld.2)
          have bS := x5.keeps bS
          refine ⟨hHeld, ?_⟩
          try simp only [Act.put, List.setIfInBounds_toArray, List.set_cons_zero, List.set_cons_succ, List.getElem_toArray, List.getElem_cons_zero, List.getElem_cons_succ]
          refine wpAnyH_all (rs := [6]) (by kernel_rfl) (by simp) ?_
          intro i hi; obtain rfl : i = 6 := by simpa using hi
          refine wpOp_run rfl (by rfl) ?_
          refine wp_appO tyB (.tmp 46) (.tmp 51) rfl N1 _ P.length _ own0 (by rfl) (.slice (some ⟨wd.heap.size, 0, none⟩) 1 1) 1 [.int .u8 (e.name.size : Int)] (blk_one bS) (by rfl) (by intro c hc; rw [List.mem_singleton.1 hc]; rfl) (by omega) (by omega) (by rw [← hN1]; exact hHeld.1.size) ?_
          intro v6 w6 own6 gr6
          have hv5 := hv5.apart gr6 (own_not own0b hH5)
          have hHeld := And.intro (own_base own0 gr6 hHeld.1 (by omega)) (KeepU.own own0 gr6 _ _ _ _ hHeld.2 (by decide))
          rw [hM] at own6
          refine ⟨hHeld, ?_⟩
          try simp only [Act.put, List.setIfInBounds_toArray, List.set_cons_zero, List.set_cons_succ, List.getElem_toArray, List.getElem_cons_zero, List.getElem_cons_succ]
          refine wpAnyH_all (rs := [10]) (by kernel_rfl) (by simp) ?_
          intro i hi; obtain rfl : i = 10 := by simpa using hi
          refine wpOp_run rfl (by rfl) ?_
          go_simp
          have hsz6 := hHeld.1.size
          refine Calls.mono (refBoth _ v6 _ (P ++ [UInt8.ofNat e.name.size]) e.name.data.toList (IsB.of_owns own6) hv5 (by rw [List.length_append, List.length_singleton, hnl]; omega)) ?_
          rintro ee w7 ⟨v7, rfl, own7, x7⟩
          have own7 := ownsRow_base own7 (show N1 ≤ _ by rw [← hN1]; exact hsz6)
          have hHeld := And.intro (hHeld.1.trans x7) (x7.keeps hHeld.2)
          refine ⟨hHeld, ?_⟩
          try simp only [Act.put, List.setIfInBounds_toArray, List.set_cons_zero, List.set_cons_succ, List.getElem_toArray, List.getElem_cons_zero, List.getElem_cons_succ]
          refine wpAnyH_take (i := 11) (v := ?vbe211) rfl (by kernel_rfl) (by kernel_rfl) (by kernel_rfl) (fun _ _ _ h => h) (Or.inl ⟨by rfl, ?hybe211⟩) hHeld ?_
          case hybe211 => (intro w hSw; go_simp; try with_reducible rfl)
          simp only [Act.put, List.setIfInBounds_toArray, List.set_cons_zero, List.set_cons_succ, List.getElem_toArray, List.getElem_cons_zero, List.getElem_cons_succ]
          refine wpAnyH_done (by kernel_rfl) ?_ _
          refine NoPanic.normal ?_
          have hM2 : ((P ++ [UInt8.ofNat e.name.size]) ++ e.name.data.toList) = P ++ txtB e.name := by unfold txtB; simp
          have hM3 : (P ++ [UInt8.ofNat e.name.size]).length + e.name.data.toList.length = M := by rw [List.length_append, List.length_singleton, hnl]; exact hMM
          rw [hM2, hM3] at own7
          cases hf : e.folder with
          | false =>
            have cf : w7.cell? ⟨Hb, 1, none⟩ = some (.bool false) := by rw [block_cell hHeld.2, hec, hf]; rfl
            have own8a := own7.alloc (.cells #[.int .u8 0] 5)
            have b8a := blk_old (o := .cells #[.int .u8 0] 5) hHeld.2
            go_wp2_with (at_builtin; refine wp_app1 tyB rfl _ _ rfl N1 _ M _ _ _ own7 (by rfl) (by rfl) rfl (by omega) (by omega) (by rw [← hN1]; exact hHeld.1.size) ?_; intro v8 w8 own8 gr8)
            have b8 := KeepU.own own8a gr8 _ _ _ _ b8a (by decide)
            have x8 := own_base own8a gr8 (hHeld.1.alloc _) (by omega)
            have hsl := part_sl (pre := [.string e.name, .bool e.folder]) (post := []) (l := e.id) (by rw [List.append_nil]; exact b8) rfl hidl (by omega)
            have hslB : IsB w8 (.slice (some ⟨Hb, 2, none⟩) 32 32) e.id := by unfold IsB; rw [hidl]; exact hsl
            have own8 : w8.ownsRow N1 5 1 v8 (M + 1) ((P ++ txtB e.name ++ [0]).map bc) := by rw [List.map_append]; exact own8
            have hsz8 := x8.size
            refine Calls.mono (refBoth _ v8 _ (P ++ txtB e.name ++ [0]) e.id (IsB.of_owns own8) hslB (by have := own8.1; simp only [List.length_map] at this; omega)) ?_
            rintro ee w9 ⟨v9, rfl, own9, x9⟩
            have own9 := ownsRow_base own9 (show N1 ≤ _ by rw [← hN1]; exact hsz8)
            go_wp2_with fail
            go_roundg (es.length - (i + 1))
            case measure => omega
            case rel =>
              refine ⟨i + 1, by omega, by omega, by go_num, ?_, x8.trans x9⟩
              have e3 : (P ++ txtB e.name ++ [0]) ++ e.id = P' := by rw [HN.out]; unfold encE; rw [hf]; simp
              rw [e3] at own9
              have e4 : (P ++ txtB e.name ++ [0]).length + e.id.length = P'.length := by rw [← e3]; simp only [List.length_append]
              rw [e4] at own9
              rw [← HP'.out]
              exact own9
          | true =>
            have cf : w7.cell? ⟨Hb, 1, none⟩ = some (.bool true) := by rw [block_cell hHeld.2, hec, hf]; rfl
            have own8a := own7.alloc (.cells #[.int .u8 1] 5)
            have b8a := blk_old (o := .cells #[.int .u8 1] 5) hHeld.2
            go_wp2_with (at_builtin; refine wp_app1 tyB rfl _ _ rfl N1 _ M _ _ _ own7 (by rfl) (by rfl) rfl (by omega) (by omega) (by rw [← hN1]; exact hHeld.1.size) ?_; intro v8 w8 own8 gr8)
            have b8 := KeepU.own own8a gr8 _ _ _ _ b8a (by decide)
            have x8 := own_base own8a gr8 (hHeld.1.alloc _) (by omega)
            have hsl := part_sl (pre := [.string e.name, .bool e.folder]) (post := []) (l := e.id) (by rw [List.append_nil]; exact b8) rfl hidl (by omega)
            have hslB : IsB w8 (.slice (some ⟨Hb, 2, none⟩) 32 32) e.id := by unfold IsB; rw [hidl]; exact hsl
            have own8 : w8.ownsRow N1 5 1 v8 (M + 1) ((P ++ txtB e.name ++ [1]).map bc) := by rw [List.map_append]; exact own8
            have hsz8 := x8.size
            refine Calls.mono (refBoth _ v8 _ (P ++ txtB e.name ++ [1]) e.id (IsB.of_owns own8) hslB (by have := own8.1; simp only [List.length_map] at this; omega)) ?_
            rintro ee w9 ⟨v9, rfl, own9, x9⟩
            have own9 := ownsRow_base own9 (show N1 ≤ _ by rw [← hN1]; exact hsz8)
            go_wp2_with fail
            go_roundg (es.length - (i + 1))
            case measure => omega
            case rel =>
              refine ⟨i + 1, by omega, by omega, by go_num, ?_, x8.trans x9⟩
              have e3 : (P ++ txtB e.name ++ [1]) ++ e.id = P' := by rw [HN.out]; unfold encE; rw [hf]; simp
              rw [e3] at own9
              have e4 : (P ++ txtB e.name ++ [1]).length + e.id.length = P'.length := by rw [← e3]; simp only [List.length_append]
              rw [e4] at own9
              rw [← HP'.out]
              exact own9
      · refine wpOp_run rfl (by rfl) ?_
        refine wp_strBytes 9 40 5 (.tmp 54) rfl e.name (by rfl) Tryz.underlying9 Tryz.underlying40 Tryz.underlying5 (by omega) ?_
        intro cap5 w5 hv5 x5
        obtain ⟨H5, hH5⟩ : ∃ H5, wd.heap.size = H5 := ⟨_, rfl⟩
        skip
        rw [hH5] at hv5 ⊢
        have own0b := own0
        have own0 := ownsRow_ext own0 x5
        have hHeld := And.intro (hHeld.1.trans x5) (x5.keeps hHeld.2)
        refine ⟨hHeld, ?_⟩
        try simp only [Act.put, List.setIfInBounds_toArray, List.set_cons_zero, List.set_cons_succ, List.getElem_toArray, List.getElem_cons_zero, List.getElem_cons_succ]
        refine wpAnyH_all (rs := [5]) (by kernel_rfl) (by simp) ?_
        intro i hi; obtain rfl : i = 5 := by simpa using hi
        refine wpOp_run rfl (by rfl) ?_
        go_simp
        have own0 := own0.alloc (.cells #[.int .u8 (e.name.size : Int)] 5)
        have bS := heap_alloc_new w5 (.cells #[.int .u8 (e.name.size : Int)] 5)
        have hv5 := hv5.ext ((Ext.refl w5).alloc (.cells #[.int .u8 (e.name.size : Int)] 5))
        have hHeld := And.intro (hHeld.1.alloc (.cells #[.int .u8 (e.name.size : Int)] 5)) (blk_old (o := (.cells #[.int .u8 (e.name.size : Int)] 5)) hHeld.2)
        refine ⟨hHeld, ?_⟩
        try simp only [Act.put, List.setIfInBounds_toArray, List.set_cons_zero, List.set_cons_succ, List.getElem_toArray, List.getElem_cons_zero, List.getElem_cons_succ]
        refine wpAnyH_all (rs := [6]) (by kernel_rfl) (by simp) ?_
        intro i hi; obtain rfl : i = 6 := by simpa using hi
        refine wpOp_run rfl (by rfl) ?_
        refine wp_appO tyB (.tmp 46) (.tmp 51) rfl N1 _ P.length _ own0 (by rfl) (.slice (some ⟨w5.heap.size, 0, none⟩) 1 1) 1 [.int .u8 (e.name.size : Int)] (blk_one bS) (by rfl) (by intro c hc; rw [List.mem_singleton.1 hc]; rfl) (by omega) (by omega) (by rw [← hN1]; exact hHeld.1.size) ?_
        intro v6 w6 own6 gr6
        have hv5 := hv5.apart gr6 (own_not own0b hH5)
        have hHeld := And.intro (own_base own0 gr6 hHeld.1 (by omega)) (KeepU.own own0 gr6 _ _ _ _ hHeld.2 (by decide))
        rw [hM] at own6
        refine ⟨hHeld, ?_⟩
        try simp only [Act.put, List.setIfInBounds_toArray, List.set_cons_zero, List.set_cons_succ, List.getElem_toArray, List.getElem_cons_zero, List.getElem_cons_succ]
        refine wpAnyH_all (rs := [10]) (by kernel_rfl) (by simp) ?_
        intro i hi; obtain rfl : i = 10 := by simpa using hi
        refine wpOp_run rfl (by rfl) ?_
        go_simp
        have hsz6 := hHeld.1.size
        refine Calls.mono (refBoth _ v6 _ (P ++ [UInt8.ofNat e.name.size]) e.name.data.toList (IsB.of_owns own6) hv5 (by rw [List.length_append, List.length_singleton, hnl]; omega)) ?_
        rintro ee w7 ⟨v7, rfl, own7, x7⟩
        have own7 := ownsRow_base own7 (show N1 ≤ _ by rw [← hN1]; exact hsz6)
        have hHeld := And.intro (hHeld.1.trans x7) (x7.keeps hHeld.2)
        refine ⟨hHeld, ?_⟩
        try simp only [Act.put, List.setIfInBounds_toArray, List.set_cons_zero, List.set_cons_succ, List.getElem_toArray, List.getElem_cons_zero, List.getElem_cons_succ]
        refine wpAnyH_take (i := 11) (v := ?vbe311) rfl (by kernel_rfl) (by kernel_rfl) (by kernel_rfl) (fun _ _ _ h => h) (Or.inl ⟨by rfl, ?hybe311⟩) hHeld ?_
        case hybe311 => (intro w hSw; go_simp; try with_reducible rfl)
        simp only [Act.put, List.setIfInBounds_toArray, List.set_cons_zero, List.set_cons_succ, List.getElem_toArray, List.getElem_cons_zero, List.getElem_cons_succ]
        refine wpAnyH_done (by kernel_rfl) ?_ _
        refine NoPanic.normal ?_
        have hM2 : ((P ++ [UInt8.ofNat e.name.size]) ++ e.name.data.toList) = P ++ txtB e.name := by unfold txtB; simp
        have hM3 : (P ++ [UInt8.ofNat e.name.size]).length + e.name.data.toList.length = M := by rw [List.length_append, List.length_singleton, hnl]; exact hMM
        rw [hM2, hM3] at own7
        cases hf : e.folder with
        | false =>
          have cf : w7.cell? ⟨Hb, 1, none⟩ = some (.bool false) := by rw [block_cell hHeld.2, hec, hf]; rfl
          have own8a := own7.alloc (.cells #[.int .u8 0] 5)
          have b8a := blk_old (o := .cells #[.int .u8 0] 5) hHeld.2
          go_wp2_with (at_builtin; refine wp_app1 tyB rfl _ _ rfl N1 _ M _ _ _ own7 (by rfl) (by rfl) rfl (by omega) (by omega) (by rw [← hN1]; exact hHeld.1.size) ?_; intro v8 w8 own8 gr8)
          have b8 := KeepU.own own8a gr8 _ _ _ _ b8a (by decide)
          have x8 := own_base own8a gr8 (hHeld.1.alloc _) (by omega)
          have hsl := part_sl (pre := [.string e.name, .bool e.folder]) (post := []) (l := e.id) (by rw [List.append_nil]; exact b8) rfl hidl (by omega)
          have hslB : IsB w8 (.slice (some ⟨Hb, 2, none⟩) 32 32) e.id := by unfold IsB; rw [hidl]; exact hsl
          have own8 : w8.ownsRow N1 5 1 v8 (M + 1) ((P ++ txtB e.name ++ [0]).map bc) := by rw [List.map_append]; exact own8
          have hsz8 := x8.size
          refine Calls.mono (refBoth _ v8 _ (P ++ txtB e.name ++ [0]) e.id (IsB.of_owns own8) hslB (by have := own8.1; simp only [List.length_map] at this; omega)) ?_
          rintro ee w9 ⟨v9, rfl, own9, x9⟩
          have own9 := ownsRow_base own9 (show N1 ≤ _ by rw [← hN1]; exact hsz8)
          go_wp2_with fail
          go_roundg (es.length - (i + 1))
          case measure => omega
          case rel =>
            refine ⟨i + 1, by omega, by omega, by go_num, ?_, x8.trans x9⟩
            have e3 : (P ++ txtB e.name ++ [0]) ++ e.id = P' := by rw [HN.out]; unfold encE; rw [hf]; simp
            rw [e3] at own9
            have e4 : (P ++ txtB e.name ++ [0]).length + e.id.length = P'.length := by rw [← e3]; simp only [List.length_append]
            rw [e4] at own9
            rw [← HP'.out]
            exact own9
        | true =>
          have cf : w7.cell? ⟨Hb, 1, none⟩ = some (.bool true) := by rw [block_cell hHeld.2, hec, hf]; rfl
          have own8a := own7.alloc (.cells #[.int .u8 1] 5)
          have b8a := blk_old (o := .cells #[.int .u8 1] 5) hHeld.2
          go_wp2_with (at_builtin; refine wp_app1 tyB rfl _ _ rfl N1 _ M _ _ _ own7 (by rfl) (by rfl) rfl (by omega) (by omega) (by rw [← hN1]; exact hHeld.1.size) ?_; intro v8 w8 own8 gr8)
          have b8 := KeepU.own own8a gr8 _ _ _ _ b8a (by decide)
          have x8 := own_base own8a gr8 (hHeld.1.alloc _) (by omega)
          have hsl := part_sl (pre := [.string e.name, .bool e.folder]) (post := []) (l := e.id) (by rw [List.append_nil]; exact b8) rfl hidl (by omega)
          have hslB : IsB w8 (.slice (some ⟨Hb, 2, none⟩) 32 32) e.id := by unfold IsB; rw [hidl]; exact hsl
          have own8 : w8.ownsRow N1 5 1 v8 (M + 1) ((P ++ txtB e.name ++ [1]).map bc) := by rw [List.map_append]; exact own8
          have hsz8 := x8.size
          refine Calls.mono (refBoth _ v8 _ (P ++ txtB e.name ++ [1]) e.id (IsB.of_owns own8) hslB (by have := own8.1; simp only [List.length_map] at this; omega)) ?_
          rintro ee w9 ⟨v9, rfl, own9, x9⟩
          have own9 := ownsRow_base own9 (show N1 ≤ _ by rw [← hN1]; exact hsz8)
          go_wp2_with fail
          go_roundg (es.length - (i + 1))
          case measure => omega
          case rel =>
            refine ⟨i + 1, by omega, by omega, by go_num, ?_, x8.trans x9⟩
            have e3 : (P ++ txtB e.name ++ [1]) ++ e.id = P' := by rw [HN.out]; unfold encE; rw [hf]; simp
            rw [e3] at own9
            have e4 : (P ++ txtB e.name ++ [1]).length + e.id.length = P'.length := by rw [← e3]; simp only [List.length_append]
            rw [e4] at own9
            rw [← HP'.out]
            exact own9
    · have hie : i = es.length := by omega
      subst hie
      go_wp2_with fail
      go_ret
      exact ⟨_, rfl, by rw [HE.out]; exact IsB.of_owns own, X0.trans xr⟩

set_option maxHeartbeats 8000000 in
set_option maxRecDepth 100000 in
theorem refBytes3 (w : World) (QA : Array Value) (vb ve vp : Value) (o : ObjL) (h : IsObj w QA vb ve vp o) (hc : checkB o = true) (hk : o.kind = 3) :
    Calls Tryz.prog 76 #[.agg QA] w fun e w' => ∃ v, e = .returned v ∧ IsB w' v (encB o) ∧ Ext w w' := by
  have b0 := heap_alloc_new w (.cells QA 45)
  have X0 : Ext w (w.alloc (.cells QA 45)) := (Ext.refl w).alloc _
  obtain ⟨_, hp1, hp2, hp3, hp4, hp5⟩ := chk_parts hc
  have ho := h.ok
  have hQA := h.eq
  obtain ⟨ap, cp, rfl⟩ := sl_len h.vp
  have he : encB o = encC o o.pars.length ++ be o.num 4 ++ txtB o.note := by unfold encB encC; rw [if_neg (by omega), if_neg (by omega), List.take_length]; simp
  have HE := Lib.hid he
  have hA := obj_at b0 h.eq h.ok
  obtain ⟨c0, c1, c2, c3, c4, c5, c6⟩ := hA
  have HX := Lib.hid (h.ext X0)
  have hN1 : (w.alloc (.cells QA 45)).heap.size = w.heap.size + 1 := World.size_alloc _ _
  have own0 := own_new (w.alloc (.cells QA 45)) [.int .u8 3] 1 1 5 rfl (by decide)
  rw [hN1] at own0
  rw [hk] at c0
  have xw0 : Ext (w.alloc (.cells QA 45)) ((w.alloc (.cells QA 45)).alloc (.cells #[.int .u8 3] 5)) := (Ext.refl _).alloc _
  have c0w := xw0.cell c0
  have c2z := xw0.cell c2
  go_enter Tryz.func76, Tryz.ntmps76
  go_wp2_with fail
  generalize w.alloc (.cells QA 45) = w1 at *
  generalize hN : w.heap.size + 1 = N1 at *
  generalize hG : w.heap.size = G at *
  have own0 : (w1.alloc (.cells #[.int .u8 3] 5)).ownsRow N1 5 1 (.slice (some ⟨N1, 0, none⟩) 1 1) 1 [.int .u8 3] := own0
  have xw : Ext w1 (w1.alloc (.cells #[.int .u8 3] 5)) := (Ext.refl w1).alloc _
  have hvp := Lib.hid HX.out.vp
  have hce : o.pars.length ≤ cp := by obtain ⟨_, _, _, e, h, _⟩ := hvp.out; simp only [Value.slice.injEq] at e; omega
  have hTr := part_sl (w := w1) (g := G) (k := 3) (n := 32) (l := o.tree) (pre := [.int .i64 o.kind, vb, ve]) (post := [.slice ap o.pars.length cp, .int .u32 (o.num : Int), .string o.note]) (t := 45) (f := (0, 0)) (by rw [b0, ← hQA]; rfl) rfl ho.tree (by omega)
  have hTrB : IsB w1 (.slice (some ⟨G, 3, none⟩) 32 32) o.tree := by unfold IsB; rw [ho.tree]; exact hTr
  have htl := ho.tree
  clear he hk h hp5 c0 c0w c2z xw0 c1 c2 c3 HX hTr
  refine Calls.mono (refBoth _ _ _ [3] o.tree (IsB.of_owns (l := [3]) own0) (hTrB.ext xw) (by rw [htl]; decide)) ?_
  rintro ee w3 ⟨v3, rfl, own3, x3⟩
  have X3 := xw.trans x3
  have hs3 := xw.size
  have own3 := ownsRow_base own3 (show N1 ≤ _ by rw [← hN1]; exact hs3)
  have hwm : IntKind.u8.wrap (o.pars.length : Int) = (o.pars.length : Int) := by rw [IntKind.wrap_u8]; omega
  have hl3 : ([3] : List UInt8).length + o.tree.length = 33 := by rw [htl]; rfl
  rw [hl3] at own3
  have C4 := Lib.hid c4
  have c4 := X3.cell c4
  go_wp2_with (at_builtin; refine wp_app1 tyB rfl _ _ rfl N1 _ 33 _ _ _ own3 (by rfl) (by rfl) rfl (by omega) (by omega) (by rw [← hN1]; exact X3.size) ?_; intro v4 w4 own4 gr4; have x4 := own_base (own3.alloc _) gr4 (X3.alloc _) (by omega); have c4 := x4.cell C4.out)
  have own4' : w4.ownsRow N1 5 1 v4 (34 + 32 * 0) ((encC o 0).map bc) := by
    have e : (encC o 0).map bc = ([3] ++ o.tree).map bc ++ [.int .u8 (o.pars.length : Int)] := by
      unfold encC
      rw [List.take_zero, List.flatten_nil, List.map_cons, List.map_append, List.map_cons, bc_ofNat, Int.emod_eq_of_lt (by omega) (by omega)]
      simp
    rw [e]
    exact own4
  go_loopg [3, 6] o.pars.length (fun g s3 s6 wr => ∃ i : Nat, i ≤ o.pars.length ∧ o.pars.length - i ≤ g ∧ s6 = .int .i64 i ∧ wr.ownsRow N1 5 1 s3 (34 + 32 * i) ((encC o i).map bc) ∧ Ext w1 wr)
  case atStart => exact ⟨0, Nat.zero_le _, by omega, rfl, own4', x4⟩
  case round =>
    clear own4' own4 gr4 own3 own0 xw c4
    obtain ⟨i, hi, hg, rfl, own, xr⟩ := hrel
    have c4 := xr.cell C4.out
    by_cases hlt : i < o.pars.length
    · obtain ⟨p, off, rfl, hra⟩ := ids_at hvp.out ho.pars i hlt
      have hpl := ho.pars _ (List.getElem_mem hlt)
      have hnx := encC_next hlt
      have hPl := encC_len (i := i) ho (by omega)
      have hra := rangeAt_ext hra xr
      generalize o.pars[i] = Q at *
      generalize hP : encC o i = P at *
      generalize hP' : encC o (i + 1) = P' at *
      have HN := Lib.hid hnx
      clear hnx hP
      have i0 : (0 : Int) ≤ (i : Int) := Int.natCast_nonneg _
      have i1 : (i : Int) < (o.pars.length : Int) := by omega
      have hsl := range_sl (l := Q) (n := 32) hra hpl (by omega)
      have hslB : IsB wr (.slice (some ⟨p, off + i * 32, none⟩) 32 32) Q := by unfold IsB; rw [hpl]; exact hsl
      go_wp2_with fail
      refine Calls.mono (refBoth _ _ _ P Q (IsB.of_owns own) hslB (by rw [hPl, hpl]; omega)) ?_
      rintro ee w9 ⟨v9, rfl, own9, x9⟩
      have hszr := xr.size
      have own9 := ownsRow_base own9 (show N1 ≤ _ by rw [← hN1]; exact hszr)
      go_wp2_with fail
      go_roundg (o.pars.length - (i + 1))
      case measure => omega
      case rel =>
        refine ⟨i + 1, by omega, by omega, by go_num, ?_, xr.trans x9⟩
        rw [hP', HN.out]
        rw [hPl, hpl] at own9
        rw [show 34 + 32 * (i + 1) = 34 + 32 * i + 32 from by omega]
        exact own9
    · have hie : i = o.pars.length := by omega
      subst hie
      have hPl := encC_len (i := o.pars.length) ho (Nat.le_refl _)
      generalize encC o o.pars.length = P0 at *
      have c5 := xr.cell c5
      have hnum := ho.num
      have hmod : IntKind.u64.wrap (o.num : Int) = ((o.num : Nat) : Int) := by rw [IntKind.wrap_u64]; omega
      go_wp2_with fail
      refine Calls.mono (refHigh _ o.num 4 (by omega) (by omega)) ?_
      rintro ee w5 ⟨v5, rfl, own5, x5⟩
      go_wp2_with fail
      refine Calls.mono (refBoth _ _ v5 P0 (be o.num 4) (IsB.of_owns (ownsRow_ext own x5)) (IsB.of_owns own5) (by rw [be_length, hPl]; omega)) ?_
      rintro ee w8 ⟨s3, rfl, own8, x8⟩
      have hszr := (xr.trans x5).size
      have own8 := ownsRow_base own8 (show N1 ≤ _ by rw [← hN1]; exact hszr)
      have xa := xr.trans (x5.trans x8)
      have hPL : (P0 ++ be o.num 4).length = 38 + 32 * o.pars.length := by rw [List.length_append, be_length, hPl]; omega
      have hPm : P0.length + (be o.num 4).length = (P0 ++ be o.num 4).length := by rw [List.length_append]
      rw [hPm] at own8
      generalize P0 ++ be o.num 4 = P at *
      have c6 := xa.cell c6
      have bn := xa.keeps b0
      have hcn : ∀ W : World, W.heap[G]? = some (.cells QA 45 (0, 0)) → W.cell? ⟨G, 37, none⟩ = some (.string o.note) := fun W h => (obj_at h hQA ho).c6
      have hwm : IntKind.u8.wrap (o.note.size : Int) = (o.note.size : Int) := by rw [IntKind.wrap_u8]; omega
      have hM : P.map bc ++ [.int .u8 (o.note.size : Int)] = (P ++ [UInt8.ofNat o.note.size]).map bc := by rw [List.map_append, List.map_singleton, bc_ofNat, Int.emod_eq_of_lt (by omega) (by omega)]
      go_wp2_with fail
      refine wp_region_S (fun v => Ext w1 v ∧ v.heap[G]? = some (.cells QA 45 (0, 0))) (by kernel_rfl) (fun w' h => ⟨xa.trans h, h.keeps bn⟩) fun wd hqd xd hHeld => ?_
      refine wpAnyH_take (i := 0) (v := ?vc0) rfl (by kernel_rfl) (by kernel_rfl) (by kernel_rfl) (fun _ _ _ h => h) (Or.inl ⟨by rfl, ?hyc0⟩) hHeld ?_
      case hyc0 => (intro w hSw; go_simp; try with_reducible rfl)
      simp only [Act.put, List.setIfInBounds_toArray, List.set_cons_zero, List.set_cons_succ, List.getElem_toArray, List.getElem_cons_zero, List.getElem_cons_succ]
      refine wpAnyH_take (i := 1) (v := ?vc1) rfl (by kernel_rfl) (by kernel_rfl) (by kernel_rfl) (fun _ _ _ h => h) (Or.inl ⟨by rfl, ?hyc1⟩) hHeld ?_
      case hyc1 => (intro w hSw; go_simp; try with_reducible rfl)
      simp only [Act.put, List.setIfInBounds_toArray, List.set_cons_zero, List.set_cons_succ, List.getElem_toArray, List.getElem_cons_zero, List.getElem_cons_succ]
      refine wpAnyH_take (i := 2) (v := ?vc2) rfl (by kernel_rfl) (by kernel_rfl) (by kernel_rfl) (fun _ _ _ h => h) (Or.inl ⟨by rfl, ?hyc2⟩) hHeld ?_
      case hyc2 => (intro w hSw; have k := hcn _ hSw.2; go_simp; try with_reducible rfl)
      simp only [Act.put, List.setIfInBounds_toArray, List.set_cons_zero, List.set_cons_succ, List.getElem_toArray, List.getElem_cons_zero, List.getElem_cons_succ]
      refine wpAnyH_take (i := 3) (v := ?vc3) rfl (by kernel_rfl) (by kernel_rfl) (by kernel_rfl) (fun _ _ _ h => h) (Or.inl ⟨by rfl, ?hyc3⟩) hHeld ?_
      case hyc3 => (intro w hSw; go_simp; try with_reducible rfl)
      simp only [Act.put, List.setIfInBounds_toArray, List.set_cons_zero, List.set_cons_succ, List.getElem_toArray, List.getElem_cons_zero, List.getElem_cons_succ]
      refine wpAnyH_take (i := 4) (v := ?vc4) rfl (by kernel_rfl) (by kernel_rfl) (by kernel_rfl) (fun _ _ _ h => h) (Or.inl ⟨by rfl, ?hyc4⟩) hHeld ?_
      case hyc4 => (intro w hSw; go_simp; try with_reducible rfl)
      simp only [Act.put, List.setIfInBounds_toArray, List.set_cons_zero, List.set_cons_succ, List.getElem_toArray, List.getElem_cons_zero, List.getElem_cons_succ]
      refine wpAnyH_take (i := 7) (v := ?vc7) rfl (by kernel_rfl) (by kernel_rfl) (by kernel_rfl) (fun _ _ _ h => h) (Or.inl ⟨by rfl, ?hyc7⟩) hHeld ?_
      case hyc7 => (intro w hSw; go_simp; try with_reducible rfl)
      simp only [Act.put, List.setIfInBounds_toArray, List.set_cons_zero, List.set_cons_succ, List.getElem_toArray, List.getElem_cons_zero, List.getElem_cons_succ]
      refine wpAnyH_take (i := 8) (v := ?vc8) rfl (by kernel_rfl) (by kernel_rfl) (by kernel_rfl) (fun _ _ _ h => h) (Or.inl ⟨by rfl, ?hyc8⟩) hHeld ?_
      case hyc8 => (intro w hSw; have k := hcn _ hSw.2; go_simp; try with_reducible rfl)
      simp only [Act.put, List.setIfInBounds_toArray, List.set_cons_zero, List.set_cons_succ, List.getElem_toArray, List.getElem_cons_zero, List.getElem_cons_succ]
      have own0 := ownsRow_ext own8 xd
      have hnl : o.note.data.toList.length = o.note.size := by rw [Array.length_toList]; rfl
      refine wpAnyH_all (rs := [5, 9]) (by kernel_rfl) (by simp) ?_
      intro i hi; have hi' : i = 5 ∨ i = 9 := by simpa using hi
      clear hi; rcases hi' with rfl | rfl
      · refine wpOp_run rfl (by rfl) ?_
        go_simp
        have own0 := own0.alloc (.cells #[.int .u8 (o.note.size : Int)] 5)
        have bS := heap_alloc_new wd (.cells #[.int .u8 (o.note.size : Int)] 5)
        have hHeld := And.intro (hHeld.1.alloc (.cells #[.int .u8 (o.note.size : Int)] 5)) (blk_old (o := (.cells #[.int .u8 (o.note.size : Int)] 5)) hHeld.2)
        refine ⟨hHeld, ?_⟩
        try simp only [Act.put, List.setIfInBounds_toArray, List.set_cons_zero, List.set_cons_succ, List.getElem_toArray, List.getElem_cons_zero, List.getElem_cons_succ]
        refine wpAnyH_all (rs := [6, 9]) (by kernel_rfl) (by simp) ?_
        intro i hi; have hi' : i = 6 ∨ i = 9 := by simpa using hi
        clear hi; rcases hi' with rfl | rfl
        · refine wpOp_run rfl (by rfl) ?_
          refine wp_appO tyB (.tmp 101) (.tmp 106) rfl N1 _ P.length _ own0 (by rfl) (.slice (some ⟨wd.heap.size, 0, none⟩) 1 1) 1 [.int .u8 (o.note.size : Int)] (blk_one bS) (by rfl) (by intro c hc; rw [List.mem_singleton.1 hc]; rfl) (by omega) (by omega) (by rw [← hN1]; exact hHeld.1.size) ?_
          intro v6 w6 own6 gr6
          have hHeld := And.intro (own_base own0 gr6 hHeld.1 (by omega)) (KeepU.own own0 gr6 _ _ _ _ hHeld.2 (by decide))
          rw [hM] at own6
          refine ⟨hHeld, ?_⟩
          try simp only [Act.put, List.setIfInBounds_toArray, List.set_cons_zero, List.set_cons_succ, List.getElem_toArray, List.getElem_cons_zero, List.getElem_cons_succ]
          refine wpAnyH_all (rs := [9]) (by kernel_rfl) (by simp) ?_
          intro i hi; obtain rfl : i = 9 := by simpa using hi
          refine wpOp_run rfl (by rfl) ?_
          refine wp_strBytes 9 40 5 (.tmp 109) rfl o.note (by rfl) Tryz.underlying9 Tryz.underlying40 Tryz.underlying5 (by omega) ?_
          intro cap5 w5 hv5 x5
          have own6b := own6
          have own6 := ownsRow_ext own6 x5
          have hHeld := And.intro (hHeld.1.trans x5) (x5.keeps hHeld.2)
          refine ⟨hHeld, ?_⟩
          try simp only [Act.put, List.setIfInBounds_toArray, List.set_cons_zero, List.set_cons_succ, List.getElem_toArray, List.getElem_cons_zero, List.getElem_cons_succ]
          refine wpAnyH_all (rs := [10]) (by kernel_rfl) (by simp) ?_
          intro i hi; obtain rfl : i = 10 := by simpa using hi
          refine wpOp_run rfl (by rfl) ?_
          go_simp
          have hsz6 := hHeld.1.size
          refine Calls.mono (refBoth _ v6 _ (P ++ [UInt8.ofNat o.note.size]) o.note.data.toList (IsB.of_owns own6) hv5 (by rw [List.length_append, List.length_singleton, hnl]; omega)) ?_
          rintro ee w7 ⟨v7, rfl, own7, x7⟩
          have own7 := ownsRow_base own7 (show N1 ≤ _ by rw [← hN1]; exact hsz6)
          have hHeld := And.intro (hHeld.1.trans x7) (x7.keeps hHeld.2)
          refine ⟨hHeld, ?_⟩
          try simp only [Act.put, List.setIfInBounds_toArray, List.set_cons_zero, List.set_cons_succ, List.getElem_toArray, List.getElem_cons_zero, List.getElem_cons_succ]
          refine wpAnyH_take (i := 11) (v := ?vce111) rfl (by kernel_rfl) (by kernel_rfl) (by kernel_rfl) (fun _ _ _ h => h) (Or.inl ⟨by rfl, ?hyce111⟩) hHeld ?_
          case hyce111 => (intro w hSw; go_simp; try with_reducible rfl)
          simp only [Act.put, List.setIfInBounds_toArray, List.set_cons_zero, List.set_cons_succ, List.getElem_toArray, List.getElem_cons_zero, List.getElem_cons_succ]
          refine wpAnyH_done (by kernel_rfl) ?_ _
          refine NoPanic.normal ?_
          have hM2 : ((P ++ [UInt8.ofNat o.note.size]) ++ o.note.data.toList) = P ++ txtB o.note := by unfold txtB; simp
          rw [hM2] at own7
          go_wp2
          go_ret
          exact ⟨v7, rfl, by rw [HE.out]; exact IsB.of_owns own7, X0.trans hHeld.1⟩
        · refine wpOp_run rfl (by rfl) ?_
          refine wp_strBytes 9 40 5 (.tmp 109) rfl o.note (by rfl) Tryz.underlying9 Tryz.underlying40 Tryz.underlying5 (by omega) ?_
          intro cap5 w5 hv5 x5
          obtain ⟨H5, hH5⟩ : ∃ H5, (wd.alloc (.cells #[.int .u8 (o.note.size : Int)] 5)).heap.size = H5 := ⟨_, rfl⟩
          skip
          rw [hH5] at hv5 ⊢
          have own0b := own0
          have own0 := ownsRow_ext own0 x5
          have hHeld := And.intro (hHeld.1.trans x5) (x5.keeps hHeld.2)
          have bS := x5.keeps bS
          refine ⟨hHeld, ?_⟩
          try simp only [Act.put, List.setIfInBounds_toArray, List.set_cons_zero, List.set_cons_succ, List.getElem_toArray, List.getElem_cons_zero, List.getElem_cons_succ]
          refine wpAnyH_all (rs := [6]) (by kernel_rfl) (by simp) ?_
          intro i hi; obtain rfl : i = 6 := by simpa using hi
          refine wpOp_run rfl (by rfl) ?_
          refine wp_appO tyB (.tmp 101) (.tmp 106) rfl N1 _ P.length _ own0 (by rfl) (.slice (some ⟨wd.heap.size, 0, none⟩) 1 1) 1 [.int .u8 (o.note.size : Int)] (blk_one bS) (by rfl) (by intro c hc; rw [List.mem_singleton.1 hc]; rfl) (by omega) (by omega) (by rw [← hN1]; exact hHeld.1.size) ?_
          intro v6 w6 own6 gr6
          have hv5 := hv5.apart gr6 (own_not own0b hH5)
          have hHeld := And.intro (own_base own0 gr6 hHeld.1 (by omega)) (KeepU.own own0 gr6 _ _ _ _ hHeld.2 (by decide))
          rw [hM] at own6
          refine ⟨hHeld, ?_⟩
          try simp only [Act.put, List.setIfInBounds_toArray, List.set_cons_zero, List.set_cons_succ, List.getElem_toArray, List.getElem_cons_zero, List.getElem_cons_succ]
          refine wpAnyH_all (rs := [10]) (by kernel_rfl) (by simp) ?_
          intro i hi; obtain rfl : i = 10 := by simpa using hi
          refine wpOp_run rfl (by rfl) ?_
          go_simp
          have hsz6 := hHeld.1.size
          refine Calls.mono (refBoth _ v6 _ (P ++ [UInt8.ofNat o.note.size]) o.note.data.toList (IsB.of_owns own6) hv5 (by rw [List.length_append, List.length_singleton, hnl]; omega)) ?_
          rintro ee w7 ⟨v7, rfl, own7, x7⟩
          have own7 := ownsRow_base own7 (show N1 ≤ _ by rw [← hN1]; exact hsz6)
          have hHeld := And.intro (hHeld.1.trans x7) (x7.keeps hHeld.2)
          refine ⟨hHeld, ?_⟩
          try simp only [Act.put, List.setIfInBounds_toArray, List.set_cons_zero, List.set_cons_succ, List.getElem_toArray, List.getElem_cons_zero, List.getElem_cons_succ]
          refine wpAnyH_take (i := 11) (v := ?vce211) rfl (by kernel_rfl) (by kernel_rfl) (by kernel_rfl) (fun _ _ _ h => h) (Or.inl ⟨by rfl, ?hyce211⟩) hHeld ?_
          case hyce211 => (intro w hSw; go_simp; try with_reducible rfl)
          simp only [Act.put, List.setIfInBounds_toArray, List.set_cons_zero, List.set_cons_succ, List.getElem_toArray, List.getElem_cons_zero, List.getElem_cons_succ]
          refine wpAnyH_done (by kernel_rfl) ?_ _
          refine NoPanic.normal ?_
          have hM2 : ((P ++ [UInt8.ofNat o.note.size]) ++ o.note.data.toList) = P ++ txtB o.note := by unfold txtB; simp
          rw [hM2] at own7
          go_wp2
          go_ret
          exact ⟨v7, rfl, by rw [HE.out]; exact IsB.of_owns own7, X0.trans hHeld.1⟩
      · refine wpOp_run rfl (by rfl) ?_
        refine wp_strBytes 9 40 5 (.tmp 109) rfl o.note (by rfl) Tryz.underlying9 Tryz.underlying40 Tryz.underlying5 (by omega) ?_
        intro cap5 w5 hv5 x5
        obtain ⟨H5, hH5⟩ : ∃ H5, wd.heap.size = H5 := ⟨_, rfl⟩
        skip
        rw [hH5] at hv5 ⊢
        have own0b := own0
        have own0 := ownsRow_ext own0 x5
        have hHeld := And.intro (hHeld.1.trans x5) (x5.keeps hHeld.2)
        refine ⟨hHeld, ?_⟩
        try simp only [Act.put, List.setIfInBounds_toArray, List.set_cons_zero, List.set_cons_succ, List.getElem_toArray, List.getElem_cons_zero, List.getElem_cons_succ]
        refine wpAnyH_all (rs := [5]) (by kernel_rfl) (by simp) ?_
        intro i hi; obtain rfl : i = 5 := by simpa using hi
        refine wpOp_run rfl (by rfl) ?_
        go_simp
        have own0 := own0.alloc (.cells #[.int .u8 (o.note.size : Int)] 5)
        have bS := heap_alloc_new w5 (.cells #[.int .u8 (o.note.size : Int)] 5)
        have hv5 := hv5.ext ((Ext.refl w5).alloc (.cells #[.int .u8 (o.note.size : Int)] 5))
        have hHeld := And.intro (hHeld.1.alloc (.cells #[.int .u8 (o.note.size : Int)] 5)) (blk_old (o := (.cells #[.int .u8 (o.note.size : Int)] 5)) hHeld.2)
        refine ⟨hHeld, ?_⟩
        try simp only [Act.put, List.setIfInBounds_toArray, List.set_cons_zero, List.set_cons_succ, List.getElem_toArray, List.getElem_cons_zero, List.getElem_cons_succ]
        refine wpAnyH_all (rs := [6]) (by kernel_rfl) (by simp) ?_
        intro i hi; obtain rfl : i = 6 := by simpa using hi
        refine wpOp_run rfl (by rfl) ?_
        refine wp_appO tyB (.tmp 101) (.tmp 106) rfl N1 _ P.length _ own0 (by rfl) (.slice (some ⟨w5.heap.size, 0, none⟩) 1 1) 1 [.int .u8 (o.note.size : Int)] (blk_one bS) (by rfl) (by intro c hc; rw [List.mem_singleton.1 hc]; rfl) (by omega) (by omega) (by rw [← hN1]; exact hHeld.1.size) ?_
        intro v6 w6 own6 gr6
        have hv5 := hv5.apart gr6 (own_not own0b hH5)
        have hHeld := And.intro (own_base own0 gr6 hHeld.1 (by omega)) (KeepU.own own0 gr6 _ _ _ _ hHeld.2 (by decide))
        rw [hM] at own6
        refine ⟨hHeld, ?_⟩
        try simp only [Act.put, List.setIfInBounds_toArray, List.set_cons_zero, List.set_cons_succ, List.getElem_toArray, List.getElem_cons_zero, List.getElem_cons_succ]
        refine wpAnyH_all (rs := [10]) (by kernel_rfl) (by simp) ?_
        intro i hi; obtain rfl : i = 10 := by simpa using hi
        refine wpOp_run rfl (by rfl) ?_
        go_simp
        have hsz6 := hHeld.1.size
        refine Calls.mono (refBoth _ v6 _ (P ++ [UInt8.ofNat o.note.size]) o.note.data.toList (IsB.of_owns own6) hv5 (by rw [List.length_append, List.length_singleton, hnl]; omega)) ?_
        rintro ee w7 ⟨v7, rfl, own7, x7⟩
        have own7 := ownsRow_base own7 (show N1 ≤ _ by rw [← hN1]; exact hsz6)
        have hHeld := And.intro (hHeld.1.trans x7) (x7.keeps hHeld.2)
        refine ⟨hHeld, ?_⟩
        try simp only [Act.put, List.setIfInBounds_toArray, List.set_cons_zero, List.set_cons_succ, List.getElem_toArray, List.getElem_cons_zero, List.getElem_cons_succ]
        refine wpAnyH_take (i := 11) (v := ?vce311) rfl (by kernel_rfl) (by kernel_rfl) (by kernel_rfl) (fun _ _ _ h => h) (Or.inl ⟨by rfl, ?hyce311⟩) hHeld ?_
        case hyce311 => (intro w hSw; go_simp; try with_reducible rfl)
        simp only [Act.put, List.setIfInBounds_toArray, List.set_cons_zero, List.set_cons_succ, List.getElem_toArray, List.getElem_cons_zero, List.getElem_cons_succ]
        refine wpAnyH_done (by kernel_rfl) ?_ _
        refine NoPanic.normal ?_
        have hM2 : ((P ++ [UInt8.ofNat o.note.size]) ++ o.note.data.toList) = P ++ txtB o.note := by unfold txtB; simp
        rw [hM2] at own7
        go_wp2
        go_ret
        exact ⟨v7, rfl, by rw [HE.out]; exact IsB.of_owns own7, X0.trans hHeld.1⟩

/-- The reference's Bytes, whatever object that may be. -/
theorem refBytes (w : World) (QA : Array Value) (vb ve vp : Value) (o : ObjL) (h : IsObj w QA vb ve vp o) (hc : checkB o = true) :
    Calls Tryz.prog 76 #[.agg QA] w fun e w' => ∃ v, e = .returned v ∧ IsB w' v (encB o) ∧ Ext w w' := by
  rcases (chk_parts hc).1 with k | k | k
  · exact refBytes1 w QA vb ve vp o h hc k
  · exact refBytes2 w QA vb ve vp o h hc k
  · exact refBytes3 w QA vb ve vp o h hc k
end Go.Proofs.YtpadfabjihaapaaGreatDoor
