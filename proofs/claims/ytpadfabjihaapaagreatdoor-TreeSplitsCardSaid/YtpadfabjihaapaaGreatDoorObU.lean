/- The walk of object.Encode at a commit. -/
import Derived.Test.YtpadfabjihaapaaGreatDoorObT
import Derived.Test.YtpadfabjihaapaaGreatDoorObD
namespace Go.Proofs.YtpadfabjihaapaaGreatDoor
open Go.RowKit
set_option linter.unusedVariables false
set_option linter.unusedSimpArgs false

theorem blk_one {w : World} {g : Nat} {u : Value} {t : TypeId} {f : Nat × Nat} (h : w.heap[g]? = some (.cells #[u] t f)) : IsSl w (.slice (some ⟨g, 0, none⟩) 1 1) 1 1 [u] := by
  refine ⟨by simp, _, _, rfl, Nat.le_refl _, by omega, (fun h => by cases h), fun i hi => ⟨_, _, rfl, ?_⟩⟩
  rw [block_cell h]
  simp
/-- The bytes of a commit as far as i parents. -/
def encC (o : ObjL) (i : Nat) : List UInt8 := 3 :: (o.tree ++ (UInt8.ofNat o.pars.length :: (o.pars.take i).flatten))
theorem encC_next {o : ObjL} {i : Nat} (h : i < o.pars.length) : encC o (i + 1) = encC o i ++ o.pars[i] := by
  unfold encC
  rw [List.take_succ_eq_append_getElem h, List.flatten_append]
  simp only [List.flatten_cons, List.flatten_nil, List.append_nil, List.cons_append, List.append_assoc]
theorem encC_len {o : ObjL} {i : Nat} (h : ObjOk o) (hi : i ≤ o.pars.length) : (encC o i).length = 34 + 32 * i := by
  unfold encC
  have := flat_len32 (o.pars.take i) (fun p hp => h.pars p (List.mem_of_mem_take hp))
  rw [List.length_cons, List.length_append, List.length_cons, this, h.tree, List.length_take]
  omega

set_option maxHeartbeats 8000000 in
set_option maxRecDepth 100000 in
theorem objEncode3 (w : World) (QA : Array Value) (vb ve vp : Value) (o : ObjL) (h : IsObj w QA vb ve vp o) (hc : checkB o = true) (hk : o.kind = 3) :
    Calls Tryz.prog 109 #[.agg QA] w (EncEnd o w) := by
  have b0 := heap_alloc_new w (.cells QA 45)
  have X0 : Ext w (w.alloc (.cells QA 45)) := (Ext.refl w).alloc _
  have hinfo := h.info
  obtain ⟨_, hp1, hp2, hp3, hp4, hp5⟩ := chk_parts hc
  obtain ⟨ap, cp, rfl⟩ := sl_len h.vp
  go_enter Tryz.func109, Tryz.ntmps109
  go_wp2_with ((with_reducible refine at_load 45 (.tmp 1) ?_); refine wpl_load (by rfl) 45 (.tmp 1) rfl w.heap.size (by rfl) 45 QA (0, 0) _ b0 Tryz.underlying45 rfl hinfo ?_)
  refine Calls.mono (objCheck _ QA vb ve _ o (h.ext X0)) ?_
  rintro e w1 ⟨rfl, x1⟩
  have X1 := X0.trans x1
  have hA := obj_at (x1.keeps b0) h.eq h.ok
  have b1 := x1.keeps b0
  have ho := h.ok
  obtain ⟨c0, c1, c2, c3, c4, c5, c6⟩ := hA
  have hvp := Lib.hid (h.ext X1).vp
  have hce : o.pars.length ≤ cp := by obtain ⟨_, _, _, e, h, _⟩ := hvp.out; simp only [Value.slice.injEq] at e; omega
  have he : encO o = encC o o.pars.length ++ (be o.num 4 ++ txtB o.note) := by unfold encO encB encC; rw [hc, if_pos rfl, if_neg (by omega), if_neg (by omega), List.take_length]; simp
  have hwm : IntKind.u8.wrap (o.pars.length : Int) = (o.pars.length : Int) := by rw [IntKind.wrap_u8]; omega
  have hTr : IsSl w1 (.slice (some ⟨w.heap.size, 3, none⟩) 32 32) 1 32 (o.tree.map bc) := part_sl (pre := [.int .i64 o.kind, vb, ve]) (post := [.slice ap o.pars.length cp, .int .u32 (o.num : Int), .string o.note]) (t := 45) (f := (0, 0)) (by rw [b1, ← h.eq]; rfl) rfl ho.tree (by omega)
  rw [hk] at c0
  have HE := Lib.hid he
  have HC := Lib.hid hc
  rw [hc]
  unfold chkE
  rw [if_pos rfl]
  clear hc hk h hp5 he c1 c2 c3 b1 hp1 hp2
  have hGw : w.heap.size < w1.heap.size := block_lt (x1.keeps b0)
  generalize hG : w.heap.size = G at *
  have xw : Ext w1 (w1.alloc (.cells #[.int .u8 3] 5)) := (Ext.refl w1).alloc _
  have own0 : (w1.alloc (.cells #[.int .u8 3] 5)).ownsRow w1.heap.size 5 1 (.slice (some ⟨w1.heap.size, 0, none⟩) 1 1) 1 [.int .u8 3] := own_new w1 [.int .u8 3] 1 1 _ rfl (by decide)
  go_wp2_with fail
  refine wp_region_S (fun v => Ext w1 v) (by kernel_rfl) (fun w' h => xw.trans h) fun wd hqd xd hHeld => ?_
  refine wpAnyH_take (i := 0) (v := ?va0) rfl (by kernel_rfl) (by kernel_rfl) (by kernel_rfl) (fun _ _ _ h => h) (Or.inl ⟨by rfl, ?hya0⟩) hHeld ?_
  case hya0 => (intro w hSw; go_simp; try with_reducible rfl)
  simp only [Act.put, List.setIfInBounds_toArray, List.set_cons_zero, List.set_cons_succ, List.getElem_toArray, List.getElem_cons_zero, List.getElem_cons_succ]
  refine wpAnyH_take (i := 1) (v := ?va1) rfl (by kernel_rfl) (by kernel_rfl) (by kernel_rfl) (fun _ _ _ h => h) (Or.inl ⟨by rfl, ?hya1⟩) hHeld ?_
  case hya1 => (intro w hSw; go_simp; try with_reducible rfl)
  simp only [Act.put, List.setIfInBounds_toArray, List.set_cons_zero, List.set_cons_succ, List.getElem_toArray, List.getElem_cons_zero, List.getElem_cons_succ]
  refine wpAnyH_take (i := 2) (v := ?va2) rfl (by kernel_rfl) (by kernel_rfl) (by kernel_rfl) (fun _ _ _ h => h) (Or.inl ⟨by rfl, ?hya2⟩) hHeld ?_
  case hya2 => (intro w hSw; go_simp; try with_reducible rfl)
  simp only [Act.put, List.setIfInBounds_toArray, List.set_cons_zero, List.set_cons_succ, List.getElem_toArray, List.getElem_cons_zero, List.getElem_cons_succ]
  refine wpAnyH_take (i := 4) (v := ?va4) rfl (by kernel_rfl) (by kernel_rfl) (by kernel_rfl) (fun _ _ _ h => h) (Or.inl ⟨by rfl, ?hya4⟩) hHeld ?_
  case hya4 => (intro w hSw; go_simp; try with_reducible rfl)
  simp only [Act.put, List.setIfInBounds_toArray, List.set_cons_zero, List.set_cons_succ, List.getElem_toArray, List.getElem_cons_zero, List.getElem_cons_succ]
  refine wpAnyH_take (i := 5) (v := ?va5) rfl (by kernel_rfl) (by kernel_rfl) (by kernel_rfl) (fun _ _ _ h => h) (Or.inl ⟨by rfl, ?hya5⟩) hHeld ?_
  case hya5 => (intro w hSw; have k := (hSw.cell c4); go_simp; try with_reducible rfl)
  simp only [Act.put, List.setIfInBounds_toArray, List.set_cons_zero, List.set_cons_succ, List.getElem_toArray, List.getElem_cons_zero, List.getElem_cons_succ]
  refine wpAnyH_take (i := 6) (v := ?va6) rfl (by kernel_rfl) (by kernel_rfl) (by kernel_rfl) (fun _ _ _ h => h) (Or.inl ⟨by rfl, ?hya6⟩) hHeld ?_
  case hya6 => (intro w hSw; go_simp; try with_reducible rfl)
  simp only [Act.put, List.setIfInBounds_toArray, List.set_cons_zero, List.set_cons_succ, List.getElem_toArray, List.getElem_cons_zero, List.getElem_cons_succ]
  refine wpAnyH_take (i := 7) (v := ?va7) rfl (by kernel_rfl) (by kernel_rfl) (by kernel_rfl) (fun _ _ _ h => h) (Or.inl ⟨by rfl, ?hya7⟩) hHeld ?_
  case hya7 => (intro w hSw; go_simp; try with_reducible rfl)
  simp only [Act.put, List.setIfInBounds_toArray, List.set_cons_zero, List.set_cons_succ, List.getElem_toArray, List.getElem_cons_zero, List.getElem_cons_succ]
  have own0 := ownsRow_ext own0 xd
  have hTr := hTr.ext (xw.trans xd)
  clear hwm
  refine wpAnyH_all (rs := [3, 8]) (by kernel_rfl) (by simp) ?_
  intro i hi; have hi' : i = 3 ∨ i = 8 := by simpa using hi
  clear hi; rcases hi' with rfl | rfl
  · refine wpOp_run rfl (by rfl) ?_
    refine wp_appO tyB (.tmp 67) (.tmp 69) rfl w1.heap.size (.slice (some ⟨w1.heap.size, 0, none⟩) 1 1) 1 _ own0 (by rfl) (.slice (some ⟨G, 3, none⟩) 32 32) 32 (o.tree.map bc) hTr (by rfl) (bc_one _) (by omega) (by omega) hHeld.size ?_
    intro v3 w3 own3 grw3
    have hHeld := own_base own0 grw3 hHeld (Nat.le_refl _)
    refine ⟨hHeld, ?_⟩
    try simp only [Act.put, List.setIfInBounds_toArray, List.set_cons_zero, List.set_cons_succ, List.getElem_toArray, List.getElem_cons_zero, List.getElem_cons_succ]
    refine wpAnyH_all (rs := [8]) (by kernel_rfl) (by simp) ?_
    intro i hi; obtain rfl : i = 8 := by simpa using hi
    refine wpOp_run rfl (by rfl) ?_
    go_simp
    have hHeld := hHeld.alloc (.cells #[.int .u8 (o.pars.length : Int)] 5)
    refine ⟨hHeld, ?_⟩
    try simp only [Act.put, List.setIfInBounds_toArray, List.set_cons_zero, List.set_cons_succ, List.getElem_toArray, List.getElem_cons_zero, List.getElem_cons_succ]
    refine wpAnyH_all (rs := [9]) (by kernel_rfl) (by simp) ?_
    intro i hi; obtain rfl : i = 9 := by simpa using hi
    refine wpOp_run rfl (by rfl) ?_
    have own3 := own3.alloc (.cells #[.int .u8 (o.pars.length : Int)] 5)
    refine wp_appO tyB (.tmp 70) (.tmp 75) rfl w1.heap.size v3 33 _ own3 (by rfl) (.slice (some ⟨w3.heap.size, 0, none⟩) 1 1) 1 [.int .u8 (o.pars.length : Int)] (sl_one_new (w := w3) (n := 1) rfl rfl) (by rfl) (by intro c hc; rw [List.mem_singleton.1 hc]; rfl) (by omega) (by omega) hHeld.size ?_
    intro v4 w4 own4 grw4
    have hHeld := own_base own3 grw4 hHeld (Nat.le_refl _)
    refine ⟨hHeld, ?_⟩
    try simp only [Act.put, List.setIfInBounds_toArray, List.set_cons_zero, List.set_cons_succ, List.getElem_toArray, List.getElem_cons_zero, List.getElem_cons_succ]
    refine wpAnyH_take (i := 10) (v := ?vK10) rfl (by kernel_rfl) (by kernel_rfl) (by kernel_rfl) (fun _ _ _ h => h) (Or.inl ⟨by rfl, ?hyK10⟩) hHeld ?_
    case hyK10 => (intro w hSw; go_simp; try with_reducible rfl)
    simp only [Act.put, List.setIfInBounds_toArray, List.set_cons_zero, List.set_cons_succ, List.getElem_toArray, List.getElem_cons_zero, List.getElem_cons_succ]
    refine wpAnyH_done (by kernel_rfl) ?_ _
    refine NoPanic.normal ?_
    have c4 := hHeld.cell c4
    have own4' : w4.ownsRow w1.heap.size 5 1 v4 (34 + 32 * 0) ((encC o 0).map bc) := by
      have e : (encC o 0).map bc = ([.int .u8 3] ++ o.tree.map bc) ++ [.int .u8 (o.pars.length : Int)] := by
        unfold encC
        rw [List.take_zero, List.flatten_nil, List.map_cons, List.map_append, List.map_cons, bc_ofNat, Int.emod_eq_of_lt (by omega) (by omega)]
        rfl
      rw [e]
      exact own4
    have xw4 := hHeld
    go_wp2_with fail
    go_loopg [5, 80] o.pars.length (fun g s5 s80 wr => ∃ i : Nat, i ≤ o.pars.length ∧ o.pars.length - i ≤ g ∧ s80 = .int .i64 i ∧ wr.ownsRow w1.heap.size 5 1 s5 (34 + 32 * i) ((encC o i).map bc) ∧ Ext w1 wr)
    case atStart => exact ⟨0, Nat.zero_le _, by omega, rfl, own4', xw4⟩
    case round =>
      clear own4' own4 grw4 own3 grw3 hHeld xw4 c4 own0 xw hTr
      obtain ⟨i, hi, hg, rfl, own, xr⟩ := hrel
      by_cases hlt : i < o.pars.length
      · obtain ⟨p, off, rfl, hra⟩ := ids_at hvp.out ho.pars i hlt
        have hpl := ho.pars _ (List.getElem_mem hlt)
        have hnx := encC_next hlt
        have hra := rangeAt_ext hra xr
        generalize o.pars[i] = Q at *
        generalize hP : encC o i = P at *
        generalize hP' : encC o (i + 1) = P' at *
        have HN := Lib.hid hnx
        have HP' := Lib.hid hP'
        clear hnx hP hP'
        have hinf := idC_info hpl
        have hql : (idC Q).length = 32 := by simp [idC, hpl]
        have i0 : (0 : Int) ≤ (i : Int) := Int.natCast_nonneg _
        have i1 : (i : Int) < (o.pars.length : Int) := by omega
        have owna := own.alloc (.cells (idC Q).toArray 31)
        have xa : Ext w1 (wr.alloc (.cells (idC Q).toArray 31)) := xr.alloc _
        have hsl := part_sl (w := wr.alloc (.cells (idC Q).toArray 31)) (pre := []) (post := []) (l := Q) (by rw [List.append_nil, List.nil_append]; exact heap_alloc_new wr _) rfl hpl (by omega)
        go_wp2_with (first
          | ((with_reducible refine at_load 31 (.tmp 82) ?_); refine wpl_mid (by rfl) 31 (.tmp 82) rfl p (off + i * 32) (by rfl) (idC Q) _ hra Tryz.underlying31 rfl hinf ?_)
          | ((with_reducible refine at_store 31 (.tmp 9) (.tmp 83) ?_); refine wpl_store (by rfl) 31 (.tmp 9) (.tmp 83) rfl wr.heap.size (idC Q).toArray (by rfl) (by rfl) 31 _ (heap_alloc_new _ _) (by simpa using hinf) (by simp [hql]) (id_one Q) ?_; rw [World.setRow_alloc_new])
          | (at_builtin; refine wp_app tyB rfl _ _ rfl w1.heap.size _ (34 + 32 * i) _ owna (by rfl) _ 32 (Q.map bc) hsl (by rfl) (bc_one _) (by omega) (by omega) xa.size ?_; intro v6 w6 own6 gr6))
        go_roundg (o.pars.length - (i + 1))
        case measure => omega
        case rel =>
          refine ⟨i + 1, by omega, by omega, by go_num, ?_, own_base owna gr6 xa (Nat.le_refl _)⟩
          rw [HP'.out, HN.out, List.map_append]
          exact own6
      · have hie : i = o.pars.length := by omega
        subst hie
        have hPl : (encC o o.pars.length).length = 34 + 32 * o.pars.length := encC_len ho (Nat.le_refl _)
        generalize hP : encC o o.pars.length = P at *
        have HP := Lib.hid hP
        clear hP
        go_wp2_with fail
        refine wp_region_S (fun v => Ext w1 v) (by kernel_rfl) (fun w' h => xr.trans h) fun wd hqd xd hHeld => ?_
        refine wpAnyH_take (i := 0) (v := ?vc0) rfl (by kernel_rfl) (by kernel_rfl) (by kernel_rfl) (fun _ _ _ h => h) (Or.inl ⟨by rfl, ?hyc0⟩) hHeld ?_
        case hyc0 => (intro w hSw; go_simp; try with_reducible rfl)
        simp only [Act.put, List.setIfInBounds_toArray, List.set_cons_zero, List.set_cons_succ, List.getElem_toArray, List.getElem_cons_zero, List.getElem_cons_succ]
        refine wpAnyH_take (i := 1) (v := ?vc1) rfl (by kernel_rfl) (by kernel_rfl) (by kernel_rfl) (fun _ _ _ h => h) (Or.inl ⟨by rfl, ?hyc1⟩) hHeld ?_
        case hyc1 => (intro w hSw; go_simp; try with_reducible rfl)
        simp only [Act.put, List.setIfInBounds_toArray, List.set_cons_zero, List.set_cons_succ, List.getElem_toArray, List.getElem_cons_zero, List.getElem_cons_succ]
        refine wpAnyH_take (i := 2) (v := ?vc2) rfl (by kernel_rfl) (by kernel_rfl) (by kernel_rfl) (fun _ _ _ h => h) (Or.inl ⟨by rfl, ?hyc2⟩) hHeld ?_
        case hyc2 => (intro w hSw; have k := (hSw.cell c5); go_simp; try with_reducible rfl)
        simp only [Act.put, List.setIfInBounds_toArray, List.set_cons_zero, List.set_cons_succ, List.getElem_toArray, List.getElem_cons_zero, List.getElem_cons_succ]
        refine wpAnyH_take (i := 4) (v := ?vc4) rfl (by kernel_rfl) (by kernel_rfl) (by kernel_rfl) (fun _ _ _ h => h) (Or.inl ⟨by rfl, ?hyc4⟩) hHeld ?_
        case hyc4 => (intro w hSw; go_simp; try with_reducible rfl)
        simp only [Act.put, List.setIfInBounds_toArray, List.set_cons_zero, List.set_cons_succ, List.getElem_toArray, List.getElem_cons_zero, List.getElem_cons_succ]
        refine wpAnyH_take (i := 5) (v := ?vc5) rfl (by kernel_rfl) (by kernel_rfl) (by kernel_rfl) (fun _ _ _ h => h) (Or.inl ⟨by rfl, ?hyc5⟩) hHeld ?_
        case hyc5 => (intro w hSw; have k := (hSw.cell c6); go_simp; try with_reducible rfl)
        simp only [Act.put, List.setIfInBounds_toArray, List.set_cons_zero, List.set_cons_succ, List.getElem_toArray, List.getElem_cons_zero, List.getElem_cons_succ]
        refine wpAnyH_all (rs := [3]) (by kernel_rfl) (by simp) ?_
        intro i hi; obtain rfl : i = 3 := by simpa using hi
        refine wpOp_run rfl (by rfl) ?_
        go_simp
        refine Calls.mono (octetPut32 _ _ P o.num (IsB.of_owns (ownsRow_ext own xd)) ho.num (by omega)) ?_
        rintro ee w5 ⟨v5, rfl, own5, x5⟩
        have hHeld := (xr.trans (xd.trans x5))
        refine ⟨hHeld, ?_⟩
        try simp only [Act.put, List.setIfInBounds_toArray, List.set_cons_zero, List.set_cons_succ, List.getElem_toArray, List.getElem_cons_zero, List.getElem_cons_succ]
        refine wpAnyH_all (rs := [6]) (by kernel_rfl) (by simp) ?_
        intro i hi; obtain rfl : i = 6 := by simpa using hi
        refine wpOp_run rfl (by rfl) ?_
        go_simp
        refine Calls.mono (objText _ v5 w1.heap.size (P.length + 4) (P ++ be o.num 4) o.note (ownsRow_base own5 (by have := (xr.trans xd).size; exact this)) hHeld.size (by omega)) ?_
        rintro ee w6 ⟨v6, rfl, own6, bl6, ku6⟩
        have hHeld := (Below.trans (B := w1.heap.size) hHeld bl6)
        refine ⟨hHeld, ?_⟩
        try simp only [Act.put, List.setIfInBounds_toArray, List.set_cons_zero, List.set_cons_succ, List.getElem_toArray, List.getElem_cons_zero, List.getElem_cons_succ]
        refine wpAnyH_take (i := 7) (v := ?vc7) rfl (by kernel_rfl) (by kernel_rfl) (by kernel_rfl) (fun _ _ _ h => h) (Or.inl ⟨by rfl, ?hyc7⟩) hHeld ?_
        case hyc7 => (intro w hSw; go_simp; try with_reducible rfl)
        simp only [Act.put, List.setIfInBounds_toArray, List.set_cons_zero, List.set_cons_succ, List.getElem_toArray, List.getElem_cons_zero, List.getElem_cons_succ]
        refine wpAnyH_take (i := 8) (v := ?vc8) rfl (by kernel_rfl) (by kernel_rfl) (by kernel_rfl) (fun _ _ _ h => h) (Or.inl ⟨by rfl, ?hyc8⟩) hHeld ?_
        case hyc8 => (intro w hSw; go_simp; try with_reducible rfl)
        simp only [Act.put, List.setIfInBounds_toArray, List.set_cons_zero, List.set_cons_succ, List.getElem_toArray, List.getElem_cons_zero, List.getElem_cons_succ]
        refine wpAnyH_done (by kernel_rfl) ?_ _
        refine NoPanic.normal ?_
        go_wp2
        go_ret2
        refine ⟨v6, by rw [HC.out]; rfl, ?_, X1.trans hHeld⟩
        rw [HE.out]
        have hl : (P ++ (be o.num 4 ++ txtB o.note)).length = P.length + 4 + 1 + o.note.size := by rw [List.length_append, List.length_append, be_length, txt_len]; omega
        rw [hl, ← List.append_assoc]
        exact ownsRow_base own6 X1.size
  · refine wpOp_run rfl (by rfl) ?_
    go_simp
    have hlt1 := (own0.lt w1.heap.size rfl).2
    have own0 := own0.alloc (.cells #[.int .u8 (o.pars.length : Int)] 5)
    have hSz : IsSl (wd.alloc (.cells #[.int .u8 (o.pars.length : Int)] 5)) (.slice (some ⟨wd.heap.size, 0, none⟩) 1 1) 1 1 [.int .u8 (o.pars.length : Int)] := sl_one_new (w := wd) (n := 1) rfl rfl
    have hHeld := hHeld.alloc (.cells #[.int .u8 (o.pars.length : Int)] 5)
    have hTr := hTr.ext ((Ext.refl wd).alloc (.cells #[.int .u8 (o.pars.length : Int)] 5))
    have bS := heap_alloc_new wd (.cells #[.int .u8 (o.pars.length : Int)] 5)
    refine ⟨hHeld, ?_⟩
    try simp only [Act.put, List.setIfInBounds_toArray, List.set_cons_zero, List.set_cons_succ, List.getElem_toArray, List.getElem_cons_zero, List.getElem_cons_succ]
    refine wpAnyH_all (rs := [3]) (by kernel_rfl) (by simp) ?_
    intro i hi; obtain rfl : i = 3 := by simpa using hi
    refine wpOp_run rfl (by rfl) ?_
    refine wp_appO tyB (.tmp 67) (.tmp 69) rfl w1.heap.size (.slice (some ⟨w1.heap.size, 0, none⟩) 1 1) 1 _ own0 (by rfl) (.slice (some ⟨G, 3, none⟩) 32 32) 32 (o.tree.map bc) hTr (by rfl) (bc_one _) (by omega) (by omega) hHeld.size ?_
    intro v3 w3 own3 grw3
    have hHeld := own_base own0 grw3 hHeld (Nat.le_refl _)
    refine ⟨hHeld, ?_⟩
    try simp only [Act.put, List.setIfInBounds_toArray, List.set_cons_zero, List.set_cons_succ, List.getElem_toArray, List.getElem_cons_zero, List.getElem_cons_succ]
    have bS := grown_keep grw3 bS (by simp only [Value.ownBlock, ne_eq, Option.some.injEq]; omega)
    refine wpAnyH_all (rs := [9]) (by kernel_rfl) (by simp) ?_
    intro i hi; obtain rfl : i = 9 := by simpa using hi
    refine wpOp_run rfl (by rfl) ?_
    refine wp_appO tyB (.tmp 70) (.tmp 75) rfl w1.heap.size v3 33 _ own3 (by rfl) (.slice (some ⟨wd.heap.size, 0, none⟩) 1 1) 1 [.int .u8 (o.pars.length : Int)] (blk_one bS) (by rfl) (by intro c hc; rw [List.mem_singleton.1 hc]; rfl) (by omega) (by omega) hHeld.size ?_
    intro v4 w4 own4 grw4
    have hHeld := own_base own3 grw4 hHeld (Nat.le_refl _)
    refine ⟨hHeld, ?_⟩
    try simp only [Act.put, List.setIfInBounds_toArray, List.set_cons_zero, List.set_cons_succ, List.getElem_toArray, List.getElem_cons_zero, List.getElem_cons_succ]
    refine wpAnyH_take (i := 10) (v := ?vL10) rfl (by kernel_rfl) (by kernel_rfl) (by kernel_rfl) (fun _ _ _ h => h) (Or.inl ⟨by rfl, ?hyL10⟩) hHeld ?_
    case hyL10 => (intro w hSw; go_simp; try with_reducible rfl)
    simp only [Act.put, List.setIfInBounds_toArray, List.set_cons_zero, List.set_cons_succ, List.getElem_toArray, List.getElem_cons_zero, List.getElem_cons_succ]
    refine wpAnyH_done (by kernel_rfl) ?_ _
    refine NoPanic.normal ?_
    have c4 := hHeld.cell c4
    have own4' : w4.ownsRow w1.heap.size 5 1 v4 (34 + 32 * 0) ((encC o 0).map bc) := by
      have e : (encC o 0).map bc = ([.int .u8 3] ++ o.tree.map bc) ++ [.int .u8 (o.pars.length : Int)] := by
        unfold encC
        rw [List.take_zero, List.flatten_nil, List.map_cons, List.map_append, List.map_cons, bc_ofNat, Int.emod_eq_of_lt (by omega) (by omega)]
        rfl
      rw [e]
      exact own4
    have xw4 := hHeld
    go_wp2_with fail
    go_loopg [5, 80] o.pars.length (fun g s5 s80 wr => ∃ i : Nat, i ≤ o.pars.length ∧ o.pars.length - i ≤ g ∧ s80 = .int .i64 i ∧ wr.ownsRow w1.heap.size 5 1 s5 (34 + 32 * i) ((encC o i).map bc) ∧ Ext w1 wr)
    case atStart => exact ⟨0, Nat.zero_le _, by omega, rfl, own4', xw4⟩
    case round =>
      clear own4' own4 grw4 own3 grw3 hHeld xw4 c4 own0 xw hTr
      obtain ⟨i, hi, hg, rfl, own, xr⟩ := hrel
      by_cases hlt : i < o.pars.length
      · obtain ⟨p, off, rfl, hra⟩ := ids_at hvp.out ho.pars i hlt
        have hpl := ho.pars _ (List.getElem_mem hlt)
        have hnx := encC_next hlt
        have hra := rangeAt_ext hra xr
        generalize o.pars[i] = Q at *
        generalize hP : encC o i = P at *
        generalize hP' : encC o (i + 1) = P' at *
        have HN := Lib.hid hnx
        have HP' := Lib.hid hP'
        clear hnx hP hP'
        have hinf := idC_info hpl
        have hql : (idC Q).length = 32 := by simp [idC, hpl]
        have i0 : (0 : Int) ≤ (i : Int) := Int.natCast_nonneg _
        have i1 : (i : Int) < (o.pars.length : Int) := by omega
        have owna := own.alloc (.cells (idC Q).toArray 31)
        have xa : Ext w1 (wr.alloc (.cells (idC Q).toArray 31)) := xr.alloc _
        have hsl := part_sl (w := wr.alloc (.cells (idC Q).toArray 31)) (pre := []) (post := []) (l := Q) (by rw [List.append_nil, List.nil_append]; exact heap_alloc_new wr _) rfl hpl (by omega)
        go_wp2_with (first
          | ((with_reducible refine at_load 31 (.tmp 82) ?_); refine wpl_mid (by rfl) 31 (.tmp 82) rfl p (off + i * 32) (by rfl) (idC Q) _ hra Tryz.underlying31 rfl hinf ?_)
          | ((with_reducible refine at_store 31 (.tmp 9) (.tmp 83) ?_); refine wpl_store (by rfl) 31 (.tmp 9) (.tmp 83) rfl wr.heap.size (idC Q).toArray (by rfl) (by rfl) 31 _ (heap_alloc_new _ _) (by simpa using hinf) (by simp [hql]) (id_one Q) ?_; rw [World.setRow_alloc_new])
          | (at_builtin; refine wp_app tyB rfl _ _ rfl w1.heap.size _ (34 + 32 * i) _ owna (by rfl) _ 32 (Q.map bc) hsl (by rfl) (bc_one _) (by omega) (by omega) xa.size ?_; intro v6 w6 own6 gr6))
        go_roundg (o.pars.length - (i + 1))
        case measure => omega
        case rel =>
          refine ⟨i + 1, by omega, by omega, by go_num, ?_, own_base owna gr6 xa (Nat.le_refl _)⟩
          rw [HP'.out, HN.out, List.map_append]
          exact own6
      · have hie : i = o.pars.length := by omega
        subst hie
        have hPl : (encC o o.pars.length).length = 34 + 32 * o.pars.length := encC_len ho (Nat.le_refl _)
        generalize hP : encC o o.pars.length = P at *
        have HP := Lib.hid hP
        clear hP
        go_wp2_with fail
        refine wp_region_S (fun v => Ext w1 v) (by kernel_rfl) (fun w' h => xr.trans h) fun wd hqd xd hHeld => ?_
        refine wpAnyH_take (i := 0) (v := ?vd0) rfl (by kernel_rfl) (by kernel_rfl) (by kernel_rfl) (fun _ _ _ h => h) (Or.inl ⟨by rfl, ?hyd0⟩) hHeld ?_
        case hyd0 => (intro w hSw; go_simp; try with_reducible rfl)
        simp only [Act.put, List.setIfInBounds_toArray, List.set_cons_zero, List.set_cons_succ, List.getElem_toArray, List.getElem_cons_zero, List.getElem_cons_succ]
        refine wpAnyH_take (i := 1) (v := ?vd1) rfl (by kernel_rfl) (by kernel_rfl) (by kernel_rfl) (fun _ _ _ h => h) (Or.inl ⟨by rfl, ?hyd1⟩) hHeld ?_
        case hyd1 => (intro w hSw; go_simp; try with_reducible rfl)
        simp only [Act.put, List.setIfInBounds_toArray, List.set_cons_zero, List.set_cons_succ, List.getElem_toArray, List.getElem_cons_zero, List.getElem_cons_succ]
        refine wpAnyH_take (i := 2) (v := ?vd2) rfl (by kernel_rfl) (by kernel_rfl) (by kernel_rfl) (fun _ _ _ h => h) (Or.inl ⟨by rfl, ?hyd2⟩) hHeld ?_
        case hyd2 => (intro w hSw; have k := (hSw.cell c5); go_simp; try with_reducible rfl)
        simp only [Act.put, List.setIfInBounds_toArray, List.set_cons_zero, List.set_cons_succ, List.getElem_toArray, List.getElem_cons_zero, List.getElem_cons_succ]
        refine wpAnyH_take (i := 4) (v := ?vd4) rfl (by kernel_rfl) (by kernel_rfl) (by kernel_rfl) (fun _ _ _ h => h) (Or.inl ⟨by rfl, ?hyd4⟩) hHeld ?_
        case hyd4 => (intro w hSw; go_simp; try with_reducible rfl)
        simp only [Act.put, List.setIfInBounds_toArray, List.set_cons_zero, List.set_cons_succ, List.getElem_toArray, List.getElem_cons_zero, List.getElem_cons_succ]
        refine wpAnyH_take (i := 5) (v := ?vd5) rfl (by kernel_rfl) (by kernel_rfl) (by kernel_rfl) (fun _ _ _ h => h) (Or.inl ⟨by rfl, ?hyd5⟩) hHeld ?_
        case hyd5 => (intro w hSw; have k := (hSw.cell c6); go_simp; try with_reducible rfl)
        simp only [Act.put, List.setIfInBounds_toArray, List.set_cons_zero, List.set_cons_succ, List.getElem_toArray, List.getElem_cons_zero, List.getElem_cons_succ]
        refine wpAnyH_all (rs := [3]) (by kernel_rfl) (by simp) ?_
        intro i hi; obtain rfl : i = 3 := by simpa using hi
        refine wpOp_run rfl (by rfl) ?_
        go_simp
        refine Calls.mono (octetPut32 _ _ P o.num (IsB.of_owns (ownsRow_ext own xd)) ho.num (by omega)) ?_
        rintro ee w5 ⟨v5, rfl, own5, x5⟩
        have hHeld := (xr.trans (xd.trans x5))
        refine ⟨hHeld, ?_⟩
        try simp only [Act.put, List.setIfInBounds_toArray, List.set_cons_zero, List.set_cons_succ, List.getElem_toArray, List.getElem_cons_zero, List.getElem_cons_succ]
        refine wpAnyH_all (rs := [6]) (by kernel_rfl) (by simp) ?_
        intro i hi; obtain rfl : i = 6 := by simpa using hi
        refine wpOp_run rfl (by rfl) ?_
        go_simp
        refine Calls.mono (objText _ v5 w1.heap.size (P.length + 4) (P ++ be o.num 4) o.note (ownsRow_base own5 (by have := (xr.trans xd).size; exact this)) hHeld.size (by omega)) ?_
        rintro ee w6 ⟨v6, rfl, own6, bl6, ku6⟩
        have hHeld := (Below.trans (B := w1.heap.size) hHeld bl6)
        refine ⟨hHeld, ?_⟩
        try simp only [Act.put, List.setIfInBounds_toArray, List.set_cons_zero, List.set_cons_succ, List.getElem_toArray, List.getElem_cons_zero, List.getElem_cons_succ]
        refine wpAnyH_take (i := 7) (v := ?vd7) rfl (by kernel_rfl) (by kernel_rfl) (by kernel_rfl) (fun _ _ _ h => h) (Or.inl ⟨by rfl, ?hyd7⟩) hHeld ?_
        case hyd7 => (intro w hSw; go_simp; try with_reducible rfl)
        simp only [Act.put, List.setIfInBounds_toArray, List.set_cons_zero, List.set_cons_succ, List.getElem_toArray, List.getElem_cons_zero, List.getElem_cons_succ]
        refine wpAnyH_take (i := 8) (v := ?vd8) rfl (by kernel_rfl) (by kernel_rfl) (by kernel_rfl) (fun _ _ _ h => h) (Or.inl ⟨by rfl, ?hyd8⟩) hHeld ?_
        case hyd8 => (intro w hSw; go_simp; try with_reducible rfl)
        simp only [Act.put, List.setIfInBounds_toArray, List.set_cons_zero, List.set_cons_succ, List.getElem_toArray, List.getElem_cons_zero, List.getElem_cons_succ]
        refine wpAnyH_done (by kernel_rfl) ?_ _
        refine NoPanic.normal ?_
        go_wp2
        go_ret2
        refine ⟨v6, by rw [HC.out]; rfl, ?_, X1.trans hHeld⟩
        rw [HE.out]
        have hl : (P ++ (be o.num 4 ++ txtB o.note)).length = P.length + 4 + 1 + o.note.size := by rw [List.length_append, List.length_append, be_length, txt_len]; omega
        rw [hl, ← List.append_assoc]
        exact ownsRow_base own6 X1.size
/-- object.Encode, whatever object. -/
theorem objEncode (w : World) (QA : Array Value) (vb ve vp : Value) (o : ObjL) (h : IsObj w QA vb ve vp o) :
    Calls Tryz.prog 109 #[.agg QA] w (EncEnd o w) := by
  cases hc : checkB o with
  | false => exact objEncode0 w QA vb ve vp o h hc
  | true =>
    rcases (chk_parts hc).1 with k | k | k
    · exact objEncode1 w QA vb ve vp o h hc k
    · exact objEncode2 w QA vb ve vp o h hc k
    · exact objEncode3 w QA vb ve vp o h hc k
end Go.Proofs.YtpadfabjihaapaaGreatDoor
