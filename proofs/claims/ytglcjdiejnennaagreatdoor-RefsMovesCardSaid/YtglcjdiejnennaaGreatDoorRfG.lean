/- The reference's Get and Same at branches. -/
import Derived.Test.YtglcjdiejnennaaGreatDoorRfF
namespace Go.Proofs.YtglcjdiejnennaaGreatDoor
open Go.RowKit
set_option linter.unusedVariables false
set_option linter.unusedSimpArgs false

def gtV : List Rf → ByteArray → List UInt8 × Bool
  | [], _ => (z32, false)
  | e :: r, p => if (e.name.toList == p.toList) = true then (e.id, true) else gtV r p
theorem gtV_is (p : ByteArray) : ∀ l : List Rf, gtV l p = match getR l p with | some e => (e.id, true) | none => (z32, false)
  | [] => rfl
  | e :: r => by
    unfold gtV getR
    rw [List.find?_cons]
    cases h : (e.name.toList == p.toList) with
    | true => rfl
    | false => exact gtV_is p r
set_option maxHeartbeats 1000000 in
set_option maxRecDepth 100000 in
theorem refGet09 (w : World) (v : Value) (l : List Rf) (h : IsR w v l) (p : ByteArray) :
    Calls Tryz.prog 25 #[.agg #[v], .string p] w fun e w' => e = .returned (.tuple #[.agg ((gtV l p).1.map bc).toArray, .bool (gtV l p).2]) ∧ Ext w w' := by
  obtain ⟨R, hR⟩ : ∃ R, gtV l p = R := ⟨_, rfl⟩
  rw [hR]
  obtain ⟨ao, cap, rfl⟩ := sl_len h.sl
  have b0 := blk_old (o := .cells (z32.map bc).toArray 33) (heap_alloc_new w (.cells #[.slice ao l.length cap] 63))
  have bR := blk_new (w := w.alloc (.cells #[.slice ao l.length cap] 63)) (b := w.heap.size + 1) (o := .cells (z32.map bc).toArray 33) (by simp)
  have X0 : Ext w ((w.alloc (.cells #[.slice ao l.length cap] 63)).alloc (.cells (z32.map bc).toArray 33)) := ((Ext.refl w).alloc _).alloc _
  have cb : ((w.alloc (.cells #[.slice ao l.length cap] 63)).alloc (.cells (z32.map bc).toArray 33)).cell? ⟨w.heap.size, 0, none⟩ = some (.slice ao l.length cap) := by rw [block_cell b0]; rfl
  have HF := Lib.hid (h.ext X0)
  obtain ⟨_, k1, m1⟩ := sl_cap h.sl
  clear h b0
  go_enter Tryz.func25, Tryz.ntmps25
  go_wp2_with fail
  obtain ⟨w1, hw1⟩ : ∃ w1, w1 = (w.alloc (.cells #[.slice ao l.length cap] 63)).alloc (.cells (z32.map bc).toArray 33) := ⟨_, rfl⟩
  rw [← hw1] at cb bR HF X0
  generalize hG : w.heap.size = G at *
  go_loopg [6] l.length (fun g s6 wr => ∃ i : Nat, i ≤ l.length ∧ l.length - i ≤ g ∧ s6 = .int .i64 (i : Int) ∧ gtV (l.drop i) p = R ∧ Ext w1 wr)
  case atStart => exact ⟨0, Nat.zero_le _, by omega, rfl, hR, by rw [hw1]; exact Ext.refl _⟩
  case round =>
    clear hR hw1
    obtain ⟨i, hi, hg, rfl, hR, xr⟩ := hrel
    have cbr := xr.cell cb
    have bRr := xr.keeps bR
    have X := X0.trans xr
    clear cb bR
    by_cases hlt : i < l.length
    · obtain ⟨pb, o, rfl, hra⟩ := rf_at (HF.out.ext xr).sl HF.out.ok i hlt
      obtain ⟨hrn, hri⟩ := rf_parts hra
      have hIl := (HF.out.ok _ (List.getElem_mem hlt)).1
      rw [List.drop_eq_getElem_cons hlt] at hR
      generalize l[i] = x at *
      have i1 : (i : Int) < (l.length : Int) := by omega
      cases hb : (x.name.toList == p.toList) with
      | false =>
        have hR2 : gtV (l.drop (i + 1)) p = R := by rw [← hR]; simp [gtV, hb]
        have HR := Lib.hid hR2
        clear hR hR2 hri hra
        go_wp2_with fail
        go_roundg (l.length - (i + 1))
        case measure => omega
        case rel => exact ⟨i + 1, by omega, by omega, by go_num, HR.out, xr⟩
      | true =>
        obtain rfl : (x.id, true) = R := by rw [← hR]; simp [gtV, hb]
        clear hR hra
        obtain ⟨y, hy⟩ : ∃ y, x.id = y := ⟨_, rfl⟩
        rw [hy] at hri hIl
        have HY := Lib.hid hy
        clear hy
        have hinf : (Tryz.prog.info? 33).map (·.size) = some (y.map bc).length := by simpa using id_size hIl
        go_wp2_with (first
          | ((with_reducible refine at_load 33 (.tmp 26) ?_); refine wpl_mid (by rfl) 33 (.tmp 26) rfl pb (o + i * 33 + 1) (by rfl) (y.map bc) _ hri Tryz.underlying33 rfl hinf ?_)
          | ((with_reducible refine at_store 33 (.tmp 4) (.tmp 27) ?_); refine wpl_store (by rfl) 33 (.tmp 4) (.tmp 27) rfl (G + 1) (y.map bc).toArray (by rfl) (by rfl) 33 _ bRr (id_size hIl) (id_same rfl hIl) (id_one _) ?_))
        have hfin : (wr.setRow (G + 1) (y.map bc).toArray).heap[G + 1]? = some (.cells (y.map bc).toArray 33 (0, 0)) := setRow_heap _ _ _ _ _ _ bRr
        exact bodyPost_ret (results_cell_tmp rfl _ _ (G + 1) _ _ _ _ (by rfl) hfin Tryz.underlying33 rfl (id_size hIl)) rfl ⟨by rw [HY.out]; rfl, X.grown grown_setRow' (fun k hk => by simp at hk; omega)⟩
    · have e : i = l.length := by omega
      subst e
      obtain rfl : (z32, false) = R := by rw [← hR, List.drop_length]; rfl
      clear hR
      go_wp2_with ((with_reducible refine at_store 33 (.tmp 4) (.tmp 28) ?_); refine wpl_store (by rfl) 33 (.tmp 4) (.tmp 28) rfl (G + 1) (z32.map bc).toArray (by rfl) (by rfl) 33 _ bRr (id_size rfl) rfl (id_one _) ?_)
      have hfin : (wr.setRow (G + 1) (z32.map bc).toArray).heap[G + 1]? = some (.cells (z32.map bc).toArray 33 (0, 0)) := setRow_heap _ _ _ _ _ _ bRr
      exact bodyPost_ret (results_cell_tmp rfl _ _ (G + 1) _ _ _ _ (by rfl) hfin Tryz.underlying33 rfl (id_size rfl)) rfl ⟨rfl, X.grown grown_setRow' (fun k hk => by simp at hk; omega)⟩

set_option maxHeartbeats 1000000 in
set_option maxRecDepth 100000 in
theorem refSame09 (w : World) (v1 v2 : Value) (l1 l2 : List Rf) (h1 : IsR w v1 l1) (h2 : IsR w v2 l2) :
    Calls Tryz.prog 22 #[.agg #[v1], .agg #[v2]] w fun e w' => e = .returned (.bool (listEq rfEq l1 l2)) ∧ Ext w w' := by
  obtain ⟨a1, c1, rfl⟩ := sl_len h1.sl
  obtain ⟨a2, c2, rfl⟩ := sl_len h2.sl
  obtain ⟨_, k1, m1⟩ := sl_cap h1.sl
  obtain ⟨_, k2, m2⟩ := sl_cap h2.sl
  have b0 := blk_old (o := .cells #[.slice a2 l2.length c2] 63) (heap_alloc_new w (.cells #[.slice a1 l1.length c1] 63))
  have b1 := blk_new (w := w.alloc (.cells #[.slice a1 l1.length c1] 63)) (b := w.heap.size + 1) (o := .cells #[.slice a2 l2.length c2] 63) (by simp)
  have X0 : Ext w ((w.alloc (.cells #[.slice a1 l1.length c1] 63)).alloc (.cells #[.slice a2 l2.length c2] 63)) := ((Ext.refl w).alloc _).alloc _
  have cc2 := (block_cell b0 0).trans (show _ = some (Value.slice a1 l1.length c1) from rfl)
  have cc3 := (block_cell b1 0).trans (show _ = some (Value.slice a2 l2.length c2) from rfl)
  have H1 := Lib.hid (h1.ext X0).sl
  have H2 := Lib.hid (h2.ext X0).sl
  have O1 := Lib.hid h1.ok
  have O2 := Lib.hid h2.ok
  clear h1 h2 b0 b1
  generalize hR : listEq rfEq l1 l2 = R
  by_cases hn : l1.length = l2.length
  · have hb : ((l1.length : Int) != (l2.length : Int)) = false := by rw [hn]; simp
    have HN := Lib.hid hn
    clear hn
    go_enter Tryz.func22, Tryz.ntmps22
    go_wp2_with fail
    generalize (w.alloc (.cells #[.slice a1 l1.length c1] 63)).alloc (.cells #[.slice a2 l2.length c2] 63) = w1 at *
    generalize w.heap.size = G at *
    go_loopg [5] l1.length (fun g s5 wr => ∃ i : Nat, i ≤ l1.length ∧ l1.length - i ≤ g ∧ s5 = .int .i64 i ∧ R = listEq rfEq (l1.drop i) (l2.drop i) ∧ Ext w1 wr)
    case atStart => exact ⟨0, Nat.zero_le _, by omega, rfl, hR.symm, Ext.refl _⟩
    case round =>
      clear hR
      obtain ⟨i, hi, hg, rfl, hR, xr⟩ := hrel
      have c2r := xr.cell cc2
      have c3r := xr.cell cc3
      clear cc2 cc3
      by_cases hlt : i < l1.length
      · have hlt2 : i < l2.length := by have := HN.out; omega
        obtain ⟨p1, f1, rfl, hra1⟩ := rf_at H1.out O1.out i hlt
        obtain ⟨p2, f2, rfl, hra2⟩ := rf_at H2.out O2.out i hlt2
        have q1 := O1.out _ (List.getElem_mem hlt)
        have q2 := O2.out _ (List.getElem_mem hlt2)
        rw [List.drop_eq_getElem_cons hlt, List.drop_eq_getElem_cons hlt2, listEq] at hR
        generalize l1[i] = x at *
        generalize l2[i] = y at *
        have hra1 := rangeAt_ext hra1 xr
        have hra2 := rangeAt_ext hra2 xr
        have hinf1 := rf_info q1
        have hinf2 := rf_info q2
        have hne := fun w => neq_rf w x y q1 q2
        have i0 : (0 : Int) ≤ (i : Int) := Int.natCast_nonneg _
        have i1 : (i : Int) < (l1.length : Int) := by omega
        have i2 : (i : Int) < (l2.length : Int) := by omega
        cases hxy : rfEq x y with
        | true =>
          rw [hxy] at hR
          have HR := Lib.hid hR
          rw [show rfEq x y = true from hxy] at hne
          have HX := Lib.hid hxy
          clear hR hxy q1 q2
          go_wp2_with fail
          refine wp_region_ext (by kernel_rfl) fun wd hqd xd hHeld => ?_
          have hra1 := rangeAt_ext hra1 xd
          have hra2 := rangeAt_ext hra2 xd
          refine wpAnyH_take (i := 0) (v := ?vra0) rfl (by kernel_rfl) (by kernel_rfl) (by kernel_rfl) (fun _ _ _ h => h) (Or.inl ⟨by rfl, ?hyra0⟩) hHeld ?_
          case hyra0 => (intro w hSw; go_simp; try with_reducible rfl)
          simp only [Act.put, List.setIfInBounds_toArray, List.set_cons_zero, List.set_cons_succ, List.getElem_toArray, List.getElem_cons_zero, List.getElem_cons_succ]
          refine wpAnyH_take (i := 1) (v := ?vra1) rfl (by kernel_rfl) (by kernel_rfl) (by kernel_rfl) (fun _ _ _ h => h) (Or.inl ⟨by rfl, ?hyra1⟩) hHeld ?_
          case hyra1 => (intro w hSw; have k := hSw.cell (xd.cell c2r); go_simp; try with_reducible rfl)
          simp only [Act.put, List.setIfInBounds_toArray, List.set_cons_zero, List.set_cons_succ, List.getElem_toArray, List.getElem_cons_zero, List.getElem_cons_succ]
          refine wpAnyH_take (i := 2) (v := ?vra2) rfl (by kernel_rfl) (by kernel_rfl) (by kernel_rfl) (fun _ _ _ h => h) (Or.inl ⟨by rfl, ?hyra2⟩) hHeld ?_
          case hyra2 => (intro w hSw; go_simp; try with_reducible rfl)
          simp only [Act.put, List.setIfInBounds_toArray, List.set_cons_zero, List.set_cons_succ, List.getElem_toArray, List.getElem_cons_zero, List.getElem_cons_succ]
          refine wpAnyH_take (i := 3) (v := ?vra3) rfl (by kernel_rfl) (by kernel_rfl) (by kernel_rfl) (fun _ _ _ h => h) (Or.inl ⟨by rfl, ?hyra3⟩) hHeld ?_
          case hyra3 => (intro w hSw; go_simp; try with_reducible rfl)
          simp only [Act.put, List.setIfInBounds_toArray, List.set_cons_zero, List.set_cons_succ, List.getElem_toArray, List.getElem_cons_zero, List.getElem_cons_succ]
          refine wpAnyH_take (i := 4) rfl (by kernel_rfl) (by kernel_rfl) (by kernel_rfl) (fun _ _ _ h => h) (yieldsIf_load_mid (by rfl) _ _ rfl _ _ rfl (rfC x) _ (fun w h => rangeAt_ext hra1 h) Tryz.underlying78 rfl hinf1) hHeld ?_
          simp only [Act.put, List.setIfInBounds_toArray, List.set_cons_zero, List.set_cons_succ, List.getElem_toArray, List.getElem_cons_zero, List.getElem_cons_succ]
          refine wpAnyH_take (i := 5) (v := ?vra5) rfl (by kernel_rfl) (by kernel_rfl) (by kernel_rfl) (fun _ _ _ h => h) (Or.inl ⟨by rfl, ?hyra5⟩) hHeld ?_
          case hyra5 => (intro w hSw; go_simp; try with_reducible rfl)
          simp only [Act.put, List.setIfInBounds_toArray, List.set_cons_zero, List.set_cons_succ, List.getElem_toArray, List.getElem_cons_zero, List.getElem_cons_succ]
          refine wpAnyH_take (i := 6) (v := ?vra6) rfl (by kernel_rfl) (by kernel_rfl) (by kernel_rfl) (fun _ _ _ h => h) (Or.inl ⟨by rfl, ?hyra6⟩) hHeld ?_
          case hyra6 => (intro w hSw; have k := hSw.cell (xd.cell c3r); go_simp; try with_reducible rfl)
          simp only [Act.put, List.setIfInBounds_toArray, List.set_cons_zero, List.set_cons_succ, List.getElem_toArray, List.getElem_cons_zero, List.getElem_cons_succ]
          refine wpAnyH_take (i := 7) (v := ?vra7) rfl (by kernel_rfl) (by kernel_rfl) (by kernel_rfl) (fun _ _ _ h => h) (Or.inl ⟨by rfl, ?hyra7⟩) hHeld ?_
          case hyra7 => (intro w hSw; go_simp; try with_reducible rfl)
          simp only [Act.put, List.setIfInBounds_toArray, List.set_cons_zero, List.set_cons_succ, List.getElem_toArray, List.getElem_cons_zero, List.getElem_cons_succ]
          refine wpAnyH_take (i := 8) (v := ?vra8) rfl (by kernel_rfl) (by kernel_rfl) (by kernel_rfl) (fun _ _ _ h => h) (Or.inl ⟨by rfl, ?hyra8⟩) hHeld ?_
          case hyra8 => (intro w hSw; go_simp; try with_reducible rfl)
          simp only [Act.put, List.setIfInBounds_toArray, List.set_cons_zero, List.set_cons_succ, List.getElem_toArray, List.getElem_cons_zero, List.getElem_cons_succ]
          refine wpAnyH_take (i := 9) rfl (by kernel_rfl) (by kernel_rfl) (by kernel_rfl) (fun _ _ _ h => h) (yieldsIf_load_mid (by rfl) _ _ rfl _ _ rfl (rfC y) _ (fun w h => rangeAt_ext hra2 h) Tryz.underlying78 rfl hinf2) hHeld ?_
          simp only [Act.put, List.setIfInBounds_toArray, List.set_cons_zero, List.set_cons_succ, List.getElem_toArray, List.getElem_cons_zero, List.getElem_cons_succ]
          refine wpAnyH_take (i := 10) (v := ?vra10) rfl (by kernel_rfl) (by kernel_rfl) (by kernel_rfl) (fun _ _ _ h => h) (Or.inl ⟨by rfl, ?hyra10⟩) hHeld ?_
          case hyra10 => (intro w hSw; have k := hne w; go_simp; try with_reducible rfl)
          simp only [Act.put, List.setIfInBounds_toArray, List.set_cons_zero, List.set_cons_succ, List.getElem_toArray, List.getElem_cons_zero, List.getElem_cons_succ]
          refine wpAnyH_done (by kernel_rfl) ?_ _
          refine NoPanic.normal ?_
          go_wp2_with fail
          go_roundg (l1.length - (i + 1))
          case measure => omega
          case rel => exact ⟨i + 1, by omega, by omega, by go_num, by rw [HR.out]; rfl, xr.trans xd⟩
        | false =>
          rw [hxy] at hR
          have HR := Lib.hid hR
          rw [show rfEq x y = false from hxy] at hne
          have HX := Lib.hid hxy
          clear hR hxy q1 q2
          go_wp2_with fail
          refine wp_region_ext (by kernel_rfl) fun wd hqd xd hHeld => ?_
          have hra1 := rangeAt_ext hra1 xd
          have hra2 := rangeAt_ext hra2 xd
          refine wpAnyH_take (i := 0) (v := ?vrb0) rfl (by kernel_rfl) (by kernel_rfl) (by kernel_rfl) (fun _ _ _ h => h) (Or.inl ⟨by rfl, ?hyrb0⟩) hHeld ?_
          case hyrb0 => (intro w hSw; go_simp; try with_reducible rfl)
          simp only [Act.put, List.setIfInBounds_toArray, List.set_cons_zero, List.set_cons_succ, List.getElem_toArray, List.getElem_cons_zero, List.getElem_cons_succ]
          refine wpAnyH_take (i := 1) (v := ?vrb1) rfl (by kernel_rfl) (by kernel_rfl) (by kernel_rfl) (fun _ _ _ h => h) (Or.inl ⟨by rfl, ?hyrb1⟩) hHeld ?_
          case hyrb1 => (intro w hSw; have k := hSw.cell (xd.cell c2r); go_simp; try with_reducible rfl)
          simp only [Act.put, List.setIfInBounds_toArray, List.set_cons_zero, List.set_cons_succ, List.getElem_toArray, List.getElem_cons_zero, List.getElem_cons_succ]
          refine wpAnyH_take (i := 2) (v := ?vrb2) rfl (by kernel_rfl) (by kernel_rfl) (by kernel_rfl) (fun _ _ _ h => h) (Or.inl ⟨by rfl, ?hyrb2⟩) hHeld ?_
          case hyrb2 => (intro w hSw; go_simp; try with_reducible rfl)
          simp only [Act.put, List.setIfInBounds_toArray, List.set_cons_zero, List.set_cons_succ, List.getElem_toArray, List.getElem_cons_zero, List.getElem_cons_succ]
          refine wpAnyH_take (i := 3) (v := ?vrb3) rfl (by kernel_rfl) (by kernel_rfl) (by kernel_rfl) (fun _ _ _ h => h) (Or.inl ⟨by rfl, ?hyrb3⟩) hHeld ?_
          case hyrb3 => (intro w hSw; go_simp; try with_reducible rfl)
          simp only [Act.put, List.setIfInBounds_toArray, List.set_cons_zero, List.set_cons_succ, List.getElem_toArray, List.getElem_cons_zero, List.getElem_cons_succ]
          refine wpAnyH_take (i := 4) rfl (by kernel_rfl) (by kernel_rfl) (by kernel_rfl) (fun _ _ _ h => h) (yieldsIf_load_mid (by rfl) _ _ rfl _ _ rfl (rfC x) _ (fun w h => rangeAt_ext hra1 h) Tryz.underlying78 rfl hinf1) hHeld ?_
          simp only [Act.put, List.setIfInBounds_toArray, List.set_cons_zero, List.set_cons_succ, List.getElem_toArray, List.getElem_cons_zero, List.getElem_cons_succ]
          refine wpAnyH_take (i := 5) (v := ?vrb5) rfl (by kernel_rfl) (by kernel_rfl) (by kernel_rfl) (fun _ _ _ h => h) (Or.inl ⟨by rfl, ?hyrb5⟩) hHeld ?_
          case hyrb5 => (intro w hSw; go_simp; try with_reducible rfl)
          simp only [Act.put, List.setIfInBounds_toArray, List.set_cons_zero, List.set_cons_succ, List.getElem_toArray, List.getElem_cons_zero, List.getElem_cons_succ]
          refine wpAnyH_take (i := 6) (v := ?vrb6) rfl (by kernel_rfl) (by kernel_rfl) (by kernel_rfl) (fun _ _ _ h => h) (Or.inl ⟨by rfl, ?hyrb6⟩) hHeld ?_
          case hyrb6 => (intro w hSw; have k := hSw.cell (xd.cell c3r); go_simp; try with_reducible rfl)
          simp only [Act.put, List.setIfInBounds_toArray, List.set_cons_zero, List.set_cons_succ, List.getElem_toArray, List.getElem_cons_zero, List.getElem_cons_succ]
          refine wpAnyH_take (i := 7) (v := ?vrb7) rfl (by kernel_rfl) (by kernel_rfl) (by kernel_rfl) (fun _ _ _ h => h) (Or.inl ⟨by rfl, ?hyrb7⟩) hHeld ?_
          case hyrb7 => (intro w hSw; go_simp; try with_reducible rfl)
          simp only [Act.put, List.setIfInBounds_toArray, List.set_cons_zero, List.set_cons_succ, List.getElem_toArray, List.getElem_cons_zero, List.getElem_cons_succ]
          refine wpAnyH_take (i := 8) (v := ?vrb8) rfl (by kernel_rfl) (by kernel_rfl) (by kernel_rfl) (fun _ _ _ h => h) (Or.inl ⟨by rfl, ?hyrb8⟩) hHeld ?_
          case hyrb8 => (intro w hSw; go_simp; try with_reducible rfl)
          simp only [Act.put, List.setIfInBounds_toArray, List.set_cons_zero, List.set_cons_succ, List.getElem_toArray, List.getElem_cons_zero, List.getElem_cons_succ]
          refine wpAnyH_take (i := 9) rfl (by kernel_rfl) (by kernel_rfl) (by kernel_rfl) (fun _ _ _ h => h) (yieldsIf_load_mid (by rfl) _ _ rfl _ _ rfl (rfC y) _ (fun w h => rangeAt_ext hra2 h) Tryz.underlying78 rfl hinf2) hHeld ?_
          simp only [Act.put, List.setIfInBounds_toArray, List.set_cons_zero, List.set_cons_succ, List.getElem_toArray, List.getElem_cons_zero, List.getElem_cons_succ]
          refine wpAnyH_take (i := 10) (v := ?vrb10) rfl (by kernel_rfl) (by kernel_rfl) (by kernel_rfl) (fun _ _ _ h => h) (Or.inl ⟨by rfl, ?hyrb10⟩) hHeld ?_
          case hyrb10 => (intro w hSw; have k := hne w; go_simp; try with_reducible rfl)
          simp only [Act.put, List.setIfInBounds_toArray, List.set_cons_zero, List.set_cons_succ, List.getElem_toArray, List.getElem_cons_zero, List.getElem_cons_succ]
          refine wpAnyH_done (by kernel_rfl) ?_ _
          refine NoPanic.normal ?_
          go_wp2_with fail
          go_ret
          exact ⟨ret_bool (by rw [HR.out]; rfl), X0.trans (xr.trans xd)⟩
      · have e : i = l1.length := by omega
        subst e
        have hT : R = true := by rw [hR, List.drop_length, HN.out, List.drop_length]; rfl
        have HT := Lib.hid hT
        have i2 : l2.length = l1.length := HN.out.symm
        clear hT hR
        go_wp2_with fail
        go_ret
        exact ⟨ret_bool HT.out.symm, X0.trans xr⟩
  · have hb : ((l1.length : Int) != (l2.length : Int)) = true := by rw [bne_iff_ne]; omega
    have hF := hR.symm.trans (listEq_len rfEq l1 l2 hn)
    have HF := Lib.hid hF
    clear hF hR
    go_enter Tryz.func22, Tryz.ntmps22
    go_wp2_with fail
    go_ret
    exact ⟨ret_bool HF.out.symm, X0⟩
end Go.Proofs.YtglcjdiejnennaaGreatDoor
