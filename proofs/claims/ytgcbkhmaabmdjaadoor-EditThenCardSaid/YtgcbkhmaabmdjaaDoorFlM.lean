/- The walk of the reference's Undo. -/
import Derived.Test.YtgcbkhmaabmdjaaDoorFlL
import Derived.Test.YtgcbkhmaabmdjaaDoorAppL
namespace Go.Proofs.YtgcbkhmaabmdjaaDoor
open Go.RowKit
set_option linter.unusedVariables false
set_option linter.unusedSimpArgs false

set_option maxHeartbeats 8000000 in
set_option maxRecDepth 100000 in
theorem refUndo (w : World) (v : Value) (fs : List Fl) (vl : Value) (l : List Ed) (hF : IsF w v fs) (hE : IsE w vl l) (hl : l.length ≤ 1000000) (hz : (applyL fs l).2 = 0) :
    Calls Tryd.prog 18 #[.agg #[v], vl] w fun e w' => ∃ v', e = .returned v' ∧ w'.ownsRow w.heap.size 40 4 v' (undoL fs l).length ((undoL fs l).flatMap edC) ∧ Ext w w' := by
  obtain ⟨U, hU⟩ : ∃ U, undoL fs l = U := ⟨_, rfl⟩
  rw [hU]
  have HUE := Lib.hid hU
  clear hU
  obtain ⟨hc, hr, hh, hfit, _, _, _⟩ := apply_ok hz
  have h16 := (repo_sum hr).1
  have HC := Lib.hid hc
  have HFIT := Lib.hid (fun (x : Fl) hx => List.all_eq_true.1 hfit x hx)
  clear hz hc hr hh hfit
  have b0 := heap_alloc_new w (.cells #[v] 24)
  have X0 : Ext w (w.alloc (.cells #[v] 24)) := (Ext.refl w).alloc _
  have HF := Lib.hid (hF.ext X0)
  have HE := Lib.hid (hE.ext X0)
  obtain ⟨ao, cap, rfl, _, _, _, gF⟩ := (hF.ext X0).opened
  have GF := Lib.hid gF
  obtain ⟨ae, ce, rfl, be1, me1, ze1, _⟩ := hE.opened
  have cb : (w.alloc (.cells #[.slice ao fs.length cap] 24)).cell? ⟨w.heap.size, 0, none⟩ = some (.slice ao fs.length cap) := block_cell b0 _
  clear hF hE gF b0
  go_enter Tryd.func18, Tryd.ntmps18
  go_wp2_with fail
  generalize w.alloc (.cells #[.slice ao fs.length cap] 24) = w0 at *
  go_loopg [5, 14] fs.length (fun g s5 s14 wr => ∃ (k : Nat), k ≤ fs.length ∧ fs.length - k ≤ g ∧ s14 = .int .i64 (k : Int) ∧ (undoL (fs.take k) l).length ≤ k * 1000000 ∧ wr.ownsRow w0.heap.size 40 4 s5 (undoL (fs.take k) l).length ((undoL (fs.take k) l).flatMap edC) ∧ Ext w0 wr)
  case atStart => exact ⟨0, by omega, by omega, rfl, by simp [undoL], World.ownsRow_nil _ _ _ _, Ext.refl _⟩
  case round =>
    obtain ⟨k, hk, hgk, rfl, hlen, own, xr⟩ := hrel
    by_cases hlt : k < fs.length
    · obtain ⟨pb, o, rfl, e0, e1⟩ := GF.out k hlt
      have e0 := xr.cell e0
      have e1 := xr.cell e1
      have HTK := Lib.hid (undoL_take (l := l) hlt)
      have hfit := HFIT.out _ (List.getElem_mem hlt)
      have hall := chkR_mem (ofL_chk fs[k].path HC.out)
      have hmf := fits_get (ofL_chk fs[k].path HC.out) hfit
      have hml := ofL_len l fs[k].path
      have hmem : ∀ e ∈ ofL l fs[k].path, edOk e := fun e he => HE.out.ok e ((List.dropWhile_suffix _).subset ((List.takeWhile_prefix _).subset he))
      have HOF := Lib.hid (ofF_chk fs[k].path HC.out)
      generalize fs[k] = f at *
      generalize undoL (fs.take k) l = O at *
      have HALL := Lib.hid hall
      have HMF := Lib.hid hmf
      have HMEM := Lib.hid hmem
      clear hall hmf hfit hmem
      have bF := heap_alloc_new wr (.cells #[.string f.path, .string f.text] 42)
      have xrA : Ext w0 (wr.alloc (.cells #[.string f.path, .string f.text] 42)) := xr.alloc _
      have hub : ∀ q, Value.ownBlock _ = some q → q < wr.heap.size := fun q hq => (own.lt q hq).2
      have own := own.alloc (.cells #[.string f.path, .string f.text] 42)
      have k0 := block_cell bF 0
      go_wp2_with fail
      have hw3 : wr.heap.size < (wr.alloc (.cells #[.string f.path, .string f.text] 42)).heap.size := by simp
      generalize wr.alloc (.cells #[.string f.path, .string f.text] 42) = w3 at *
      generalize wr.heap.size = FB at *
      refine Calls.mono (refOf2 _ _ l f.path (HE.out.ext xrA) hl) ?_
      rintro ee w4 ⟨vm, rfl, ownm, x4⟩
      rw [HOF.out] at ownm
      have bF4 := x4.keeps bF
      have xr4 := xrA.trans x4
      have own4 := owns_ext own x4
      have hw04 : w0.heap.size ≤ w3.heap.size := xrA.size
      clear own bF xrA x4 xr k0 HOF
      have hne4 : ∀ q, vm.ownBlock = some q → Value.ownBlock _ ≠ some q := fun q hq hu => by
        have h1 := hub q hu
        have h2 := (ownm.lt q hq).1
        omega
      clear hub
      generalize ofL l f.path = m at *
      have hlenv : ∃ am cm, vm = .slice am m.length cm := by
        obtain ⟨_, am, cm, h, _⟩ := IsSl.of_owns ownm
        exact ⟨am, cm, h⟩
      obtain ⟨am, cm, rfl⟩ := hlenv
      go_wp2_with fail
      go_loopg [5, 8, 23] m.length (fun g s5 s8 s23 wr => ∃ (j : Nat), j ≤ m.length ∧ m.length - j ≤ g ∧ s23 = .int .i64 (j : Int) ∧ s8 = .int .i64 (mvL (m.take j)) ∧ wr.ownsRow w0.heap.size 40 4 s5 (O.length + j) ((O ++ undoFrom f 0 (m.take j)).flatMap edC) ∧ wr.heap[FB]? = some (.cells #[.string f.path, .string f.text] 42 (0, 0)) ∧ wr.ownsRow w3.heap.size 40 4 (.slice am m.length cm) m.length (m.flatMap edC) ∧ (∀ q, (Value.slice am m.length cm).ownBlock = some q → s5.ownBlock ≠ some q) ∧ Ext w0 wr)
      case atStart => exact ⟨0, by omega, by omega, rfl, rfl, by simpa [undoFrom] using own4, bF4, ownm, hne4, xr4⟩
      case round =>
        clear own4 bF4 xr4 ownm hne4
        obtain ⟨j, hj, hgj, rfl, rfl, own, bF, ownm, hne, xr⟩ := hrel
        by_cases hjl : j < m.length
        · have hM : IsE wr (.slice am m.length cm) m := ⟨IsSl.of_owns ownm, HMEM.out⟩
          obtain ⟨am', cm', e1, bm1, mm1, zm1, gM⟩ := hM.opened
          simp only [Value.slice.injEq] at e1
          obtain ⟨rfl, _, rfl⟩ := e1
          obtain ⟨pb2, o2, rfl, c0, c1, c2, c3⟩ := gM j hjl
          clear gM zm1 hM
          have htk : m.take (j + 1) = m.take j ++ [m[j]] := List.take_succ_eq_append_getElem hjl
          have hal := okOne_all (HALL.out _ (List.getElem_mem hjl))
          have hft := HMF.out _ (List.getElem_mem hjl)
          have hmv := mv_le (m.take j) (fun e he => HALL.out e (List.mem_of_mem_take he))
          rw [List.length_take, Nat.min_eq_left hj] at hmv
          have HTJ := Lib.hid htk
          clear htk
          generalize m[j] = e at *
          have HU1 := Lib.hid (show undoFrom f 0 (m.take (j + 1)) = undoFrom f 0 (m.take j) ++ [undoE f (mvL (m.take j)) e] by rw [HTJ.out, undo_snoc, Int.zero_add])
          have HM1 := Lib.hid (show mvL (m.take (j + 1)) = mvL (m.take j) + (e.text.size - e.n) by rw [HTJ.out, mv_snoc])
          generalize hmm : mvL (m.take j) = mv at *
          obtain ⟨h1, h2, h3, h4, h5, _⟩ := hal
          have hm1 : -4398046511104 ≤ mv := by omega
          have hm2 : mv ≤ 4398046511104 := by omega
          have hs1 : e.at_ ≤ e.at_ + e.n := by omega
          have hs2 : e.at_ + e.n ≤ (f.text.size : Int) := hft
          have hs0 : 0 ≤ e.at_ + e.n := by omega
          have hwk : IntKind.i64.wrap (e.at_ + e.n) = e.at_ + e.n := wrap64_small (by omega) (by omega)
          have hwa : IntKind.i64.wrap (e.at_ + mv) = e.at_ + mv := wrap64_small (by omega) (by omega)
          have hwb : IntKind.i64.wrap ((e.text.size : Int) - e.n) = (e.text.size : Int) - e.n := wrap64_small (by omega) (by omega)
          have hwc : IntKind.i64.wrap (mv + ((e.text.size : Int) - e.n)) = mv + ((e.text.size : Int) - e.n) := wrap64_small (by omega) (by omega)
          have bE := heap_alloc_new wr (.cells (edC e).toArray 40)
          have bF := blk_old (o := .cells (edC e).toArray 40) bF
          have xrA := xr.alloc (.cells (edC e).toArray 40)
          have hneE : Value.ownBlock _ ≠ some wr.heap.size := fun q => Nat.lt_irrefl _ (own.lt _ q).2
          have own := own.alloc (.cells (edC e).toArray 40)
          have ownm := ownm.alloc (.cells (edC e).toArray 40)
          have hbl := fun w => build_one (P := Tryd.prog) w 25 40 4 Tryd.underlying25 infoEd4 (by omega) (by omega) (edC (undoE f mv e)) rfl
          go_wp2_with fail
          show Code.wp _ _ _ _ (wr.alloc (.cells (edC e).toArray 40))
          generalize wr.alloc (.cells (edC e).toArray 40) = w5 at *
          generalize wr.heap.size = EB at *
          refine wp_region_S (fun v => Ext w0 v ∧ v.heap[FB]? = some (.cells #[.string f.path, .string f.text] 42 (0, 0)) ∧ v.heap[EB]? = some (.cells (edC e).toArray 40 (0, 0))) (by kernel_rfl) (fun w' h => ⟨xrA.trans h, h.keeps bF, h.keeps bE⟩) fun wd hqd xd hHeld => ?_
          refine wpAnyH_take (i := 0) (v := ?vu0) rfl (by kernel_rfl) (by kernel_rfl) (by kernel_rfl) (fun _ _ _ h => h) (Or.inl ⟨by rfl, ?hyu0⟩) hHeld ?_
          case hyu0 => (intro w hSw; go_simp; try with_reducible rfl)
          simp only [Act.put, List.setIfInBounds_toArray, List.set_cons_zero, List.set_cons_succ, List.getElem_toArray, List.getElem_cons_zero, List.getElem_cons_succ]
          refine wpAnyH_take (i := 1) (v := ?vu1) rfl (by kernel_rfl) (by kernel_rfl) (by kernel_rfl) (fun _ _ _ h => h) (Or.inl ⟨by rfl, ?hyu1⟩) hHeld ?_
          case hyu1 => (intro w hSw; go_simp; try with_reducible rfl)
          simp only [Act.put, List.setIfInBounds_toArray, List.set_cons_zero, List.set_cons_succ, List.getElem_toArray, List.getElem_cons_zero, List.getElem_cons_succ]
          refine wpAnyH_take (i := 2) (v := ?vu2) rfl (by kernel_rfl) (by kernel_rfl) (by kernel_rfl) (fun _ _ _ h => h) (Or.inl ⟨by rfl, ?hyu2⟩) hHeld ?_
          case hyu2 => (intro w hSw; have k0 := block_cell hSw.2.1 0; go_simp; try with_reducible rfl)
          simp only [Act.put, List.setIfInBounds_toArray, List.set_cons_zero, List.set_cons_succ, List.getElem_toArray, List.getElem_cons_zero, List.getElem_cons_succ]
          refine wpAnyH_take (i := 3) (v := ?vu3) rfl (by kernel_rfl) (by kernel_rfl) (by kernel_rfl) (fun _ _ _ h => h) (Or.inl ⟨by rfl, ?hyu3⟩) hHeld ?_
          case hyu3 => (intro w hSw; go_simp; try with_reducible rfl)
          simp only [Act.put, List.setIfInBounds_toArray, List.set_cons_zero, List.set_cons_succ, List.getElem_toArray, List.getElem_cons_zero, List.getElem_cons_succ]
          refine wpAnyH_take (i := 4) (v := ?vu4) rfl (by kernel_rfl) (by kernel_rfl) (by kernel_rfl) (fun _ _ _ h => h) (Or.inl ⟨by rfl, ?hyu4⟩) hHeld ?_
          case hyu4 => (intro w hSw; have k0 : w.cell? ⟨EB, 1, none⟩ = some (.int .i64 e.at_) := block_cell hSw.2.2 _; go_simp; try with_reducible rfl)
          simp only [Act.put, List.setIfInBounds_toArray, List.set_cons_zero, List.set_cons_succ, List.getElem_toArray, List.getElem_cons_zero, List.getElem_cons_succ]
          refine wpAnyH_take (i := 5) (v := ?vu5) rfl (by kernel_rfl) (by kernel_rfl) (by kernel_rfl) (fun _ _ _ h => h) (Or.inl ⟨by rfl, ?hyu5⟩) hHeld ?_
          case hyu5 => (intro w hSw; go_simp; try with_reducible rfl)
          simp only [Act.put, List.setIfInBounds_toArray, List.set_cons_zero, List.set_cons_succ, List.getElem_toArray, List.getElem_cons_zero, List.getElem_cons_succ]
          refine wpAnyH_take (i := 6) (v := ?vu6) rfl (by kernel_rfl) (by kernel_rfl) (by kernel_rfl) (fun _ _ _ h => h) (Or.inl ⟨by rfl, ?hyu6⟩) hHeld ?_
          case hyu6 => (intro w hSw; go_simp; try with_reducible rfl)
          simp only [Act.put, List.setIfInBounds_toArray, List.set_cons_zero, List.set_cons_succ, List.getElem_toArray, List.getElem_cons_zero, List.getElem_cons_succ]
          refine wpAnyH_take (i := 7) (v := ?vu7) rfl (by kernel_rfl) (by kernel_rfl) (by kernel_rfl) (fun _ _ _ h => h) (Or.inl ⟨by rfl, ?hyu7⟩) hHeld ?_
          case hyu7 => (intro w hSw; go_simp; try with_reducible rfl)
          simp only [Act.put, List.setIfInBounds_toArray, List.set_cons_zero, List.set_cons_succ, List.getElem_toArray, List.getElem_cons_zero, List.getElem_cons_succ]
          refine wpAnyH_take (i := 8) (v := ?vu8) rfl (by kernel_rfl) (by kernel_rfl) (by kernel_rfl) (fun _ _ _ h => h) (Or.inl ⟨by rfl, ?hyu8⟩) hHeld ?_
          case hyu8 => (intro w hSw; have k0 : w.cell? ⟨EB, 3, none⟩ = some (.string e.text) := block_cell hSw.2.2 _; go_simp; try with_reducible rfl)
          simp only [Act.put, List.setIfInBounds_toArray, List.set_cons_zero, List.set_cons_succ, List.getElem_toArray, List.getElem_cons_zero, List.getElem_cons_succ]
          refine wpAnyH_take (i := 9) (v := ?vu9) rfl (by kernel_rfl) (by kernel_rfl) (by kernel_rfl) (fun _ _ _ h => h) (Or.inl ⟨by rfl, ?hyu9⟩) hHeld ?_
          case hyu9 => (intro w hSw; go_simp; try with_reducible rfl)
          simp only [Act.put, List.setIfInBounds_toArray, List.set_cons_zero, List.set_cons_succ, List.getElem_toArray, List.getElem_cons_zero, List.getElem_cons_succ]
          refine wpAnyH_take (i := 10) (v := ?vu10) rfl (by kernel_rfl) (by kernel_rfl) (by kernel_rfl) (fun _ _ _ h => h) (Or.inl ⟨by rfl, ?hyu10⟩) hHeld ?_
          case hyu10 => (intro w hSw; go_simp; try with_reducible rfl)
          simp only [Act.put, List.setIfInBounds_toArray, List.set_cons_zero, List.set_cons_succ, List.getElem_toArray, List.getElem_cons_zero, List.getElem_cons_succ]
          refine wpAnyH_take (i := 11) (v := ?vu11) rfl (by kernel_rfl) (by kernel_rfl) (by kernel_rfl) (fun _ _ _ h => h) (Or.inl ⟨by rfl, ?hyu11⟩) hHeld ?_
          case hyu11 => (intro w hSw; have k0 := block_cell hSw.2.1 1; go_simp; try with_reducible rfl)
          simp only [Act.put, List.setIfInBounds_toArray, List.set_cons_zero, List.set_cons_succ, List.getElem_toArray, List.getElem_cons_zero, List.getElem_cons_succ]
          refine wpAnyH_take (i := 12) (v := ?vu12) rfl (by kernel_rfl) (by kernel_rfl) (by kernel_rfl) (fun _ _ _ h => h) (Or.inl ⟨by rfl, ?hyu12⟩) hHeld ?_
          case hyu12 => (intro w hSw; go_simp; try with_reducible rfl)
          simp only [Act.put, List.setIfInBounds_toArray, List.set_cons_zero, List.set_cons_succ, List.getElem_toArray, List.getElem_cons_zero, List.getElem_cons_succ]
          refine wpAnyH_take (i := 13) (v := ?vu13) rfl (by kernel_rfl) (by kernel_rfl) (by kernel_rfl) (fun _ _ _ h => h) (Or.inl ⟨by rfl, ?hyu13⟩) hHeld ?_
          case hyu13 => (intro w hSw; have k0 : w.cell? ⟨EB, 1, none⟩ = some (.int .i64 e.at_) := block_cell hSw.2.2 _; go_simp; try with_reducible rfl)
          simp only [Act.put, List.setIfInBounds_toArray, List.set_cons_zero, List.set_cons_succ, List.getElem_toArray, List.getElem_cons_zero, List.getElem_cons_succ]
          refine wpAnyH_take (i := 14) (v := ?vu14) rfl (by kernel_rfl) (by kernel_rfl) (by kernel_rfl) (fun _ _ _ h => h) (Or.inl ⟨by rfl, ?hyu14⟩) hHeld ?_
          case hyu14 => (intro w hSw; go_simp; try with_reducible rfl)
          simp only [Act.put, List.setIfInBounds_toArray, List.set_cons_zero, List.set_cons_succ, List.getElem_toArray, List.getElem_cons_zero, List.getElem_cons_succ]
          refine wpAnyH_take (i := 15) (v := ?vu15) rfl (by kernel_rfl) (by kernel_rfl) (by kernel_rfl) (fun _ _ _ h => h) (Or.inl ⟨by rfl, ?hyu15⟩) hHeld ?_
          case hyu15 => (intro w hSw; have k0 : w.cell? ⟨EB, 1, none⟩ = some (.int .i64 e.at_) := block_cell hSw.2.2 _; go_simp; try with_reducible rfl)
          simp only [Act.put, List.setIfInBounds_toArray, List.set_cons_zero, List.set_cons_succ, List.getElem_toArray, List.getElem_cons_zero, List.getElem_cons_succ]
          refine wpAnyH_take (i := 16) (v := ?vu16) rfl (by kernel_rfl) (by kernel_rfl) (by kernel_rfl) (fun _ _ _ h => h) (Or.inl ⟨by rfl, ?hyu16⟩) hHeld ?_
          case hyu16 => (intro w hSw; go_simp; try with_reducible rfl)
          simp only [Act.put, List.setIfInBounds_toArray, List.set_cons_zero, List.set_cons_succ, List.getElem_toArray, List.getElem_cons_zero, List.getElem_cons_succ]
          refine wpAnyH_take (i := 17) (v := ?vu17) rfl (by kernel_rfl) (by kernel_rfl) (by kernel_rfl) (fun _ _ _ h => h) (Or.inl ⟨by rfl, ?hyu17⟩) hHeld ?_
          case hyu17 => (intro w hSw; have k0 : w.cell? ⟨EB, 2, none⟩ = some (.int .i64 e.n) := block_cell hSw.2.2 _; go_simp; try with_reducible rfl)
          simp only [Act.put, List.setIfInBounds_toArray, List.set_cons_zero, List.set_cons_succ, List.getElem_toArray, List.getElem_cons_zero, List.getElem_cons_succ]
          refine wpAnyH_take (i := 18) (v := ?vu18) rfl (by kernel_rfl) (by kernel_rfl) (by kernel_rfl) (fun _ _ _ h => h) (Or.inl ⟨by rfl, ?hyu18⟩) hHeld ?_
          case hyu18 => (intro w hSw; go_simp; try with_reducible rfl)
          simp only [Act.put, List.setIfInBounds_toArray, List.set_cons_zero, List.set_cons_succ, List.getElem_toArray, List.getElem_cons_zero, List.getElem_cons_succ]
          refine wpAnyH_take (i := 19) (v := ?vu19) rfl (by kernel_rfl) (by kernel_rfl) (by kernel_rfl) (fun _ _ _ h => h) (Or.inl ⟨by rfl, ?hyu19⟩) hHeld ?_
          case hyu19 => (intro w hSw; go_simp; try with_reducible rfl)
          simp only [Act.put, List.setIfInBounds_toArray, List.set_cons_zero, List.set_cons_succ, List.getElem_toArray, List.getElem_cons_zero, List.getElem_cons_succ]
          refine wpAnyH_take (i := 20) (v := ?vu20) rfl (by kernel_rfl) (by kernel_rfl) (by kernel_rfl) (fun _ _ _ h => h) (Or.inl ⟨by rfl, ?hyu20⟩) hHeld ?_
          case hyu20 => (intro w hSw; go_simp; try with_reducible rfl)
          simp only [Act.put, List.setIfInBounds_toArray, List.set_cons_zero, List.set_cons_succ, List.getElem_toArray, List.getElem_cons_zero, List.getElem_cons_succ]
          have ownd := owns_ext own xd
          have ownmd := owns_ext ownm xd
          refine wpAnyH_all (rs := [21]) (by kernel_rfl) (by simp) ?_
          intro i hi; obtain rfl : i = 21 := by simpa using hi
          refine wpOp_run rfl (by rfl) ?_
          refine wp_buildOne 25 (.tmp 47) rfl (edC (undoE f mv e)) (by rfl) (hbl _) ?_
          have hHeld := And.intro (hHeld.1.alloc (.cells (edC (undoE f mv e)).toArray 40)) (And.intro (blk_old (o := .cells (edC (undoE f mv e)).toArray 40) hHeld.2.1) (blk_old (o := .cells (edC (undoE f mv e)).toArray 40) hHeld.2.2))
          have own6 := ownd.alloc (.cells (edC (undoE f mv e)).toArray 40)
          have ownm6 := ownmd.alloc (.cells (edC (undoE f mv e)).toArray 40)
          refine ⟨hHeld, ?_⟩
          try simp only [Act.put, List.setIfInBounds_toArray, List.set_cons_zero, List.set_cons_succ, List.getElem_toArray, List.getElem_cons_zero, List.getElem_cons_succ]
          refine wpAnyH_all (rs := [22]) (by kernel_rfl) (by simp) ?_
          intro i hi; obtain rfl : i = 22 := by simpa using hi
          refine wpOp_run rfl (by rfl) ?_
          refine wp_appL (w := wd.alloc (.cells (edC (undoE f mv e)).toArray 40)) tyE (.tmp 27) (.tmp 48) rfl w0.heap.size _ (O.length + j) _ own6 (by rfl) _ 1 (edC (undoE f mv e)) (by omega) (sl_one_new (w := wd) (n := 4) (e := 40) (Q := edC (undoE f mv e)) rfl rfl) (by rfl) (edC_one1 _) (by omega) (by omega) hHeld.1.size ?_
          intro v7 w7 own7 gr7 at7
          have hH1 := own_base own6 gr7 hHeld.1 (Nat.le_refl _)
          have nF := own_neT own6 hHeld.2.1 (by decide)
          have bE7 := (gr7.block EB (block_lt hHeld.2.2) (Ne.symm hneE)).trans hHeld.2.2
          have bF7 := (gr7.block FB (block_lt hHeld.2.1) (Ne.symm nF)).trans hHeld.2.1
          have hnv : ∀ vv : Value, (∀ q, (Value.slice (some ⟨pb2, o2, none⟩) m.length cm).ownBlock = some q → vv.ownBlock ≠ some q) → (Value.slice (some ⟨pb2, o2, none⟩) m.length cm).ownBlock = none ∨ (Value.slice (some ⟨pb2, o2, none⟩) m.length cm).ownBlock ≠ vv.ownBlock := fun vv hv => by
            cases hvb : (Value.slice (some ⟨pb2, o2, none⟩) m.length cm).ownBlock with
            | none => exact .inl rfl
            | some q => exact .inr (Ne.symm (hv q hvb))
          have ownm7 := ownm6.kept gr7 (hnv _ hne)
          have hne7 : ∀ q, (Value.slice (some ⟨pb2, o2, none⟩) m.length cm).ownBlock = some q → v7.ownBlock ≠ some q := fun q hq hq7 => by
            rcases at7 with h | h
            · exact hne q hq (h.symm.trans hq7)
            · rw [h] at hq7
              have := (ownm6.lt q hq).2
              have := Option.some.inj hq7
              omega
          clear own6 gr7 ownd ownmd ownm6
          have hHeld := And.intro hH1 (And.intro bF7 bE7)
          refine ⟨hHeld, ?_⟩
          try simp only [Act.put, List.setIfInBounds_toArray, List.set_cons_zero, List.set_cons_succ, List.getElem_toArray, List.getElem_cons_zero, List.getElem_cons_succ]
          refine wpAnyH_take (i := 23) (v := ?vu23) rfl (by kernel_rfl) (by kernel_rfl) (by kernel_rfl) (fun _ _ _ h => h) (Or.inl ⟨by rfl, ?hyu23⟩) hHeld ?_
          case hyu23 => (intro w hSw; go_simp; try with_reducible rfl)
          simp only [Act.put, List.setIfInBounds_toArray, List.set_cons_zero, List.set_cons_succ, List.getElem_toArray, List.getElem_cons_zero, List.getElem_cons_succ]
          refine wpAnyH_done (by kernel_rfl) ?_ _
          refine NoPanic.normal ?_
          have kt : w7.cell? ⟨EB, 3, none⟩ = some (.string e.text) := block_cell bE7 _
          have kn : w7.cell? ⟨EB, 2, none⟩ = some (.int .i64 e.n) := block_cell bE7 _
          go_wp2_with fail
          go_roundg (m.length - (j + 1))
          case measure => omega
          case rel => exact ⟨j + 1, by omega, by omega, by go_num, by rw [HM1.out], by rw [HU1.out, ← List.append_assoc, List.flatMap_append]; simpa [Nat.add_assoc] using own7, bF7, ownm7, hne7, hH1⟩
        · obtain rfl : j = m.length := by omega
          rw [List.take_length] at own
          have htl : (O ++ undoFrom f 0 m).length = O.length + m.length := by rw [List.length_append, undo_len]
          go_wp2_with fail
          go_roundg (fs.length - (k + 1))
          case measure => omega
          case rel => exact ⟨k + 1, by omega, by omega, by go_num, by rw [HTK.out, htl]; omega, by rw [HTK.out, htl]; exact own, xr⟩
    · obtain rfl : k = fs.length := by omega
      rw [List.take_length] at own hlen
      have hUE := HUE.out
      rw [hUE] at own
      have hsz := X0.size
      go_wp2_with fail
      go_ret
      exact ⟨_, rfl, ownsRow_base own (by omega), X0.trans xr⟩
end Go.Proofs.YtgcbkhmaabmdjaaDoor
