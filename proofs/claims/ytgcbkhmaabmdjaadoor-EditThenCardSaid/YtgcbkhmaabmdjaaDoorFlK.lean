/- The walk of edit.Undo. -/
import Derived.Test.YtgcbkhmaabmdjaaDoorFlJ
import Derived.Test.YtgcbkhmaabmdjaaDoorEdOf
namespace Go.Proofs.YtgcbkhmaabmdjaaDoor
open Go.RowKit
set_option linter.unusedVariables false
set_option linter.unusedSimpArgs false

theorem own_neT {w : World} {base : Nat} {e t : TypeId} {size : Nat} {v : Value} {n : Nat} {xs : List Value} {g : Nat} {c : Array Value} {f : Nat × Nat} (h : w.ownsRow base e size v n xs) (hg : w.heap[g]? = some (.cells c t f)) (hne : t ≠ e) : v.ownBlock ≠ some g := by
  rcases h.2 with ⟨rfl, rfl⟩ | ⟨g', cap, cur, rfl, _, hh, _⟩
  · simp [Value.ownBlock]
  · intro hx
    simp [Value.ownBlock] at hx
    subst hx
    rw [hg] at hh
    simp only [Option.some.injEq, Obj.cells.injEq] at hh
    exact hne hh.2.1
/-- What edit.Undo answers. -/
def undoA (fs : List Fl) (l : List Ed) : List Ed := if (applyL fs l).2 = 0 then undoL fs l else []
theorem apply_ok {fs : List Fl} {l : List Ed} (h : (applyL fs l).2 = 0) : chk l = true ∧ repoB fs = true ∧ (l.all fun e => hasB fs e.path) = true ∧ fs.all (fitB l) = true ∧ longB (fs.map (updF l)) = false ∧ sumT (fs.map (updF l)) ≤ 16384 ∧ applyL fs l = (fs.map (updF l), 0) := by
  unfold applyL at h ⊢
  cases h1 : chk l with
  | false => rw [h1] at h; simp at h
  | true =>
    cases h2 : repoB fs with
    | false => rw [h1, h2] at h; simp at h
    | true =>
      cases h3 : (l.all fun e => hasB fs e.path) with
      | false => rw [h1, h2, h3] at h; simp at h
      | true =>
        cases h4 : fs.all (fitB l) with
        | false => rw [h1, h2, h3, h4] at h; simp at h
        | true =>
          rw [h1, h2, h3, h4] at h
          by_cases h5 : (longB (fs.map (updF l)) || decide (16384 < sumT (fs.map (updF l)))) = true
          · rw [h5] at h; simp at h
          · have h6 := h5
            rw [Bool.not_eq_true, Bool.or_eq_false_iff, decide_eq_false_iff_not] at h5
            refine ⟨rfl, rfl, rfl, rfl, h5.1, Nat.le_of_not_lt h5.2, ?_⟩
            rw [if_neg (by decide), if_neg (by decide), if_neg (by decide), if_neg (by decide), if_neg h6]
theorem undoL_take {fs : List Fl} {l : List Ed} {k : Nat} (h : k < fs.length) : undoL (fs.take (k + 1)) l = undoL (fs.take k) l ++ undoFrom fs[k] 0 (ofL l fs[k].path) := by
  unfold undoL
  rw [List.take_succ_eq_append_getElem h, List.flatMap_append]
  simp

set_option maxHeartbeats 8000000 in
set_option maxRecDepth 100000 in
theorem editUndo (w : World) (v : Value) (fs : List Fl) (vl : Value) (l : List Ed) (hF : IsF w v fs) (hE : IsE w vl l) (hl : l.length ≤ 1000000) :
    Calls Tryd.prog 11 #[.agg #[v], vl] w fun e w' => ∃ v', e = .returned (.tuple #[v', .int .i64 (applyL fs l).2]) ∧ w'.ownsRow w.heap.size 40 4 v' (undoA fs l).length ((undoA fs l).flatMap edC) ∧ Ext w w' := by
  obtain ⟨zE, tyE⟩ := tyEd
  obtain ⟨D, hD⟩ : ∃ D, applyL fs l = D := ⟨_, rfl⟩
  obtain ⟨U, hU⟩ : ∃ U, undoA fs l = U := ⟨_, rfl⟩
  have HAP := Lib.hid (fun h => @apply_ok fs l h)
  rw [hU]
  unfold undoA at hU
  rw [hD] at hU ⊢
  have HD := Lib.hid hD
  have HU := Lib.hid hU
  clear hD hU
  have b0 := heap_alloc_new w (.cells #[v] 24)
  have X0 : Ext w (w.alloc (.cells #[v] 24)) := (Ext.refl w).alloc _
  have HF := Lib.hid (hF.ext X0)
  have HE := Lib.hid (hE.ext X0)
  obtain ⟨ao, cap, rfl, _, _, _, _⟩ := hF.opened
  obtain ⟨ae, ce, rfl, be1, me1, ze1, _⟩ := hE.opened
  clear hF hE
  go_enter Tryd.func11, Tryd.ntmps11
  go_wp2_with ((with_reducible refine at_load 24 (.tmp 2) ?_); refine wpl_load (by rfl) 24 (.tmp 2) rfl w.heap.size (by rfl) 24 #[.slice ao fs.length cap] (0, 0) _ b0 Tryd.underlying24 rfl (info1 _) ?_)
  refine Calls.mono (editApply _ _ fs _ l HF.out HE.out hl) ?_
  rintro ee w1 ⟨v1, rfl, own1, x1⟩
  rw [HD.out] at own1 ⊢
  have X1 := X0.trans x1
  have b01 := x1.keeps b0
  obtain ⟨_, a1, c1, rfl, _⟩ := IsSl.of_owns own1
  clear own1
  cases hz : (D.2 == 0) with
  | false =>
    have hz1 : D.2 ≠ 0 := by simpa using hz
    have hz2 : (D.2 != 0) = true := by simpa using hz1
    have hUe : U = [] := by rw [← HU.out, if_neg hz1]
    subst hUe
    clear hz1 hz
    go_wp2_with fail
    go_ret2
    exact ⟨_, rfl, World.ownsRow_nil _ _ _ _, X1.alloc _⟩
  | true =>
    have hz1 : D.2 = 0 := by simpa using hz
    have hUe : U = undoL fs l := by rw [← HU.out, if_pos hz1]
    obtain ⟨hc, hr, hh, hfit, _, _, _⟩ := HAP.out (by rw [HD.out]; exact hz1)
    have h16 := (repo_sum hr).1
    have HC := Lib.hid hc
    have HR := Lib.hid hr
    have HFIT := Lib.hid (fun (x : Fl) hx => List.all_eq_true.1 hfit x hx)
    have HUE := Lib.hid hUe
    rw [hz1]
    have HZ := Lib.hid hz1
    clear hz hz1 hUe hc hr hh hfit HAP HU HD
    have x1a := x1.alloc (.cells #[.slice a1 D.1.length c1] 24)
    have X1a := X1.alloc (.cells #[.slice a1 D.1.length c1] 24)
    have b1 := x1a.keeps b0
    have cb := block_cell b1 0
    have cb : (w1.alloc (.cells #[.slice a1 D.1.length c1] 24)).cell? ⟨w.heap.size, 0, none⟩ = some (.slice ao fs.length cap) := by rw [cb]; rfl
    clear b01 x1
    have HF2 := Lib.hid (HF.out.ext x1a)
    have HE2 := Lib.hid (HE.out.ext x1a)
    clear HF HE
    have hG : w.heap.size < (w1.alloc (.cells #[.slice a1 D.1.length c1] 24)).heap.size := by have := X1a.size; have := block_lt b1; omega
    clear x1a b0
    obtain ⟨ao', cap', e1, _, _, _, gF⟩ := HF2.out.opened
    simp only [Value.slice.injEq] at e1
    obtain ⟨rfl, _, rfl⟩ := e1
    have GF := Lib.hid gF
    clear gF
    go_wp2_with fail
    generalize w1.alloc (.cells #[.slice a1 D.1.length c1] 24) = w2 at *
    go_loopg [8, 27] fs.length (fun g s8 s27 wr => ∃ (k : Nat), k ≤ fs.length ∧ fs.length - k ≤ g ∧ s27 = .int .i64 (k : Int) ∧ (undoL (fs.take k) l).length ≤ k * 1000000 ∧ wr.ownsRow w2.heap.size 40 4 s8 (undoL (fs.take k) l).length ((undoL (fs.take k) l).flatMap edC) ∧ Ext w2 wr)
    case atStart => exact ⟨0, by omega, by omega, rfl, by simp [undoL], World.ownsRow_nil _ _ _ _, Ext.refl _⟩
    case round =>
      obtain ⟨k, hk, hgk, rfl, hlen, own, xr⟩ := hrel
      by_cases hlt : k < fs.length
      · obtain ⟨pb, o, rfl, e0, e1⟩ := GF.out k hlt
        have e0 := xr.cell e0
        have e1 := xr.cell e1
        have HTK := Lib.hid (undoL_take (l := l) hlt)
        have hok := HF2.out.ok _ (List.getElem_mem hlt)
        have hfit := HFIT.out _ (List.getElem_mem hlt)
        have hokf := ok_of HC.out hfit
        have hall := chkR_mem (ofL_chk fs[k].path HC.out)
        have hmf := fits_get (ofL_chk fs[k].path HC.out) hfit
        have hml := ofL_len l fs[k].path
        generalize fs[k] = f at *
        generalize undoL (fs.take k) l = O at *
        have HALL := Lib.hid hall
        have HMF := Lib.hid hmf
        clear hall hmf hfit hokf
        have bF := blk_old (o := .cells #[.int .i64 0] 3) (heap_alloc_new wr (.cells #[.string f.path, .string f.text] 42))
        have bM := blk_new (w := wr.alloc (.cells #[.string f.path, .string f.text] 42)) (b := wr.heap.size + 1) (o := .cells #[.int .i64 0] 3) (by simp)
        have xrA : Ext w2 ((wr.alloc (.cells #[.string f.path, .string f.text] 42)).alloc (.cells #[.int .i64 0] 3)) := (xr.alloc _).alloc _
        have own := (own.alloc (.cells #[.string f.path, .string f.text] 42)).alloc (.cells #[.int .i64 0] 3)
        have k0 := block_cell bF 0
        go_wp2_with fail
        generalize (wr.alloc (.cells #[.string f.path, .string f.text] 42)).alloc (.cells #[.int .i64 0] 3) = w3 at *
        have hMB : w2.heap.size < wr.heap.size + 1 := by have := xr.size; omega
        have hFM : wr.heap.size ≠ wr.heap.size + 1 := by omega
        generalize wr.heap.size + 1 = MB at *
        generalize wr.heap.size = FB at *
        refine Calls.mono (editOf2 w2 _ _ l f.path HE2.out (HE2.out.ext xrA)) ?_
        rintro ee w4 ⟨vm, rfl, hM, x4⟩
        have bF4 := x4.keeps bF
        have bM4 := x4.keeps bM
        have xr4 := xrA.trans x4
        have own4 := owns_ext own x4
        clear own bF bM xrA x4 xr k0
        generalize ofL l f.path = m at *
        obtain ⟨am, cm, rfl, bm1, mm1, zm1, gM⟩ := hM.opened
        have GM := Lib.hid gM
        clear gM
        go_wp2_with fail
        go_loopg [8, 37] m.length (fun g s8 s37 wr => ∃ (j : Nat), j ≤ m.length ∧ m.length - j ≤ g ∧ s37 = .int .i64 (j : Int) ∧ wr.ownsRow w2.heap.size 40 4 s8 (O.length + j) ((O ++ undoFrom f 0 (m.take j)).flatMap edC) ∧ wr.heap[FB]? = some (.cells #[.string f.path, .string f.text] 42 (0, 0)) ∧ wr.heap[MB]? = some (.cells #[.int .i64 (mvL (m.take j))] 3 (0, 0)) ∧ Ext w2 wr)
        case atStart => exact ⟨0, by omega, by omega, rfl, by simpa [undoFrom] using own4, bF4, bM4, xr4⟩
        case round =>
          clear own4 bF4 bM4 xr4
          obtain ⟨j, hj, hgj, rfl, own, bF, bM, xr⟩ := hrel
          by_cases hjl : j < m.length
          · obtain ⟨pb2, o2, rfl, c0, c1, c2, c3⟩ := GM.out j hjl
            have c0 := xr.cell c0
            have c1 := xr.cell c1
            have c2 := xr.cell c2
            have c3 := xr.cell c3
            have htk : m.take (j + 1) = m.take j ++ [m[j]] := List.take_succ_eq_append_getElem hjl
            have hal := okOne_all (HALL.out _ (List.getElem_mem hjl))
            have hft := HMF.out _ (List.getElem_mem hjl)
            have hmv := mv_le (m.take j) (fun e he => HALL.out e (List.mem_of_mem_take he))
            rw [List.length_take, Nat.min_eq_left hj] at hmv
            have HTJ := Lib.hid htk
            clear htk
            generalize m[j] = e at *
            have HU1 := Lib.hid (show undoFrom f 0 (m.take (j + 1)) = undoFrom f 0 (m.take j) ++ [undoE f (mvL (m.take j)) e] by rw [HTJ.out, undo_snoc, Int.zero_add])
            have HM1 := Lib.hid (show mvL (m.take (j + 1)) = mvL (m.take j) + (e.text.size - e.n) by rw [HTJ.out, mv_snoc])
            generalize hmm : mvL (m.take j) = mv at *
            obtain ⟨h1, h2, h3, h4, h5, _⟩ := hal
            have hm1 : -4398046511104 ≤ mv := by omega
            have hm2 : mv ≤ 4398046511104 := by omega
            have hs1 : e.at_ ≤ e.at_ + e.n := by omega
            have hs2 : e.at_ + e.n ≤ (f.text.size : Int) := hft
            have hs0 : 0 ≤ e.at_ + e.n := by omega
            have hwk : IntKind.i64.wrap (e.at_ + e.n) = e.at_ + e.n := wrap64_small (by omega) (by omega)
            have bE := heap_alloc_new wr (.cells (edC e).toArray 40)
            have bF := blk_old (o := .cells (edC e).toArray 40) bF
            have hEM : wr.heap.size ≠ MB := fun q => by have := block_lt bM; omega
            have bM := blk_old (o := .cells (edC e).toArray 40) bM
            have xrA := xr.alloc (.cells (edC e).toArray 40)
            have hneE : Value.ownBlock _ ≠ some wr.heap.size := fun q => Nat.lt_irrefl _ (own.lt _ q).2
            have own := own.alloc (.cells (edC e).toArray 40)
            have hbl := fun w => build_one (P := Tryd.prog) w 25 40 4 Tryd.underlying25 infoEd4 (by omega) (by omega) (edC (undoE f mv e)) rfl
            have hneM : Value.ownBlock _ ≠ some MB := own_neT own bM (by decide)
            go_wp2_with fail
            show Code.wp _ _ _ _ (wr.alloc (.cells (edC e).toArray 40))
            generalize wr.alloc (.cells (edC e).toArray 40) = w5 at *
            generalize wr.heap.size = EB at *
            refine wp_region_S (fun v => Ext w2 v ∧ v.heap[FB]? = some (.cells #[.string f.path, .string f.text] 42 (0, 0)) ∧ v.heap[EB]? = some (.cells (edC e).toArray 40 (0, 0))) (by kernel_rfl) (fun w' h => ⟨xrA.trans h, h.keeps bF, h.keeps bE⟩) fun wd hqd xd hHeld => ?_
            refine wpAnyH_take (i := 0) (v := ?vu0) rfl (by kernel_rfl) (by kernel_rfl) (by kernel_rfl) (fun _ _ _ h => h) (Or.inl ⟨by rfl, ?hyu0⟩) hHeld ?_
            case hyu0 => (intro w hSw; go_simp; try with_reducible rfl)
            simp only [Act.put, List.setIfInBounds_toArray, List.set_cons_zero, List.set_cons_succ, List.getElem_toArray, List.getElem_cons_zero, List.getElem_cons_succ]
            refine wpAnyH_take (i := 1) (v := ?vu1) rfl (by kernel_rfl) (by kernel_rfl) (by kernel_rfl) (fun _ _ _ h => h) (Or.inl ⟨by rfl, ?hyu1⟩) hHeld ?_
            case hyu1 => (intro w hSw; go_simp; try with_reducible rfl)
            simp only [Act.put, List.setIfInBounds_toArray, List.set_cons_zero, List.set_cons_succ, List.getElem_toArray, List.getElem_cons_zero, List.getElem_cons_succ]
            refine wpAnyH_take (i := 2) (v := ?vu2) rfl (by kernel_rfl) (by kernel_rfl) (by kernel_rfl) (fun _ _ _ h => h) (Or.inl ⟨by rfl, ?hyu2⟩) hHeld ?_
            case hyu2 => (intro w hSw; have k0 := block_cell hSw.2.1 0; go_simp; try with_reducible rfl)
            simp only [Act.put, List.setIfInBounds_toArray, List.set_cons_zero, List.set_cons_succ, List.getElem_toArray, List.getElem_cons_zero, List.getElem_cons_succ]
            refine wpAnyH_take (i := 3) (v := ?vu3) rfl (by kernel_rfl) (by kernel_rfl) (by kernel_rfl) (fun _ _ _ h => h) (Or.inl ⟨by rfl, ?hyu3⟩) hHeld ?_
            case hyu3 => (intro w hSw; go_simp; try with_reducible rfl)
            simp only [Act.put, List.setIfInBounds_toArray, List.set_cons_zero, List.set_cons_succ, List.getElem_toArray, List.getElem_cons_zero, List.getElem_cons_succ]
            refine wpAnyH_take (i := 4) rfl (by kernel_rfl) (by kernel_rfl) (by kernel_rfl) (fun _ _ _ h => h) (yieldsIf_load_mid (by rfl) _ _ rfl _ _ rfl (edC e) _ (fun w h => rangeAt_of h.2.2) Tryd.underlying40 rfl (by kernel_rfl)) hHeld ?_
            simp only [Act.put, List.setIfInBounds_toArray, List.set_cons_zero, List.set_cons_succ, List.getElem_toArray, List.getElem_cons_zero, List.getElem_cons_succ]
            refine wpAnyH_take (i := 6) (v := ?vu6) rfl (by kernel_rfl) (by kernel_rfl) (by kernel_rfl) (fun _ _ _ h => h) (Or.inl ⟨by rfl, ?hyu6⟩) hHeld ?_
            case hyu6 => (intro w hSw; go_simp; try with_reducible rfl)
            simp only [Act.put, List.setIfInBounds_toArray, List.set_cons_zero, List.set_cons_succ, List.getElem_toArray, List.getElem_cons_zero, List.getElem_cons_succ]
            refine wpAnyH_take (i := 7) (v := ?vu7) rfl (by kernel_rfl) (by kernel_rfl) (by kernel_rfl) (fun _ _ _ h => h) (Or.inl ⟨by rfl, ?hyu7⟩) hHeld ?_
            case hyu7 => (intro w hSw; have k0 : w.cell? ⟨EB, 3, none⟩ = some (.string e.text) := block_cell hSw.2.2 _; go_simp; try with_reducible rfl)
            simp only [Act.put, List.setIfInBounds_toArray, List.set_cons_zero, List.set_cons_succ, List.getElem_toArray, List.getElem_cons_zero, List.getElem_cons_succ]
            refine wpAnyH_take (i := 8) (v := ?vu8) rfl (by kernel_rfl) (by kernel_rfl) (by kernel_rfl) (fun _ _ _ h => h) (Or.inl ⟨by rfl, ?hyu8⟩) hHeld ?_
            case hyu8 => (intro w hSw; go_simp; try with_reducible rfl)
            simp only [Act.put, List.setIfInBounds_toArray, List.set_cons_zero, List.set_cons_succ, List.getElem_toArray, List.getElem_cons_zero, List.getElem_cons_succ]
            refine wpAnyH_take (i := 9) (v := ?vu9) rfl (by kernel_rfl) (by kernel_rfl) (by kernel_rfl) (fun _ _ _ h => h) (Or.inl ⟨by rfl, ?hyu9⟩) hHeld ?_
            case hyu9 => (intro w hSw; go_simp; try with_reducible rfl)
            simp only [Act.put, List.setIfInBounds_toArray, List.set_cons_zero, List.set_cons_succ, List.getElem_toArray, List.getElem_cons_zero, List.getElem_cons_succ]
            refine wpAnyH_take (i := 10) (v := ?vu10) rfl (by kernel_rfl) (by kernel_rfl) (by kernel_rfl) (fun _ _ _ h => h) (Or.inl ⟨by rfl, ?hyu10⟩) hHeld ?_
            case hyu10 => (intro w hSw; have k0 := block_cell hSw.2.1 1; go_simp; try with_reducible rfl)
            simp only [Act.put, List.setIfInBounds_toArray, List.set_cons_zero, List.set_cons_succ, List.getElem_toArray, List.getElem_cons_zero, List.getElem_cons_succ]
            refine wpAnyH_take (i := 11) (v := ?vu11) rfl (by kernel_rfl) (by kernel_rfl) (by kernel_rfl) (fun _ _ _ h => h) (Or.inl ⟨by rfl, ?hyu11⟩) hHeld ?_
            case hyu11 => (intro w hSw; go_simp; try with_reducible rfl)
            simp only [Act.put, List.setIfInBounds_toArray, List.set_cons_zero, List.set_cons_succ, List.getElem_toArray, List.getElem_cons_zero, List.getElem_cons_succ]
            refine wpAnyH_take (i := 12) (v := ?vu12) rfl (by kernel_rfl) (by kernel_rfl) (by kernel_rfl) (fun _ _ _ h => h) (Or.inl ⟨by rfl, ?hyu12⟩) hHeld ?_
            case hyu12 => (intro w hSw; have k0 : w.cell? ⟨EB, 1, none⟩ = some (.int .i64 e.at_) := block_cell hSw.2.2 _; go_simp; try with_reducible rfl)
            simp only [Act.put, List.setIfInBounds_toArray, List.set_cons_zero, List.set_cons_succ, List.getElem_toArray, List.getElem_cons_zero, List.getElem_cons_succ]
            refine wpAnyH_take (i := 13) (v := ?vu13) rfl (by kernel_rfl) (by kernel_rfl) (by kernel_rfl) (fun _ _ _ h => h) (Or.inl ⟨by rfl, ?hyu13⟩) hHeld ?_
            case hyu13 => (intro w hSw; go_simp; try with_reducible rfl)
            simp only [Act.put, List.setIfInBounds_toArray, List.set_cons_zero, List.set_cons_succ, List.getElem_toArray, List.getElem_cons_zero, List.getElem_cons_succ]
            refine wpAnyH_take (i := 14) (v := ?vu14) rfl (by kernel_rfl) (by kernel_rfl) (by kernel_rfl) (fun _ _ _ h => h) (Or.inl ⟨by rfl, ?hyu14⟩) hHeld ?_
            case hyu14 => (intro w hSw; have k0 : w.cell? ⟨EB, 1, none⟩ = some (.int .i64 e.at_) := block_cell hSw.2.2 _; go_simp; try with_reducible rfl)
            simp only [Act.put, List.setIfInBounds_toArray, List.set_cons_zero, List.set_cons_succ, List.getElem_toArray, List.getElem_cons_zero, List.getElem_cons_succ]
            refine wpAnyH_take (i := 15) (v := ?vu15) rfl (by kernel_rfl) (by kernel_rfl) (by kernel_rfl) (fun _ _ _ h => h) (Or.inl ⟨by rfl, ?hyu15⟩) hHeld ?_
            case hyu15 => (intro w hSw; go_simp; try with_reducible rfl)
            simp only [Act.put, List.setIfInBounds_toArray, List.set_cons_zero, List.set_cons_succ, List.getElem_toArray, List.getElem_cons_zero, List.getElem_cons_succ]
            refine wpAnyH_take (i := 16) (v := ?vu16) rfl (by kernel_rfl) (by kernel_rfl) (by kernel_rfl) (fun _ _ _ h => h) (Or.inl ⟨by rfl, ?hyu16⟩) hHeld ?_
            case hyu16 => (intro w hSw; have k0 : w.cell? ⟨EB, 2, none⟩ = some (.int .i64 e.n) := block_cell hSw.2.2 _; go_simp; try with_reducible rfl)
            simp only [Act.put, List.setIfInBounds_toArray, List.set_cons_zero, List.set_cons_succ, List.getElem_toArray, List.getElem_cons_zero, List.getElem_cons_succ]
            refine wpAnyH_take (i := 17) (v := ?vu17) rfl (by kernel_rfl) (by kernel_rfl) (by kernel_rfl) (fun _ _ _ h => h) (Or.inl ⟨by rfl, ?hyu17⟩) hHeld ?_
            case hyu17 => (intro w hSw; go_simp; try with_reducible rfl)
            simp only [Act.put, List.setIfInBounds_toArray, List.set_cons_zero, List.set_cons_succ, List.getElem_toArray, List.getElem_cons_zero, List.getElem_cons_succ]
            refine wpAnyH_take (i := 18) (v := ?vu18) rfl (by kernel_rfl) (by kernel_rfl) (by kernel_rfl) (fun _ _ _ h => h) (Or.inl ⟨by rfl, ?hyu18⟩) hHeld ?_
            case hyu18 => (intro w hSw; go_simp; try with_reducible rfl)
            simp only [Act.put, List.setIfInBounds_toArray, List.set_cons_zero, List.set_cons_succ, List.getElem_toArray, List.getElem_cons_zero, List.getElem_cons_succ]
            have bMd := xd.keeps bM
            have ownd := owns_ext own xd
            refine wpAnyH_all (rs := [5]) (by kernel_rfl) (by simp) ?_
            intro i hi; obtain rfl : i = 5 := by simpa using hi
            refine wpOp_run rfl (by rfl) ?_
            go_simp
            refine Calls.mono (undoStep _ e MB mv bMd h1 h2 h3 h4 h5 hm1 hm2) ?_
            rintro ee w6 ⟨rfl, gr6, bM6⟩
            have hHeld := (⟨hHeld.1.grown gr6 (fun k hk => by cases hk; exact Nat.le_of_lt hMB), grown_other gr6 hHeld.2.1 hFM, grown_other gr6 hHeld.2.2 hEM⟩ : Ext w2 w6 ∧ _ ∧ _)
            have own6 := ownd.kept gr6 (.inr hneM)
            clear ownd bMd
            refine ⟨hHeld, ?_⟩
            try simp only [Act.put, List.setIfInBounds_toArray, List.set_cons_zero, List.set_cons_succ, List.getElem_toArray, List.getElem_cons_zero, List.getElem_cons_succ]
            refine wpAnyH_take (i := 19) (v := ?vu19) rfl (by kernel_rfl) (by kernel_rfl) (by kernel_rfl) (fun _ _ _ h => h) (Or.inl ⟨by rfl, ?hyu19⟩) hHeld ?_
            case hyu19 => (intro w hSw; go_simp; try with_reducible rfl)
            simp only [Act.put, List.setIfInBounds_toArray, List.set_cons_zero, List.set_cons_succ, List.getElem_toArray, List.getElem_cons_zero, List.getElem_cons_succ]
            refine wpAnyH_all (rs := [20]) (by kernel_rfl) (by simp) ?_
            intro i hi; obtain rfl : i = 20 := by simpa using hi
            refine wpOp_run rfl (by rfl) ?_
            refine wp_buildOne 25 (.tmp 60) rfl (edC (undoE f mv e)) (by rfl) (hbl _) ?_
            have hHeld := And.intro (hHeld.1.alloc (.cells (edC (undoE f mv e)).toArray 40)) (And.intro (blk_old (o := .cells (edC (undoE f mv e)).toArray 40) hHeld.2.1) (blk_old (o := .cells (edC (undoE f mv e)).toArray 40) hHeld.2.2))
            have own6 := own6.alloc (.cells (edC (undoE f mv e)).toArray 40)
            refine ⟨hHeld, ?_⟩
            try simp only [Act.put, List.setIfInBounds_toArray, List.set_cons_zero, List.set_cons_succ, List.getElem_toArray, List.getElem_cons_zero, List.getElem_cons_succ]
            refine wpAnyH_all (rs := [21]) (by kernel_rfl) (by simp) ?_
            intro i hi; obtain rfl : i = 21 := by simpa using hi
            refine wpOp_run rfl (by rfl) ?_
            refine wp_appO (w := w6.alloc (.cells (edC (undoE f mv e)).toArray 40)) tyE (.tmp 41) (.tmp 61) rfl w2.heap.size _ (O.length + j) _ own6 (by rfl) _ 1 (edC (undoE f mv e)) (sl_one_new (w := w6) (n := 4) (e := 40) (Q := edC (undoE f mv e)) rfl rfl) (by rfl) (edC_one1 _) (by omega) (by omega) hHeld.1.size ?_
            intro v7 w7 own7 gr7
            have hH1 := own_base own6 gr7 hHeld.1 (Nat.le_refl _)
            have nF := own_neT own6 hHeld.2.1 (by decide)
            have bM7 := blk_old (o := .cells (edC (undoE f mv e)).toArray 40) bM6
            have nM := own_neT own6 bM7 (by decide)
            have bE7 := (gr7.block EB (block_lt hHeld.2.2) (Ne.symm hneE)).trans hHeld.2.2
            have bF7 := (gr7.block FB (block_lt hHeld.2.1) (Ne.symm nF)).trans hHeld.2.1
            have bM7 := (gr7.block MB (block_lt bM7) (Ne.symm nM)).trans bM7
            clear own6 gr7 bM6
            have hHeld := And.intro hH1 (And.intro bF7 bE7)
            refine ⟨hHeld, ?_⟩
            try simp only [Act.put, List.setIfInBounds_toArray, List.set_cons_zero, List.set_cons_succ, List.getElem_toArray, List.getElem_cons_zero, List.getElem_cons_succ]
            refine wpAnyH_take (i := 22) (v := ?vu22) rfl (by kernel_rfl) (by kernel_rfl) (by kernel_rfl) (fun _ _ _ h => h) (Or.inl ⟨by rfl, ?hyu22⟩) hHeld ?_
            case hyu22 => (intro w hSw; go_simp; try with_reducible rfl)
            simp only [Act.put, List.setIfInBounds_toArray, List.set_cons_zero, List.set_cons_succ, List.getElem_toArray, List.getElem_cons_zero, List.getElem_cons_succ]
            refine wpAnyH_done (by kernel_rfl) ?_ _
            refine NoPanic.normal ?_
            go_wp2_with fail
            go_roundg (m.length - (j + 1))
            case measure => omega
            case rel => exact ⟨j + 1, by omega, by omega, by go_num, by rw [HU1.out, ← List.append_assoc, List.flatMap_append]; simpa [Nat.add_assoc] using own7, bF7, by rw [HM1.out]; exact bM7, hH1⟩
          · obtain rfl : j = m.length := by omega
            rw [List.take_length] at own
            have htl : (O ++ undoFrom f 0 m).length = O.length + m.length := by rw [List.length_append, undo_len]
            go_wp2_with fail
            go_roundg (fs.length - (k + 1))
            case measure => omega
            case rel => exact ⟨k + 1, by omega, by omega, by go_num, by rw [HTK.out, htl]; omega, by rw [HTK.out, htl]; exact own, xr⟩
      · obtain rfl : k = fs.length := by omega
        rw [List.take_length] at own hlen
        go_wp2_with fail
        go_ret2
        rw [HUE.out, HZ.out]
        refine ⟨_, ?_, ownsRow_base own (Nat.le_of_lt hG), X1a.trans xr⟩
        rfl
end Go.Proofs.YtgcbkhmaabmdjaaDoor
