/- The walk of the reference's Apply. -/
import Derived.Test.YtgcbkhmaabmdjaaDoorFlK
import Derived.Test.YtgcbkhmaabmdjaaDoorEdRo
namespace Go.Proofs.YtgcbkhmaabmdjaaDoor
open Go.RowKit
set_option linter.unusedVariables false
set_option linter.unusedSimpArgs false

theorem flC_one1 (x : Fl) : ∀ u ∈ flC x, u.oneCell' = true := by
  intro u hu
  simp only [flC, List.mem_cons, List.not_mem_nil, or_false] at hu
  rcases hu with rfl | rfl <;> rfl
theorem getL_has (fs : List Fl) (p : ByteArray) : (getL fs p).isSome = hasB fs p := by
  unfold getL hasB
  rw [Bool.eq_iff_iff, List.find?_isSome, List.any_eq_true]
theorem getV_is (fs : List Fl) (p : ByteArray) : ∃ t, getV (getL fs p) = .tuple #[.string t, .bool (hasB fs p)] := ⟨_, by unfold getV; rw [getL_has]⟩
theorem take_flat {l : List Ed} {fs : List Fl} {k : Nat} (h : k < fs.length) : (((fs.map (updF l)).take (k + 1)).flatMap flC) = ((fs.map (updF l)).take k).flatMap flC ++ flC (updF l fs[k]) := by
  rw [List.take_succ_eq_append_getElem (by rw [List.length_map]; exact h), List.getElem_map, List.flatMap_append]
  simp

set_option maxHeartbeats 8000000 in
set_option maxRecDepth 100000 in
theorem refApply (w : World) (v : Value) (fs : List Fl) (vl : Value) (l : List Ed) (hF : IsF w v fs) (hE : IsE w vl l) (hl : l.length ≤ 1000000) (hc : chk l = true) (hr : repoB fs = true) :
    Calls Tryd.prog 16 #[.agg #[v], vl] w (ApEnd (applyL fs l) w) := by
  obtain ⟨D, hD⟩ : ∃ D, applyL fs l = D := ⟨_, rfl⟩
  rw [hD]
  unfold applyL at hD
  have HD := Lib.hid hD
  have HC := Lib.hid hc
  have HR := Lib.hid hr
  clear hD hc hr
  have b0 := blk_old (o := .cells #[.slice none 0 0] 24) (heap_alloc_new w (.cells #[v] 24))
  have bR := blk_new (w := w.alloc (.cells #[v] 24)) (b := w.heap.size + 1) (o := .cells #[.slice none 0 0] 24) (by simp)
  have X0 : Ext w ((w.alloc (.cells #[v] 24)).alloc (.cells #[.slice none 0 0] 24)) := ((Ext.refl w).alloc _).alloc _
  have HF := Lib.hid (hF.ext X0)
  have HE := Lib.hid (hE.ext X0)
  obtain ⟨ao, cap, rfl, _, _, _, _⟩ := hF.opened
  obtain ⟨ae, ce, rfl, be1, me1, ze1, ge1⟩ := (hE.ext X0).opened
  have GE := Lib.hid ge1
  clear hF hE ge1 ze1
  go_enter Tryd.func16, Tryd.ntmps16
  go_wp2_with fail
  generalize (w.alloc (.cells #[.slice ao fs.length cap] 24)).alloc (.cells #[.slice none 0 0] 24) = w0 at *
  generalize hG : w.heap.size = G at *
  have hfin : ∀ (W : World) (c : Array Value), W.heap[G + 1]? = some (.cells c 24 (0, 0)) → ∀ u, (W.setRow (G + 1) #[u]).heap[G + 1]? = some (.cells #[u] 24 (0, 0)) := fun W c h u => setRow_heap _ _ _ _ _ _ h
  go_loopg [19] l.length (fun g s19 wr => ∃ k : Nat, k ≤ l.length ∧ l.length - k ≤ g ∧ s19 = .int .i64 (k : Int) ∧ (∀ j (hj : j < l.length), j < k → hasB fs l[j].path = true) ∧ Ext w0 wr)
  case atStart => exact ⟨0, by omega, by omega, rfl, fun j _ hj => absurd hj (Nat.not_lt_zero _), Ext.refl _⟩
  case round =>
    obtain ⟨k, hk, hg, rfl, hall, xr⟩ := hrel
    have HALL := Lib.hid hall
    clear hall
    have bR3 := xr.keeps bR
    have b03 := xr.keeps b0
    by_cases hlt : k < l.length
    · obtain ⟨pb, o, rfl, e0, e1, e2, e3⟩ := GE.out k hlt
      have e0 := xr.cell e0
      have e1 := xr.cell e1
      have e2 := xr.cell e2
      have e3 := xr.cell e3
      generalize hx : l[k] = x at *
      have HX := Lib.hid hx
      clear hx
      have xa : Ext w0 (wr.alloc (.cells #[.string x.path, .int .i64 x.at_, .int .i64 x.n, .string x.text] 40)) := xr.alloc _
      have b04 := blk_old (o := .cells #[.string x.path, .int .i64 x.at_, .int .i64 x.n, .string x.text] 40) b03
      go_wp2_with ((with_reducible refine at_load 24 (.tmp 2) ?_); refine wpl_load (by rfl) 24 (.tmp 2) rfl G (by rfl) 24 #[.slice ao fs.length cap] (0, 0) _ b04 Tryd.underlying24 rfl (info1 _) ?_)
      refine Calls.mono (refGet _ _ fs x.path (HF.out.ext xa)) ?_
      rintro ee w3 ⟨rfl, x3⟩
      have X3 := xa.trans x3
      obtain ⟨tx, htx⟩ := getV_is fs x.path
      rw [htx]
      clear htx
      have bR4 := X3.keeps bR
      cases hh : hasB fs x.path with
      | false =>
        have hne : (l.all fun e => hasB fs e.path) = false := by
          rw [List.all_eq_false]
          exact ⟨l[k], List.getElem_mem hlt, by rw [HX.out, hh]; decide⟩
        have hDe : D = ([], 4) := by rw [← HD.out, HC.out, HR.out, hne]; rfl
        subst hDe
        clear hne hh
        go_wp2_with ((with_reducible refine at_store 24 (.tmp 4) (.tmp 32) ?_); refine wpl_store (by rfl) 24 (.tmp 4) (.tmp 32) rfl (G + 1) #[.slice none 0 0] (by rfl) (by rfl) 24 _ bR4 (info1 _) rfl nil_one ?_)
        refine bodyPost_ret (results_cellT rfl _ _ (G + 1) _ _ _ _ (by rfl) (hfin _ _ bR4 _) Tryd.underlying24 rfl (info1 _)) rfl ?_
        exact ap_err ((X0.trans X3).grown grown_row1 (fun k hk => by cases hk; rw [hG]; omega)) 4
      | true =>
        have HH := Lib.hid hh
        clear hh
        go_wp2_with fail
        go_roundg (l.length - (k + 1))
        case measure => omega
        case rel =>
          refine ⟨k + 1, by omega, by omega, by go_num, fun j hj hj1 => ?_, X3⟩
          by_cases e : j = k
          · subst e; rw [HX.out]; exact HH.out
          · exact HALL.out j hj (by omega)
    · obtain rfl : k = l.length := by omega
      have hall : (l.all fun e => hasB fs e.path) = true := by
        rw [List.all_eq_true]
        intro e he
        obtain ⟨j, hj, rfl⟩ := List.getElem_of_mem he
        exact HALL.out j hj hj
      have HA := Lib.hid hall
      clear hall HALL bR b0
      have h16 := (repo_sum HR.out).1
      have bS := heap_alloc_new wr (.cells #[.slice none 0 0] 24)
      have xs5 : Ext wr (wr.alloc (.cells #[.slice none 0 0] 24)) := (Ext.refl wr).alloc _
      have bR5 := xs5.keeps bR3
      have b05 := xs5.keeps b03
      have X5 := xr.trans xs5
      have HF2 := Lib.hid HF.out
      have HE2 := Lib.hid HE.out
      have hG1 : G + 1 < wr.heap.size := block_lt bR3
      have hS4 : w0.heap.size ≤ wr.heap.size := xr.size
      have cb : (wr.alloc (.cells #[.slice none 0 0] 24)).cell? ⟨G, 0, none⟩ = some (.slice ao fs.length cap) := by rw [block_cell b05]; rfl
      clear HF HE b03 bR3 xr GE
      obtain ⟨ao', cap', e1, _, _, _, gF⟩ := HF2.out.opened
      simp only [Value.slice.injEq] at e1
      obtain ⟨rfl, _, rfl⟩ := e1
      have GF := Lib.hid gF
      clear gF
      go_wp2_with fail
      generalize hw5 : wr.alloc (.cells #[.slice none 0 0] 24) = w5 at *
      clear hw5
      generalize wr.heap.size = S at *
      go_loopg [11, 12, 37] fs.length (fun g s11 s12 s37 wr => ∃ (k A : Nat) (Lg : Bool) (a4 : Option Addr) (c4 : Nat), k ≤ fs.length ∧ fs.length - k ≤ g ∧ s37 = .int .i64 (k : Int) ∧ s11 = .int .i64 (A : Int) ∧ s12 = .bool Lg ∧ A = sumT ((fs.map (updF l)).take k) ∧ Lg = longB ((fs.map (updF l)).take k) ∧ (∀ j (hj : j < fs.length), j < k → fitB l fs[j] = true) ∧ A ≤ k * 5000000000 ∧
        wr.ownsRow w0.heap.size 42 2 (.slice a4 k c4) k (((fs.map (updF l)).take k).flatMap flC) ∧ wr.heap[S]? = some (.cells #[.slice a4 k c4] 24 (0, 0)) ∧ wr.heap[G + 1]? = some (.cells #[.slice none 0 0] 24 (0, 0)) ∧ Ext w0 wr)
      case atStart => exact ⟨0, 0, false, none, 0, by omega, by omega, rfl, rfl, rfl, rfl, rfl, fun j _ hj => absurd hj (Nat.not_lt_zero _), by omega, World.ownsRow_nil _ _ _ _, bS, bR5, X5⟩
      case round =>
        clear bS bR5 X5
        obtain ⟨k, A, Lg, a4, c4, hk, hgk, rfl, rfl, rfl, hA, hL, hfit, hAb, own, bS, bR, xw⟩ := hrel
        have HFIT := Lib.hid hfit
        have HAA := Lib.hid hA
        have HLL := Lib.hid hL
        clear hfit hA hL
        have cS := block_cell bS 0
        have cS : wr.cell? ⟨S, 0, none⟩ = some (.slice a4 k c4) := by rw [cS]; rfl
        have hSG : S ≠ G + 1 := by omega
        by_cases hlt : k < fs.length
        · obtain ⟨pb, o, rfl, c0, c1⟩ := GF.out k hlt
          have c0 := xw.cell c0
          have c1 := xw.cell c1
          have hts : fs[k].text.size ≤ 16384 := Nat.le_trans (text_le (List.getElem_mem hlt)) (repo_sum HR.out).2
          have hupd : fitB l fs[k] = true → (updF l fs[k]).text.size ≤ fs[k].text.size + l.length * 4096 := fun q => upd_le HC.out q
          have hno : fitB l fs[k] = false → D = ([], 2) := fun q => by
            have hne : (fs.all (fitB l)) = false := by
              rw [List.all_eq_false]
              exact ⟨fs[k], List.getElem_mem hlt, by rw [q]; decide⟩
            rw [← HD.out, HC.out, HR.out, HA.out, hne]; rfl
          have htk : (fs.map (updF l)).take (k + 1) = (fs.map (updF l)).take k ++ [updF l fs[k]] := by
            rw [List.take_succ_eq_append_getElem (by rw [List.length_map]; exact hlt), List.getElem_map]
          have hfl := take_flat (l := l) hlt
          have HTK := Lib.hid htk
          have HNO := Lib.hid hno
          have HUPD := Lib.hid hupd
          have HFL := Lib.hid hfl
          clear htk hno hupd hfl
          generalize hx : fs[k] = x at *
          have HX := Lib.hid hx
          clear hx
          have hall := chkR_mem (ofL_chk x.path HC.out)
          have hro : refOneR x.text (ofL l x.path) = (if fitB l x = true then (updF l x).text else ByteArray.empty, fitB l x) := by
            unfold refOneR fitB
            rw [← fit_same _ _ hall]
            cases fitsL (ofL l x.path) x.text.size <;> rfl
          have HRO := Lib.hid hro
          have HOKF := Lib.hid (fun q => ok_of (n := x.text.size) HC.out ((fit_same _ _ hall).trans q))
          have HALL := Lib.hid hall
          have HLM := Lib.hid (Nat.le_trans (ofL_len l x.path) hl)
          have HOF := Lib.hid (ofF_chk x.path HC.out)
          clear hro hall
          have bX := heap_alloc_new wr (.cells #[.string x.path, .string x.text] 42)
          have xa : Ext w0 (wr.alloc (.cells #[.string x.path, .string x.text] 42)) := xw.alloc _
          have xra := xa
          have c0 : (wr.alloc (.cells #[.string x.path, .string x.text] 42)).cell? ⟨wr.heap.size, 0, none⟩ = some (.string x.path) := by rw [block_cell bX]; rfl
          have c1 : (wr.alloc (.cells #[.string x.path, .string x.text] 42)).cell? ⟨wr.heap.size, 1, none⟩ = some (.string x.text) := by rw [block_cell bX]; rfl
          have ywa : Ext wr (wr.alloc (.cells #[.string x.path, .string x.text] 42)) := (Ext.refl wr).alloc _
          go_wp2_with fail
          refine wp_region_ext (by kernel_rfl) fun wd hqd xd hHeld => ?_
          have c0d := xd.cell c0
          have c1d := xd.cell c1
          refine wpAnyH_take (i := 0) (v := ?va0) rfl (by kernel_rfl) (by kernel_rfl) (by kernel_rfl) (fun _ _ _ h => h) (Or.inl ⟨by rfl, ?hya0⟩) hHeld ?_
          case hya0 => (intro w hSw; go_simp; try with_reducible rfl)
          simp only [Act.put, List.setIfInBounds_toArray, List.set_cons_zero, List.set_cons_succ, List.getElem_toArray, List.getElem_cons_zero, List.getElem_cons_succ]
          refine wpAnyH_take (i := 1) (v := ?va1) rfl (by kernel_rfl) (by kernel_rfl) (by kernel_rfl) (fun _ _ _ h => h) (Or.inl ⟨by rfl, ?hya1⟩) hHeld ?_
          case hya1 => (intro w hSw; have k0 := hSw.cell c1d; go_simp; try with_reducible rfl)
          simp only [Act.put, List.setIfInBounds_toArray, List.set_cons_zero, List.set_cons_succ, List.getElem_toArray, List.getElem_cons_zero, List.getElem_cons_succ]
          refine wpAnyH_take (i := 2) (v := ?va2) rfl (by kernel_rfl) (by kernel_rfl) (by kernel_rfl) (fun _ _ _ h => h) (Or.inl ⟨by rfl, ?hya2⟩) hHeld ?_
          case hya2 => (intro w hSw; go_simp; try with_reducible rfl)
          simp only [Act.put, List.setIfInBounds_toArray, List.set_cons_zero, List.set_cons_succ, List.getElem_toArray, List.getElem_cons_zero, List.getElem_cons_succ]
          refine wpAnyH_take (i := 3) (v := ?va3) rfl (by kernel_rfl) (by kernel_rfl) (by kernel_rfl) (fun _ _ _ h => h) (Or.inl ⟨by rfl, ?hya3⟩) hHeld ?_
          case hya3 => (intro w hSw; go_simp; try with_reducible rfl)
          simp only [Act.put, List.setIfInBounds_toArray, List.set_cons_zero, List.set_cons_succ, List.getElem_toArray, List.getElem_cons_zero, List.getElem_cons_succ]
          refine wpAnyH_take (i := 4) (v := ?va4) rfl (by kernel_rfl) (by kernel_rfl) (by kernel_rfl) (fun _ _ _ h => h) (Or.inl ⟨by rfl, ?hya4⟩) hHeld ?_
          case hya4 => (intro w hSw; have k0 := hSw.cell c0d; go_simp; try with_reducible rfl)
          simp only [Act.put, List.setIfInBounds_toArray, List.set_cons_zero, List.set_cons_succ, List.getElem_toArray, List.getElem_cons_zero, List.getElem_cons_succ]
          refine wpAnyH_all (rs := [5]) (by kernel_rfl) (by simp) ?_
          intro i hi; obtain rfl : i = 5 := by simpa using hi
          refine wpOp_run rfl (by rfl) ?_
          go_simp
          refine Calls.mono (refOf _ _ l x.path (HE2.out.ext (xra.trans xd)) hl) ?_
          rintro ee w5 ⟨vm, rfl, hM, x5⟩
          rw [HOF.out] at hM
          refine wpAnyH_call (x5) fun hHeld => ?_
          try simp only [Act.put, List.setIfInBounds_toArray, List.set_cons_zero, List.set_cons_succ, List.getElem_toArray, List.getElem_cons_zero, List.getElem_cons_succ]
          refine wpAnyH_all (rs := [6]) (by kernel_rfl) (by simp) ?_
          intro i hi; obtain rfl : i = 6 := by simpa using hi
          refine wpOp_run rfl (by rfl) ?_
          go_simp
          refine Calls.mono (refOne _ _ (ofL l x.path) x.text hM HALL.out HOKF.out HLM.out (by omega)) ?_
          rintro ee w6 ⟨rfl, x6⟩
          rw [HRO.out]
          refine wpAnyH_call (x6) fun hHeld => ?_
          try simp only [Act.put, List.setIfInBounds_toArray, List.set_cons_zero, List.set_cons_succ, List.getElem_toArray, List.getElem_cons_zero, List.getElem_cons_succ]
          refine wpAnyH_take (i := 7) (v := ?va7) rfl (by kernel_rfl) (by kernel_rfl) (by kernel_rfl) (fun _ _ _ h => h) (Or.inl ⟨by rfl, ?hya7⟩) hHeld ?_
          case hya7 => (intro w hSw; go_simp; try with_reducible rfl)
          simp only [Act.put, List.setIfInBounds_toArray, List.set_cons_zero, List.set_cons_succ, List.getElem_toArray, List.getElem_cons_zero, List.getElem_cons_succ]
          refine wpAnyH_take (i := 8) (v := ?va8) rfl (by kernel_rfl) (by kernel_rfl) (by kernel_rfl) (fun _ _ _ h => h) (Or.inl ⟨by rfl, ?hya8⟩) hHeld ?_
          case hya8 => (intro w hSw; go_simp; try with_reducible rfl)
          simp only [Act.put, List.setIfInBounds_toArray, List.set_cons_zero, List.set_cons_succ, List.getElem_toArray, List.getElem_cons_zero, List.getElem_cons_succ]
          refine wpAnyH_take (i := 9) (v := ?va9) rfl (by kernel_rfl) (by kernel_rfl) (by kernel_rfl) (fun _ _ _ h => h) (Or.inl ⟨by rfl, ?hya9⟩) hHeld ?_
          case hya9 => (intro w hSw; go_simp; try with_reducible rfl)
          simp only [Act.put, List.setIfInBounds_toArray, List.set_cons_zero, List.set_cons_succ, List.getElem_toArray, List.getElem_cons_zero, List.getElem_cons_succ]
          refine wpAnyH_take (i := 10) (v := ?va10) rfl (by kernel_rfl) (by kernel_rfl) (by kernel_rfl) (fun _ _ _ h => h) (Or.inl ⟨by rfl, ?hya10⟩) hHeld ?_
          case hya10 => (intro w hSw; go_simp; try with_reducible rfl)
          simp only [Act.put, List.setIfInBounds_toArray, List.set_cons_zero, List.set_cons_succ, List.getElem_toArray, List.getElem_cons_zero, List.getElem_cons_succ]
          refine wpAnyH_take (i := 11) (v := ?va11) rfl (by kernel_rfl) (by kernel_rfl) (by kernel_rfl) (fun _ _ _ h => h) (Or.inl ⟨by rfl, ?hya11⟩) hHeld ?_
          case hya11 => (intro w hSw; go_simp; try with_reducible rfl)
          simp only [Act.put, List.setIfInBounds_toArray, List.set_cons_zero, List.set_cons_succ, List.getElem_toArray, List.getElem_cons_zero, List.getElem_cons_succ]
          refine wpAnyH_done (by kernel_rfl) ?_ _
          refine NoPanic.normal ?_
          have xz : Ext (wr.alloc (.cells #[.string x.path, .string x.text] 42)) w6 := (xd.trans x5).trans x6
          have own6 := owns_ext (owns_ext own ywa) xz
          have bS6 := xz.keeps (ywa.keeps bS)
          have bR6 := xz.keeps (ywa.keeps bR)
          have bX6 := xz.keeps bX
          have xw6 := (xw.trans ywa).trans xz
          have hS6 : wr.heap.size < w6.heap.size := block_lt bX6
          clear own bS bR cS c0 c1 c0d c1d xd x5 x6 xz xra xa hM
          generalize wr.heap.size = XB at *
          cases hf : fitB l x with
          | false =>
            have hDe := HNO.out hf
            subst hDe
            simp only [Bool.false_eq_true, if_false]
            go_wp2_with ((with_reducible refine at_store 24 (.tmp 4) (.tmp 53) ?_); refine wpl_store (by rfl) 24 (.tmp 4) (.tmp 53) rfl (G + 1) #[.slice none 0 0] (by rfl) (by rfl) 24 _ bR6 (info1 _) rfl nil_one ?_)
            refine bodyPost_ret (results_cellT rfl _ _ (G + 1) _ _ _ _ (by rfl) (hfin _ _ bR6 _) Tryd.underlying24 rfl (info1 _)) rfl ?_
            exact ap_err ((X0.trans xw6).grown grown_row1 (fun k hk => by cases hk; rw [hG]; omega)) 2
          | true =>
            have hz := HUPD.out hf
            have HFT := Lib.hid hf
            clear hf
            simp only [if_true]
            have HFC := Lib.hid (show flC (updF l x) = [.string x.path, .string (updF l x).text] from rfl)
            generalize htt : (updF l x).text = t at *
            have HTT := Lib.hid htt
            clear htt
            have hwk : IntKind.i64.wrap ((A : Int) + (t.size : Int)) = (A : Int) + (t.size : Int) := wrap64_small (by omega) (by omega)
            have hone : ∀ u ∈ ([.string x.path, .string t] : List Value), u.oneCell' = true := by rw [← HFC.out]; exact flC_one1 _
            have HLG := Lib.hid (show longB ((fs.map (updF l)).take (k + 1)) = (Lg || decide (4096 < t.size)) by rw [HTK.out, longB_snoc, HLL.out, HTT.out])
            have HTS := Lib.hid (show sumT ((fs.map (updF l)).take (k + 1)) = A + t.size by rw [HTK.out, sumT_snoc, HAA.out, HTT.out])
            have k0 : w6.cell? ⟨XB, 0, none⟩ = some (.string x.path) := by rw [block_cell bX6]; rfl
            have kS : w6.cell? ⟨S, 0, none⟩ = some (.slice a4 k c4) := by rw [block_cell bS6]; rfl
            have hw06 : w0.heap.size ≤ (w6.alloc (.cells #[.string x.path, .string t] 42)).heap.size := (xw6.alloc _).size
            have hfit' : ∀ j (hj : j < fs.length), j < k + 1 → fitB l fs[j] = true := fun j hj hj1 => by
              by_cases e : j = k
              · subst e; rw [HX.out]; exact HFT.out
              · exact HFIT.out j hj (by omega)
            have HFIT' := Lib.hid hfit'
            clear hfit' HFIT HUPD HNO
            cases hlong : decide ((4096 : Int) < (t.size : Int)) with
            | true =>
              have hl2 : decide (4096 < t.size) = true := by rw [decide_eq_true_eq] at hlong ⊢; omega
              cases Lg with
              | true =>
                go_wp2_with (at_builtin; refine wp_app (w := w6.alloc (.cells #[.string x.path, .string t] 42)) tyFl rfl (.tmp 65) (.tmp 70) rfl w0.heap.size _ k _ (own6.alloc _) (by rfl) _ 1 [.string x.path, .string t] (sl_one_new (w := w6) (n := 2) (e := 42) (Q := [.string x.path, .string t]) rfl rfl) (by rfl) hone (by omega) (by omega) hw06 ?_; intro v7 w7 own7 gr7; have bS7 := grown_keeps (own6.alloc (.cells #[.string x.path, .string t] 42)) (blk_old (o := .cells #[.string x.path, .string t] 42) bS6) (by decide) gr7; have bR7 := grown_keeps (own6.alloc (.cells #[.string x.path, .string t] 42)) (blk_old (o := .cells #[.string x.path, .string t] 42) bR6) (by decide) gr7; have xw7 := own_base (own6.alloc (.cells #[.string x.path, .string t] 42)) gr7 (xw6.alloc _) (Nat.le_refl _); obtain ⟨_, a7, c7, rfl, _⟩ := IsSl.of_owns own7; have cS7 := block_cell bS7 0; have fS7 := block_free bS7 0)
                go_roundg (fs.length - (k + 1))
                case measure => omega
                case rel =>
                  refine ⟨k + 1, A + t.size, true, a7, c7, by omega, by omega, by go_num, by go_num, by rfl, HTS.out.symm, by rw [HLG.out, hl2]; rfl, HFIT'.out, by omega, ?_, block_setCell bS7 _, ?_, xw7.setCell (p := ⟨S, 0, none⟩) hS4 _⟩
                  · rw [HFL.out, HFC.out]
                    exact own7.kept (grown_setCell _ _ _ _) (.inr (own_neT own7 bS7 (by decide)))
                  · exact set_other bR7 (Ne.symm hSG)
              | false =>
                go_wp2_with (at_builtin; refine wp_app (w := w6.alloc (.cells #[.string x.path, .string t] 42)) tyFl rfl (.tmp 65) (.tmp 70) rfl w0.heap.size _ k _ (own6.alloc _) (by rfl) _ 1 [.string x.path, .string t] (sl_one_new (w := w6) (n := 2) (e := 42) (Q := [.string x.path, .string t]) rfl rfl) (by rfl) hone (by omega) (by omega) hw06 ?_; intro v7 w7 own7 gr7; have bS7 := grown_keeps (own6.alloc (.cells #[.string x.path, .string t] 42)) (blk_old (o := .cells #[.string x.path, .string t] 42) bS6) (by decide) gr7; have bR7 := grown_keeps (own6.alloc (.cells #[.string x.path, .string t] 42)) (blk_old (o := .cells #[.string x.path, .string t] 42) bR6) (by decide) gr7; have xw7 := own_base (own6.alloc (.cells #[.string x.path, .string t] 42)) gr7 (xw6.alloc _) (Nat.le_refl _); obtain ⟨_, a7, c7, rfl, _⟩ := IsSl.of_owns own7; have cS7 := block_cell bS7 0; have fS7 := block_free bS7 0)
                go_roundg (fs.length - (k + 1))
                case measure => omega
                case rel =>
                  refine ⟨k + 1, A + t.size, true, a7, c7, by omega, by omega, by go_num, by go_num, by rfl, HTS.out.symm, by rw [HLG.out, hl2]; rfl, HFIT'.out, by omega, ?_, block_setCell bS7 _, ?_, xw7.setCell (p := ⟨S, 0, none⟩) hS4 _⟩
                  · rw [HFL.out, HFC.out]
                    exact own7.kept (grown_setCell _ _ _ _) (.inr (own_neT own7 bS7 (by decide)))
                  · exact set_other bR7 (Ne.symm hSG)
            | false =>
              have hl2 : decide (4096 < t.size) = false := by rw [decide_eq_false_iff_not] at hlong ⊢; omega
              cases Lg with
              | true =>
                go_wp2_with (at_builtin; refine wp_app (w := w6.alloc (.cells #[.string x.path, .string t] 42)) tyFl rfl (.tmp 65) (.tmp 70) rfl w0.heap.size _ k _ (own6.alloc _) (by rfl) _ 1 [.string x.path, .string t] (sl_one_new (w := w6) (n := 2) (e := 42) (Q := [.string x.path, .string t]) rfl rfl) (by rfl) hone (by omega) (by omega) hw06 ?_; intro v7 w7 own7 gr7; have bS7 := grown_keeps (own6.alloc (.cells #[.string x.path, .string t] 42)) (blk_old (o := .cells #[.string x.path, .string t] 42) bS6) (by decide) gr7; have bR7 := grown_keeps (own6.alloc (.cells #[.string x.path, .string t] 42)) (blk_old (o := .cells #[.string x.path, .string t] 42) bR6) (by decide) gr7; have xw7 := own_base (own6.alloc (.cells #[.string x.path, .string t] 42)) gr7 (xw6.alloc _) (Nat.le_refl _); obtain ⟨_, a7, c7, rfl, _⟩ := IsSl.of_owns own7; have cS7 := block_cell bS7 0; have fS7 := block_free bS7 0)
                go_roundg (fs.length - (k + 1))
                case measure => omega
                case rel =>
                  refine ⟨k + 1, A + t.size, true, a7, c7, by omega, by omega, by go_num, by go_num, by rfl, HTS.out.symm, by rw [HLG.out, hl2]; rfl, HFIT'.out, by omega, ?_, block_setCell bS7 _, ?_, xw7.setCell (p := ⟨S, 0, none⟩) hS4 _⟩
                  · rw [HFL.out, HFC.out]
                    exact own7.kept (grown_setCell _ _ _ _) (.inr (own_neT own7 bS7 (by decide)))
                  · exact set_other bR7 (Ne.symm hSG)
              | false =>
                go_wp2_with (at_builtin; refine wp_app (w := w6.alloc (.cells #[.string x.path, .string t] 42)) tyFl rfl (.tmp 65) (.tmp 70) rfl w0.heap.size _ k _ (own6.alloc _) (by rfl) _ 1 [.string x.path, .string t] (sl_one_new (w := w6) (n := 2) (e := 42) (Q := [.string x.path, .string t]) rfl rfl) (by rfl) hone (by omega) (by omega) hw06 ?_; intro v7 w7 own7 gr7; have bS7 := grown_keeps (own6.alloc (.cells #[.string x.path, .string t] 42)) (blk_old (o := .cells #[.string x.path, .string t] 42) bS6) (by decide) gr7; have bR7 := grown_keeps (own6.alloc (.cells #[.string x.path, .string t] 42)) (blk_old (o := .cells #[.string x.path, .string t] 42) bR6) (by decide) gr7; have xw7 := own_base (own6.alloc (.cells #[.string x.path, .string t] 42)) gr7 (xw6.alloc _) (Nat.le_refl _); obtain ⟨_, a7, c7, rfl, _⟩ := IsSl.of_owns own7; have cS7 := block_cell bS7 0; have fS7 := block_free bS7 0)
                go_roundg (fs.length - (k + 1))
                case measure => omega
                case rel =>
                  refine ⟨k + 1, A + t.size, false, a7, c7, by omega, by omega, by go_num, by go_num, by rfl, HTS.out.symm, by rw [HLG.out, hl2]; rfl, HFIT'.out, by omega, ?_, block_setCell bS7 _, ?_, xw7.setCell (p := ⟨S, 0, none⟩) hS4 _⟩
                  · rw [HFL.out, HFC.out]
                    exact own7.kept (grown_setCell _ _ _ _) (.inr (own_neT own7 bS7 (by decide)))
                  · exact set_other bR7 (Ne.symm hSG)
        · obtain rfl : k = fs.length := by omega
          have htk : (fs.map (updF l)).take fs.length = fs.map (updF l) := List.take_of_length_le (by rw [List.length_map]; omega)
          have hfa : (fs.all (fitB l)) = true := by
            rw [List.all_eq_true]
            intro e he
            obtain ⟨j, hj, rfl⟩ := List.getElem_of_mem he
            exact HFIT.out j hj hj
          have hD2 : D = if (longB (fs.map (updF l)) || decide (16384 < sumT (fs.map (updF l)))) = true then ([], 3) else (fs.map (updF l), 0) := by
            rw [← HD.out, HC.out, HR.out, HA.out, hfa]; rfl
          have hsum := HAA.out
          have hlg := HLL.out
          rw [htk] at hsum hlg own
          rw [← hsum, ← hlg] at hD2
          have HD2 := Lib.hid hD2
          clear hD2 hsum hlg hfa htk
          cases hlong : decide ((16384 : Int) < (A : Int)) with
          | true =>
            have hl2 : decide (16384 < A) = true := by rw [decide_eq_true_eq] at hlong ⊢; omega
            have hDe : D = ([], 3) := by rw [HD2.out, hl2]; simp
            subst hDe
            clear hl2
            cases Lg with
            | true =>
              go_wp2_with ((with_reducible refine at_store 24 (.tmp 4) (.tmp 79) ?_); refine wpl_store (by rfl) 24 (.tmp 4) (.tmp 79) rfl (G + 1) #[.slice none 0 0] (by rfl) (by rfl) 24 _ bR (info1 _) rfl nil_one ?_)
              refine bodyPost_ret (results_cellT rfl _ _ (G + 1) _ _ _ _ (by rfl) (hfin _ _ bR _) Tryd.underlying24 rfl (info1 _)) rfl ?_
              exact ap_err ((X0.trans xw).grown grown_row1 (fun k hk => by cases hk; rw [hG]; omega)) 3
            | false =>
              go_wp2_with ((with_reducible refine at_store 24 (.tmp 4) (.tmp 79) ?_); refine wpl_store (by rfl) 24 (.tmp 4) (.tmp 79) rfl (G + 1) #[.slice none 0 0] (by rfl) (by rfl) 24 _ bR (info1 _) rfl nil_one ?_)
              refine bodyPost_ret (results_cellT rfl _ _ (G + 1) _ _ _ _ (by rfl) (hfin _ _ bR _) Tryd.underlying24 rfl (info1 _)) rfl ?_
              exact ap_err ((X0.trans xw).grown grown_row1 (fun k hk => by cases hk; rw [hG]; omega)) 3
          | false =>
            have hl2 : decide (16384 < A) = false := by rw [decide_eq_false_iff_not] at hlong ⊢; omega
            cases Lg with
            | true =>
              have hDe : D = ([], 3) := by rw [HD2.out, hl2]; rfl
              subst hDe
              go_wp2_with ((with_reducible refine at_store 24 (.tmp 4) (.tmp 79) ?_); refine wpl_store (by rfl) 24 (.tmp 4) (.tmp 79) rfl (G + 1) #[.slice none 0 0] (by rfl) (by rfl) 24 _ bR (info1 _) rfl nil_one ?_)
              refine bodyPost_ret (results_cellT rfl _ _ (G + 1) _ _ _ _ (by rfl) (hfin _ _ bR _) Tryd.underlying24 rfl (info1 _)) rfl ?_
              exact ap_err ((X0.trans xw).grown grown_row1 (fun k hk => by cases hk; rw [hG]; omega)) 3
            | false =>
              have hDe : D = (fs.map (updF l), 0) := by rw [HD2.out, hl2]; rfl
              subst hDe
              have hone := slice_one a4 fs.length c4
              go_wp2_with first
                | ((with_reducible refine at_load 24 (.tmp 10) ?_); refine wpl_load (by rfl) 24 (.tmp 10) rfl S (by rfl) 24 #[.slice a4 fs.length c4] (0, 0) _ bS Tryd.underlying24 rfl (info1 _) ?_)
                | ((with_reducible refine at_store 24 (.tmp 4) (.tmp 80) ?_); refine wpl_store (by rfl) 24 (.tmp 4) (.tmp 80) rfl (G + 1) #[.slice a4 fs.length c4] (by rfl) (by rfl) 24 _ bR (info1 _) rfl hone ?_)
              refine bodyPost_ret (results_cellT rfl _ _ (G + 1) _ _ _ _ (by rfl) (hfin _ _ bR _) Tryd.underlying24 rfl (info1 _)) rfl ?_
              refine ⟨_, by rfl, ?_, (X0.trans xw).grown grown_row1 (fun k hk => by cases hk; rw [hG]; omega)⟩
              have hlm : (fs.map (updF l)).length = fs.length := List.length_map _
              show World.ownsRow _ _ _ _ _ (fs.map (updF l)).length ((fs.map (updF l)).flatMap flC)
              rw [hlm]
              exact ownsRow_base (own.kept grown_row1 (.inr (own_neT own bR (by decide)))) (by rw [hG]; have := X0.size; omega)
end Go.Proofs.YtgcbkhmaabmdjaaDoor
