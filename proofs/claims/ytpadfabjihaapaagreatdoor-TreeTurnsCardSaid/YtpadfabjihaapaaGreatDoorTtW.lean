/- The walk of TreeTurns. -/
import Derived.Test.YtpadfabjihaapaaGreatDoorTdW
import Derived.Test.YtpadfabjihaapaaGreatDoorTtP
namespace Go.Proofs.YtpadfabjihaapaaGreatDoor
open Go.RowKit
set_option linter.unusedVariables false
set_option linter.unusedSimpArgs false

theorem dlC_oneA (d : Dl) : (dlC d).toArray.all (·.oneCell') = true := by
  rw [Array.all_eq_true_iff_forall_mem]
  intro v hv
  exact dlC_one d v (by simpa using hv)
/-- Files do not lie in a variable that holds a slice. -/
theorem isF_apart {w w' : World} {v : Value} {l : List Fl} {g : Nat} {a : Option Addr} {n c : Nat} {t : TypeId} {f : Nat × Nat} (h : IsF w v l) (hg : w.heap[g]? = some (.cells #[.slice a n c] t f)) (gr : w.grownBy w' (some g)) : IsF w' v l := by
  obtain ⟨h1, ao, cap, e, h2, h3, h4, h5⟩ := h.sl
  refine ⟨⟨h1, ao, cap, e, h2, h3, h4, fun i hi => ?_⟩, h.ok⟩
  obtain ⟨b, off, e1, e2⟩ := h5 i hi
  have hb : b ≠ g := by
    rintro rfl
    have h0 : 0 < (l.flatMap flC).length := by omega
    obtain ⟨b', off', e1', e2'⟩ := h5 0 h0
    rw [e1] at e1'
    simp only [Option.some.injEq, Addr.mk.injEq] at e1'
    obtain ⟨rfl, rfl, _⟩ := e1'
    cases l with
    | nil => simp at h0
    | cons x r =>
      rw [block_cell hg] at e2'
      simp only [List.flatMap_cons, flC, List.cons_append, List.getElem?_cons_zero, Nat.add_zero] at e2'
      match off, e2' with
      | 0, e2' => simp at e2'
      | k + 1, e2' => simp at e2'
  refine ⟨b, off, e1, ?_⟩
  rw [List.getElem?_eq_getElem hi] at e2 ⊢
  exact gr.cell e2 (by simpa using hb)
set_option maxHeartbeats 8000000 in
set_option maxRecDepth 100000 in
theorem walkTreeTurnsI (w : World) (hT : Tabs w) (va vb : Value) (a b : List Fl) (ha : IsF w va a) (hb : IsF w vb b) :
    Calls Tryz.prog 6 #[.agg #[va], .agg #[vb]] w fun e w' => e = .returned (.bool true) ∧ Ext w w' := by
  have HT := Lib.hid hT
  have HA := Lib.hid ha
  have HB := Lib.hid hb
  obtain ⟨aa, ca, ea⟩ := sl_len ha.sl
  obtain ⟨ab, cb, eb⟩ := sl_len hb.sl
  subst ea
  subst eb
  clear ha hb hT
  go_enter Tryz.func6, Tryz.ntmps6
  go_upto_region 1 with fail
  obtain ⟨G, hG⟩ : ∃ G, w.heap.size = G := ⟨_, rfl⟩
  rw [hG]
  refine wp_forgetH (fun W => Ext w W ∧ W.heap[G]? = some (.cells #[.slice aa a.length ca] 24 (0, 0)) ∧ W.heap[G + 1]? = some (.cells #[.slice ab b.length cb] 24 (0, 0))) (new2d hG _ _) ?_
  rintro w1 ⟨x1, bA, bB⟩
  have HBA := Lib.hid bA
  have HBB := Lib.hid bB
  go_wp2_with fail
  refine Calls.mono (wakes07 w1 (HT.out.ext x1)) ?_
  rintro e w2 ⟨rfl, x2⟩
  have X2 := x1.trans x2
  have bA2 := x2.keeps bA
  go_wp2_with ((with_reducible refine at_load 24 (.tmp 2) ?_); refine wpl_load (by rfl) 24 (.tmp 2) rfl G (by rfl) 24 #[.slice aa a.length ca] (0, 0) _ bA2 Tryz.underlying24 rfl (infoRp _) ?_)
  refine Calls.mono (largeC w2 _ a (HA.out.ext X2)) ?_
  rintro e w3 ⟨b1, rfl, hlg1, x3⟩
  have X3 := X2.trans x3
  clear hlg1
  cases b1 with
  | true =>
    go_wp2_with fail
    exact bodyPost_ret (results_t rfl _ _) rfl ⟨rfl, X3⟩
  | false =>
    have bB3 := (x2.trans x3).keeps bB
    go_wp2_with ((with_reducible refine at_load 24 (.tmp 3) ?_); refine wpl_load (by rfl) 24 (.tmp 3) rfl (G + 1) (by rfl) 24 #[.slice ab b.length cb] (0, 0) _ bB3 Tryz.underlying24 rfl (infoRp _) ?_)
    refine Calls.mono (largeC w3 _ b (HB.out.ext X3)) ?_
    rintro e w4 ⟨b2, rfl, hlg2, x4⟩
    have X4 := X3.trans x4
    clear hlg2
    cases b2 with
    | true =>
      go_wp2_with fail
      exact bodyPost_ret (results_t rfl _ _) rfl ⟨rfl, X4⟩
    | false =>
      have E4 := (x2.trans x3).trans x4
      have bA4 := E4.keeps bA
      have bB4 := E4.keeps bB
      clear bA bB bA2 bB3 X2 X3
      go_wp2_with (first
        | ((with_reducible refine at_load 24 (.tmp 2) ?_); refine wpl_load (by rfl) 24 (.tmp 2) rfl G (by rfl) 24 #[.slice aa a.length ca] (0, 0) _ bA4 Tryz.underlying24 rfl (infoRp _) ?_)
        | ((with_reducible refine at_load 24 (.tmp 3) ?_); refine wpl_load (by rfl) 24 (.tmp 3) rfl (G + 1) (by rfl) 24 #[.slice ab b.length cb] (0, 0) _ bB4 Tryz.underlying24 rfl (infoRp _) ?_))
      refine Calls.mono (treeDiff w4 _ _ a b (HA.out.ext X4) (HB.out.ext X4)) ?_
      rintro e w5 ⟨v5, rfl, i5, x5⟩
      obtain ⟨DV, hDV⟩ : ∃ DV, diffV a b = DV := ⟨_, rfl⟩
      rw [hDV] at i5 ⊢
      obtain ⟨dl, de⟩ := DV
      simp only at i5
      obtain ⟨a5, c5, e5⟩ := sl_len i5
      subst e5
      have X5 := X4.trans x5
      have E5 := E4.trans x5
      by_cases hab : repoB a = true ∧ repoB b = true
      · have e1 : (dl, de) = (diffL a b, 0) := by rw [← hDV]; unfold diffV; rw [if_pos hab]
        simp only [Prod.mk.injEq] at e1
        obtain ⟨rfl, rfl⟩ := e1
        have bA5 := E5.keeps HBA.out
        have HRA := Lib.hid hab.1
        have HSB := Lib.hid (repo_sorted hab.2)
        have I5 := Lib.hid i5
        clear hDV hab i5 bA4 bB4
        go_wp2_with ((with_reducible refine at_load 24 (.tmp 2) ?_); refine wpl_load (by rfl) 24 (.tmp 2) rfl G (by rfl) 24 #[.slice aa a.length ca] (0, 0) _ bA5 Tryz.underlying24 rfl (infoRp _) ?_)
        refine Calls.mono (treeDiff w5 _ _ a a (HA.out.ext X5) (HA.out.ext X5)) ?_
        rintro e w6 ⟨v6, rfl, i6, x6⟩
        have hdv : diffV a a = ([], 0) := by unfold diffV; rw [if_pos ⟨HRA.out, HRA.out⟩, diff_self]
        rw [hdv] at i6 ⊢
        simp only at i6
        obtain ⟨a6, c6, e6⟩ := sl_len i6
        subst e6
        have X6 := Lib.hid (X5.trans x6)
        have E6 := Lib.hid (E5.trans x6)
        have bA6 := E6.out.keeps HBA.out
        have HI0 := Lib.hid (show IsD w6 (.slice a5 (diffL a b).length c5) (diffL a b) from I5.out.ext x6)
        clear i6 hdv bA5 X4 X5 E4 E5 x1 x2 x3 x4 x5 x6
        go_upto_region 12 with (first
          | ((with_reducible refine at_load 24 (.tmp 2) ?_); refine wpl_load (by rfl) 24 (.tmp 2) rfl G (by rfl) 24 #[.slice aa a.length ca] (0, 0) _ bA6 Tryz.underlying24 rfl (infoRp _) ?_)
          | ((with_reducible refine at_store 24 (.tmp 9) (.tmp 47) ?_); refine wpl_store (by rfl) 24 (.tmp 9) (.tmp 47) rfl _ #[.slice aa a.length ca] (by rfl) (by rfl) 24 _ (heap_alloc_new _ _) (infoRp _) rfl (by kernel_rfl) ?_; rw [World.setRow_alloc_new]))
        obtain ⟨P, hP⟩ : ∃ P, w6.heap.size = P := ⟨_, rfl⟩
        rw [hP]
        refine wp_forgetH (fun W => Ext w6 W ∧ W.heap[P]? = some (.cells #[.slice aa a.length ca] 24 (0, 0))) ⟨(Ext.refl w6).alloc _, blk_new hP⟩ ?_
        rintro w7 ⟨x7, bP⟩
        have HI := Lib.hid (show IsD w6 (.slice a5 (diffL a b).length c5) (diffL a b) from HI0.out)
        have HDOF := Lib.hid (@diff_of a b)
        have HDPW := Lib.hid (@diff_paths a b)
        have HFIN := Lib.hid (fun (r1 r : List Fl) => @turned a b r1 r HSB.out)
        have HBP0 := Lib.hid bP
        have HFA := Lib.hid (HA.out.ext (X6.out.trans x7))
        have hPG : G + 2 ≤ P := by rw [← hP]; have := block_lt (E6.out.keeps HBB.out); omega
        clear bA6 bP
        generalize diffL a b = ds at *
        obtain ⟨_, k5, m5⟩ := sl_cap HI.out
        go_wp2_with fail
        go_loopg [50] ds.length (fun q s50 wr => ∃ (j : Nat) (r : List Fl) (vr : Value), j ≤ ds.length ∧ ds.length - j ≤ q ∧ s50 = .int .i64 (j : Int) ∧ wr.heap[P]? = some (.cells #[vr] 24 (0, 0)) ∧ IsF wr vr r ∧ Turn1 a (ds.take j) r ∧ Ext w6 wr)
        case atStart => exact ⟨0, a, _, Nat.zero_le _, by omega, rfl, HBP0.out, HFA.out, by simpa using Turn1.start HRA.out, x7⟩
        case round =>
        obtain ⟨j, r, vr, hj, hq, rfl, hbp, hfr, htn, xr⟩ := hrel
        obtain ⟨ar, cr, er⟩ := sl_len hfr.sl
        subst er
        have HBP := Lib.hid hbp
        have HFR := Lib.hid hfr
        have HTN := Lib.hid htn
        clear hbp hfr htn
        by_cases hjl : j < ds.length
        · have : True := trivial
          obtain ⟨pb, o, rfl, hr3⟩ := dl_at (IsSl.ext HI.out xr) j hjl
          obtain ⟨d, hdj⟩ : ∃ d, ds[j] = d := ⟨_, rfl⟩
          have htk : ds.take (j + 1) = ds.take j ++ [d] := by rw [← hdj, List.take_succ_eq_append_getElem hjl]
          obtain ⟨hdd, _⟩ := HDOF.out d (by rw [← hdj]; exact List.getElem_mem hjl)
          have hdn : ∀ e ∈ ds.take j, e.path ≠ d.path := fun e he => by
            obtain ⟨i, hi, rfl⟩ := List.mem_iff_getElem.1 he
            rw [List.getElem_take, ← hdj]
            exact (List.pairwise_iff_getElem.1 HDPW.out) i j (by simp at hi; omega) hjl (by simp at hi; omega)
          rw [hdj] at hr3
          have HTK := Lib.hid htk
          have HDD := Lib.hid hdd
          have HDN := Lib.hid hdn
          have HR3 := Lib.hid hr3
          have hinf : (Tryz.prog.info? 55).map (·.size) = some (dlC d).length := by kernel_rfl
          have hinfA : (Tryz.prog.info? 55).map (·.size) = some (dlC d).toArray.size := by kernel_rfl
          have hone : (dlC d).toArray.all (·.oneCell') = true := dlC_oneA d
          have HJN := Lib.hid (show j + 1 ≤ ds.length from hjl)
          have j0 : (0 : Int) ≤ (j : Int) := Int.natCast_nonneg _
          have j1 : (j : Int) < (ds.length : Int) := by omega
          clear hr3 hdj htk hdd hdn
          go_upto_region 15 with (first
            | ((with_reducible refine at_load 55 (.tmp 52) ?_); refine wpl_mid (by rfl) 55 (.tmp 52) rfl pb (o + j * 5) (by rfl) (dlC d) _ HR3.out Tryz.underlying55 rfl hinf ?_)
            | ((with_reducible refine at_store 55 (.tmp 11) (.tmp 53) ?_); refine wpl_store (by rfl) 55 (.tmp 11) (.tmp 53) rfl _ (dlC d).toArray (by rfl) (by rfl) 55 _ (heap_alloc_new _ _) hinfA rfl hone ?_; rw [World.setRow_alloc_new]))
          obtain ⟨D, hD⟩ : ∃ D, wr.heap.size = D := ⟨_, rfl⟩
          rw [hD]
          refine wp_forgetH (fun W => Ext wr W ∧ W.heap[D]? = some (.cells (dlC d).toArray 55 (0, 0))) ⟨(Ext.refl wr).alloc _, blk_new hD⟩ ?_
          rintro w2 ⟨x2, bD⟩
          have kd0 : w2.cell? ⟨D, 0, none⟩ = some (.string d.path) := by rw [block_cell bD]; rfl
          have kd1 : w2.cell? ⟨D, 1, none⟩ = some (.bool d.was) := by rw [block_cell bD]; rfl
          have kd2 : w2.cell? ⟨D, 2, none⟩ = some (.bool d.is) := by rw [block_cell bD]; rfl
          have kd4 : w2.cell? ⟨D, 4, none⟩ = some (.string d.new) := by rw [block_cell bD]; rfl
          have bP2 := x2.keeps HBP.out
          have X2 := Lib.hid (xr.trans x2)
          have HF2 := Lib.hid (HFR.out.ext x2)
          clear hinf hinfA hone bD
          cases hw : d.was with
          | false =>
            rw [hw] at kd1
            have hsk := HTN.out.skip (d := d) (fun h => by rw [hw] at h; cases h.1)
            have HSK := Lib.hid hsk
            clear hsk hw
            go_wp2_with fail
            go_roundg (ds.length - (j + 1))
            case measure => (have := HJN.out; omega)
            case rel => exact ⟨j + 1, r, _, HJN.out, by have := HJN.out; omega, by go_num, bP2, HF2.out, by rw [HTK.out]; exact HSK.out, X2.out⟩
          | true =>
            rw [hw] at kd1
            cases hi : d.is with
            | true =>
              rw [hi] at kd2
              have hsk := HTN.out.skip (d := d) (fun h => by rw [hi] at h; cases h.2)
              have HSK := Lib.hid hsk
              clear hsk hw hi
              go_wp2_with fail
              go_roundg (ds.length - (j + 1))
              case measure => (have := HJN.out; omega)
              case rel => exact ⟨j + 1, r, _, HJN.out, by have := HJN.out; omega, by go_num, bP2, HF2.out, by rw [HTK.out]; exact HSK.out, X2.out⟩
            | false =>
              rw [hi] at kd2
              obtain ⟨hrv, hts⟩ := HTN.out.step hw hi HDD.out HDN.out
              have HTS := Lib.hid hts
              clear hts hw hi
              go_wp2_with ((with_reducible refine at_load 24 (.tmp 9) ?_); refine wpl_load (by rfl) 24 (.tmp 9) rfl P (by rfl) 24 #[.slice ar r.length cr] (0, 0) _ bP2 Tryz.underlying24 rfl (infoRp _) ?_)
              refine Calls.mono (treeRemove w2 _ r HF2.out d.path) ?_
              rintro e w3 ⟨v3, rfl, h3, x3⟩
              rw [hrv] at h3 ⊢
              simp only at h3
              obtain ⟨a3, c3, e3⟩ := sl_len h3.sl
              subst e3
              clear hrv
              go_upto_region 17 with ((with_reducible refine at_store 24 (.tmp 12) (.tmp 66) ?_); refine wpl_store (by rfl) 24 (.tmp 12) (.tmp 66) rfl _ #[.slice a3 (outF r d.path).length c3] (by rfl) (by rfl) 24 _ (heap_alloc_new _ _) (infoRp _) rfl (by kernel_rfl) ?_; rw [World.setRow_alloc_new])
              obtain ⟨Q, hQ⟩ : ∃ Q, w3.heap.size = Q := ⟨_, rfl⟩
              rw [hQ]
              refine wp_forgetH (fun W => Ext w3 W ∧ W.heap[Q]? = some (.cells #[.slice a3 (outF r d.path).length c3] 24 (0, 0))) ⟨(Ext.refl w3).alloc _, blk_new hQ⟩ ?_
              rintro w4 ⟨x4, bQ⟩
              have bP4 := (x3.trans x4).keeps bP2
              have h4 := h3.ext x4
              have hg : w4.grownBy (w4.setRow P #[.slice a3 (outF r d.path).length c3]) (some P) := grown_setRow'
              have f1 := setRow_heap w4 P _ #[.slice a3 (outF r d.path).length c3] _ _ bP4
              have h5 := isF_apart h4 bP4 hg
              have x5 := (X2.out.trans (x3.trans x4)).grown hg (fun k hk => by cases hk; omega)
              have H5 := Lib.hid h5
              have F1 := Lib.hid f1
              have X5 := Lib.hid x5
              clear h3 h4 h5 f1 x5 hg
              go_wp2_with (first
                | ((with_reducible refine at_load 24 (.tmp 12) ?_); refine wpl_load (by rfl) 24 (.tmp 12) rfl Q (by rfl) 24 #[.slice a3 (outF r d.path).length c3] (0, 0) _ bQ Tryz.underlying24 rfl (infoRp _) ?_)
                | ((with_reducible refine at_store 24 (.tmp 9) (.tmp 70) ?_); refine wpl_store (by rfl) 24 (.tmp 9) (.tmp 70) rfl P #[.slice a3 (outF r d.path).length c3] (by rfl) (by rfl) 24 _ bP4 (infoRp _) rfl (by kernel_rfl) ?_))
              go_roundg (ds.length - (j + 1))
              case measure => (have := HJN.out; omega)
              case rel => exact ⟨j + 1, outF r d.path, _, HJN.out, by have := HJN.out; omega, by go_num, F1.out, H5.out, by rw [HTK.out]; exact HTS.out, X5.out⟩
        · have ej : j = ds.length := by omega
          have htn := HTN.out
          rw [ej, List.take_length] at htn
          have HT1 := Lib.hid htn
          obtain ⟨wL, rfl⟩ : ∃ x, x = wr := ⟨_, rfl⟩
          clear htn HTN
          go_wp2_with fail
          clear ej hjl hj hq
          go_loopg [14, 74] ds.length (fun q s14 s74 wr2 => ∃ (j2 : Nat) (r2 : List Fl) (vr2 : Value) (ov : Bool), j2 ≤ ds.length ∧ ds.length - j2 ≤ q ∧ s74 = .int .i64 (j2 : Int) ∧ s14 = .bool ov ∧ wr2.heap[P]? = some (.cells #[vr2] 24 (0, 0)) ∧ IsF wr2 vr2 r2 ∧ (ov = false → Turn2 b r (ds.take j2) r2) ∧ Ext w6 wr2)
          case atStart => exact ⟨0, r, _, false, Nat.zero_le _, by omega, rfl, rfl, HBP.out, HFR.out, fun _ => by simpa using Turn2.start (repo_sorted HT1.out.repo), xr⟩
          case round =>
          clear HBP HFR xr
          obtain ⟨j, r2, vr, ov, hj, hq, rfl, rfl, hbp, hfr, htn, xr⟩ := hrel
          obtain ⟨ar2, cr2, er⟩ := sl_len hfr.sl
          subst er
          have HBP := Lib.hid hbp
          have HFR := Lib.hid hfr
          have HTN := Lib.hid htn
          clear hbp hfr htn
          by_cases hjl : j < ds.length
          · have : True := trivial
            obtain ⟨pb, o, rfl, hr3⟩ := dl_at (IsSl.ext HI.out xr) j hjl
            obtain ⟨d, hdj⟩ : ∃ d, ds[j] = d := ⟨_, rfl⟩
            have htk : ds.take (j + 1) = ds.take j ++ [d] := by rw [← hdj, List.take_succ_eq_append_getElem hjl]
            obtain ⟨hdd, _⟩ := HDOF.out d (by rw [← hdj]; exact List.getElem_mem hjl)
            have hdn : ∀ e ∈ ds.take j, e.path ≠ d.path := fun e he => by
              obtain ⟨i, hi, rfl⟩ := List.mem_iff_getElem.1 he
              rw [List.getElem_take, ← hdj]
              exact (List.pairwise_iff_getElem.1 HDPW.out) i j (by simp at hi; omega) hjl (by simp at hi; omega)
            rw [hdj] at hr3
            have HTK := Lib.hid htk
            have HDD := Lib.hid hdd
            have HDN := Lib.hid hdn
            have HR3 := Lib.hid hr3
            have hinf : (Tryz.prog.info? 55).map (·.size) = some (dlC d).length := by kernel_rfl
            have hinfA : (Tryz.prog.info? 55).map (·.size) = some (dlC d).toArray.size := by kernel_rfl
            have hone : (dlC d).toArray.all (·.oneCell') = true := dlC_oneA d
            have HJN := Lib.hid (show j + 1 ≤ ds.length from hjl)
            have j0 : (0 : Int) ≤ (j : Int) := Int.natCast_nonneg _
            have j1 : (j : Int) < (ds.length : Int) := by omega
            clear hr3 hdj htk hdd hdn
            go_upto_region 25 with (first
              | ((with_reducible refine at_load 55 (.tmp 76) ?_); refine wpl_mid (by rfl) 55 (.tmp 76) rfl pb (o + j * 5) (by rfl) (dlC d) _ HR3.out Tryz.underlying55 rfl hinf ?_)
              | ((with_reducible refine at_store 55 (.tmp 16) (.tmp 77) ?_); refine wpl_store (by rfl) 55 (.tmp 16) (.tmp 77) rfl _ (dlC d).toArray (by rfl) (by rfl) 55 _ (heap_alloc_new _ _) hinfA rfl hone ?_; rw [World.setRow_alloc_new]))
            obtain ⟨D, hD⟩ : ∃ D, wr.heap.size = D := ⟨_, rfl⟩
            rw [hD]
            refine wp_forgetH (fun W => Ext wr W ∧ W.heap[D]? = some (.cells (dlC d).toArray 55 (0, 0))) ⟨(Ext.refl wr).alloc _, blk_new hD⟩ ?_
            rintro w2 ⟨x2, bD⟩
            have kd0 : w2.cell? ⟨D, 0, none⟩ = some (.string d.path) := by rw [block_cell bD]; rfl
            have kd1 : w2.cell? ⟨D, 1, none⟩ = some (.bool d.was) := by rw [block_cell bD]; rfl
            have kd2 : w2.cell? ⟨D, 2, none⟩ = some (.bool d.is) := by rw [block_cell bD]; rfl
            have kd4 : w2.cell? ⟨D, 4, none⟩ = some (.string d.new) := by rw [block_cell bD]; rfl
            have bP2 := x2.keeps HBP.out
            have X2 := Lib.hid (xr.trans x2)
            have HF2 := Lib.hid (HFR.out.ext x2)
            clear hinf hinfA hone bD
            cases hi : d.is with
            | false =>
              rw [hi] at kd2
              have hsk := fun h => (HTN.out h).skip (d := d) hi
              have HSK := Lib.hid hsk
              clear hsk hi
              go_wp2_with fail
              go_roundg (ds.length - (j + 1))
              case measure => (have := HJN.out; omega)
              case rel => exact ⟨j + 1, r2, _, ov, HJN.out, by have := HJN.out; omega, by go_num, rfl, bP2, HF2.out, fun h => by rw [HTK.out]; exact HSK.out h, X2.out⟩
            | true =>
              rw [hi] at kd2
              have hgb := isSome_getB HDD.out hi
              have hok : flOk ⟨d.path, d.new⟩ := HB.out.ok _ (get_path hgb).2
              have hst := fun h hp => (HTN.out h).step hi HDD.out hp
              have HST := Lib.hid hst
              clear hst hi hgb
              go_wp2_with ((with_reducible refine at_load 24 (.tmp 9) ?_); refine wpl_load (by rfl) 24 (.tmp 9) rfl P (by rfl) 24 #[.slice ar2 r2.length cr2] (0, 0) _ bP2 Tryz.underlying24 rfl (infoRp _) ?_)
              refine Calls.mono (treePut w2 _ r2 HF2.out d.path d.new hok) ?_
              rintro e w3 ⟨v3, rfl, h3, x3⟩
              obtain ⟨PV, hPV⟩ : ∃ PV, putV r2 ⟨d.path, d.new⟩ = PV := ⟨_, rfl⟩
              have hst := HST.out
              rw [hPV] at h3 hst ⊢
              obtain ⟨pl, pe⟩ := PV
              simp only at h3 hst
              have HST2 := Lib.hid hst
              obtain ⟨a3, c3, e3⟩ := sl_len h3.sl
              subst e3
              clear hPV hst HST
              go_upto_region 27 with ((with_reducible refine at_store 24 (.tmp 17) (.tmp 87) ?_); refine wpl_store (by rfl) 24 (.tmp 17) (.tmp 87) rfl _ #[.slice a3 pl.length c3] (by rfl) (by rfl) 24 _ (heap_alloc_new _ _) (infoRp _) rfl (by kernel_rfl) ?_; rw [World.setRow_alloc_new])
              obtain ⟨Q, hQ⟩ : ∃ Q, w3.heap.size = Q := ⟨_, rfl⟩
              rw [hQ]
              refine wp_forgetH (fun W => Ext w3 W ∧ W.heap[Q]? = some (.cells #[.slice a3 pl.length c3] 24 (0, 0))) ⟨(Ext.refl w3).alloc _, blk_new hQ⟩ ?_
              rintro w4 ⟨x4, bQ⟩
              have bP4 := (x3.trans x4).keeps bP2
              have h4 := h3.ext x4
              have hf4 := HF2.out.ext (x3.trans x4)
              have X4 := Lib.hid (X2.out.trans (x3.trans x4))
              have HF4 := Lib.hid hf4
              have HP4 := Lib.hid bP4
              by_cases hpe : pe = 0
              · subst hpe
                have hg : w4.grownBy (w4.setRow P #[.slice a3 pl.length c3]) (some P) := grown_setRow'
                have f1 := setRow_heap w4 P _ #[.slice a3 pl.length c3] _ _ bP4
                have h5 := isF_apart h4 bP4 hg
                have x5 := X4.out.grown hg (fun k hk => by cases hk; omega)
                have H5 := Lib.hid h5
                have F1 := Lib.hid f1
                have X5 := Lib.hid x5
                clear h3 h4 h5 f1 x5 hg hf4
                go_wp2_with (first
                  | ((with_reducible refine at_load 24 (.tmp 17) ?_); refine wpl_load (by rfl) 24 (.tmp 17) rfl Q (by rfl) 24 #[.slice a3 pl.length c3] (0, 0) _ bQ Tryz.underlying24 rfl (infoRp _) ?_)
                  | ((with_reducible refine at_store 24 (.tmp 9) (.tmp 91) ?_); refine wpl_store (by rfl) 24 (.tmp 9) (.tmp 91) rfl P #[.slice a3 pl.length c3] (by rfl) (by rfl) 24 _ bP4 (infoRp _) rfl (by kernel_rfl) ?_))
                go_roundg (ds.length - (j + 1))
                case measure => (have := HJN.out; omega)
                case rel =>
                  refine ⟨j + 1, pl, _, ov, HJN.out, by have := HJN.out; omega, by go_num, rfl, F1.out, H5.out, fun h => ?_, X5.out⟩
                  obtain ⟨q1, q2⟩ := HST2.out h (by first | trivial | rfl)
                  simp only [Prod.mk.injEq] at q1
                  rw [HTK.out, q1.1]
                  exact q2
              · have hp1 : (pe != 0) = true := by simpa using hpe
                have hp2 : (pe == 0) = false := by simpa using hpe
                clear hpe h3 h4 hf4 bP4
                go_wp2_with fail
                go_roundg (ds.length - (j + 1))
                case measure => (have := HJN.out; omega)
                case rel => exact ⟨j + 1, r2, _, true, HJN.out, by have := HJN.out; omega, by go_num, rfl, HP4.out, HF4.out, (fun h => by cases h), X4.out⟩
          · have ej : j = ds.length := by omega
            have htn := HTN.out
            rw [ej, List.take_length] at htn
            have HT2 := Lib.hid htn
            clear htn ej
            cases ov with
            | true =>
              go_wp2_with fail
              exact bodyPost_ret (results_t rfl _ _) rfl ⟨rfl, X6.out.trans xr⟩
            | false =>
              have hrb : r2 = b := HFIN.out r r2 HT1.out (HT2.out rfl)
              have HRB := Lib.hid hrb
              clear hrb
              have bBr := (E6.out.trans xr).keeps HBB.out
              have bPr := HBP.out
              go_wp2_with (first
                | ((with_reducible refine at_load 24 (.tmp 9) ?_); refine wpl_load (by rfl) 24 (.tmp 9) rfl P (by rfl) 24 #[.slice ar2 r2.length cr2] (0, 0) _ bPr Tryz.underlying24 rfl (infoRp _) ?_)
                | ((with_reducible refine at_load 24 (.tmp 3) ?_); refine wpl_load (by rfl) 24 (.tmp 3) rfl (G + 1) (by rfl) 24 #[.slice ab b.length cb] (0, 0) _ bBr Tryz.underlying24 rfl (infoRp _) ?_))
              refine Calls.mono (treeSame wr _ _ r2 b HFR.out (HB.out.ext (X6.out.trans xr))) ?_
              rintro e w9 ⟨rfl, x9⟩
              rw [decide_eq_true HRB.out]
              go_wp2_with fail
              exact bodyPost_ret (results_t rfl _ _) rfl ⟨rfl, (X6.out.trans xr).trans x9⟩
      · have e1 : (dl, de) = ([], 170) := by rw [← hDV]; unfold diffV; rw [if_neg hab]
        simp only [Prod.mk.injEq] at e1
        obtain ⟨rfl, rfl⟩ := e1
        clear hDV hab i5 bA4 bB4
        go_wp2_with fail
        exact bodyPost_ret (results_t rfl _ _) rfl ⟨rfl, X5⟩
theorem walkTreeTurns (w : World) (va : Value) (a : List Fl) (ha : ArgRepo w va a) (vb : Value) (b : List Fl) (hb : ArgRepo w vb b) (hT : Tabs w) :
    Calls Tryz.prog 6 #[va, vb] w fun e w' => e = .returned (.bool true) ∧ Below w.heap.size w w' := by
  obtain ⟨ua, rfl, ka⟩ := ha
  obtain ⟨ub, rfl, kb⟩ := hb
  exact walkTreeTurnsI w hT ua ub a b ka kb
end Go.Proofs.YtpadfabjihaapaaGreatDoor
