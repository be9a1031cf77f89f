/- The walk of TreeDiffs. -/
import Derived.Test.YtpadfabjihaapaaGreatDoorDfC
namespace Go.Proofs.YtpadfabjihaapaaGreatDoor
open Go.RowKit
set_option linter.unusedVariables false
set_option linter.unusedSimpArgs false

set_option maxRecDepth 100000 in
theorem dlNeq (w : World) (x : Dl) : (binOp .neq 55 (.agg (dlC x).toArray) (.agg (dlC x).toArray)).run Tryz.prog w = .ok (.bool false) w := by
  unfold dlC
  rw [run_neq_struct, show (10000 : Nat) = 9999 + 1 from rfl, run_equalIn_agg _ _ _ _ _ Tryz.underlying55 (by kernel_rfl)]
  simp only [Program.fieldsOf, Tryz.underlying55]
  simp [go_sem]
theorem dl_at {w : World} {ao : Option Addr} {n cap : Nat} {l : List Dl} (h : IsD w (.slice ao n cap) l) (i : Nat) (hi : i < l.length) :
    ∃ b off, ao = some ⟨b, off, none⟩ ∧ w.rangeAt b (off + i * 5) (dlC l[i]) := rows_at (by omega) h (fun x hx => rfl) i hi
set_option maxHeartbeats 8000000 in
set_option maxRecDepth 100000 in
theorem walkTreeDiffsI (w : World) (hT : Tabs w) (va vb : Value) (a b : List Fl) (ha : IsF w va a) (hb : IsF w vb b) :
    Calls Tryz.prog 4 #[.agg #[va], .agg #[vb]] w fun e w' => e = .returned (.bool true) ∧ Ext w w' := by
  have HT := Lib.hid hT
  have HA := Lib.hid ha
  have HB := Lib.hid hb
  obtain ⟨aa, ca, ea⟩ := sl_len ha.sl
  obtain ⟨ab, cb, eb⟩ := sl_len hb.sl
  subst ea
  subst eb
  clear ha hb hT
  go_enter Tryz.func4, Tryz.ntmps4
  go_upto_region 1 with fail
  obtain ⟨G, hG⟩ : ∃ G, w.heap.size = G := ⟨_, rfl⟩
  rw [hG]
  refine wp_forgetH (fun W => Ext w W ∧ W.heap[G]? = some (.cells #[.slice aa a.length ca] 24 (0, 0)) ∧ W.heap[G + 1]? = some (.cells #[.slice ab b.length cb] 24 (0, 0))) (new2d hG _ _) ?_
  rintro w1 ⟨x1, bA, bB⟩
  have HBA := Lib.hid bA
  have HBB := Lib.hid bB
  go_wp2_with fail
  refine Calls.mono (wakes07 w1 (HT.out.ext x1)) ?_
  rintro e w2 ⟨rfl, x2⟩
  have X2 := x1.trans x2
  have bA2 := x2.keeps bA
  go_wp2_with ((with_reducible refine at_load 24 (.tmp 2) ?_); refine wpl_load (by rfl) 24 (.tmp 2) rfl G (by rfl) 24 #[.slice aa a.length ca] (0, 0) _ bA2 Tryz.underlying24 rfl (infoRp _) ?_)
  refine Calls.mono (largeC w2 _ a (HA.out.ext X2)) ?_
  rintro e w3 ⟨b1, rfl, hlg1, x3⟩
  have X3 := X2.trans x3
  have HLG1 := Lib.hid hlg1
  clear hlg1
  cases b1 with
  | true =>
    go_wp2_with fail
    exact bodyPost_ret (results_t rfl _ _) rfl ⟨rfl, X3⟩
  | false =>
    have bB3 := (x2.trans x3).keeps bB
    go_wp2_with ((with_reducible refine at_load 24 (.tmp 3) ?_); refine wpl_load (by rfl) 24 (.tmp 3) rfl (G + 1) (by rfl) 24 #[.slice ab b.length cb] (0, 0) _ bB3 Tryz.underlying24 rfl (infoRp _) ?_)
    refine Calls.mono (largeC w3 _ b (HB.out.ext X3)) ?_
    rintro e w4 ⟨b2, rfl, hlg2, x4⟩
    have X4 := X3.trans x4
    have HLG2 := Lib.hid hlg2
    clear hlg2
    cases b2 with
    | true =>
      go_wp2_with fail
      exact bodyPost_ret (results_t rfl _ _) rfl ⟨rfl, X4⟩
    | false =>
      have hla := (HLG1.out (by first | trivial | rfl)).1
      have hlb := (HLG2.out (by first | trivial | rfl)).1
      have HX4 := Lib.hid X4
      have HE4 := Lib.hid ((x2.trans x3).trans x4)
      clear bA bB bA2 bB3 X2 X3 X4 x1 x2 x3 x4
      have KA := fun v (h : Ext w4 v) => block_allH ((HE4.out.trans h).keeps HBA.out)
      have KB := fun v (h : Ext w4 v) => block_allH ((HE4.out.trans h).keeps HBB.out)
      go_upto_region 5 with fail
      refine wp_region_S (fun v => Ext w4 v) (by kernel_rfl) (fun w' h => h) fun wd hqd xd hHeld => ?_
      refine wpAnyH_take (i := 0) (v := ?vpa0) rfl (by kernel_rfl) (by kernel_rfl) (by kernel_rfl) (fun _ _ _ h => h) (Or.inl ⟨by rfl, ?hypa0⟩) hHeld ?_
      case hypa0 => (intro w hSw; have kk := KA _ hSw; go_simp; try with_reducible rfl)
      simp only [Act.put, List.setIfInBounds_toArray, List.set_cons_zero, List.set_cons_succ, List.getElem_toArray, List.getElem_cons_zero, List.getElem_cons_succ]
      refine wpAnyH_take (i := 2) (v := ?vpa2) rfl (by kernel_rfl) (by kernel_rfl) (by kernel_rfl) (fun _ _ _ h => h) (Or.inl ⟨by rfl, ?hypa2⟩) hHeld ?_
      case hypa2 => (intro w hSw; have kk := KB _ hSw; go_simp; try with_reducible rfl)
      simp only [Act.put, List.setIfInBounds_toArray, List.set_cons_zero, List.set_cons_succ, List.getElem_toArray, List.getElem_cons_zero, List.getElem_cons_succ]
      refine wpAnyH_all (rs := [1]) (by kernel_rfl) (by simp) ?_
      intro i hi; obtain rfl : i = 1 := by simpa using hi
      refine wpOp_run rfl (by rfl) ?_
      go_simp
      refine Calls.mono (copiedC _ _ a (HA.out.ext (HX4.out.trans hHeld)) (by omega)) ?_
      rintro e u1 ⟨v1, rfl, i1, y1⟩
      obtain ⟨a1, c1, e1⟩ := sl_len i1.sl
      subst e1
      have hHeld := hHeld.trans y1
      first | refine ⟨fun _ => hHeld, ?_⟩ | refine ⟨hHeld, ?_⟩
      try simp only [Act.put, List.setIfInBounds_toArray, List.set_cons_zero, List.set_cons_succ, List.getElem_toArray, List.getElem_cons_zero, List.getElem_cons_succ]
      refine wpAnyH_all (rs := [3]) (by kernel_rfl) (by simp) ?_
      intro i hi; obtain rfl : i = 3 := by simpa using hi
      refine wpOp_run rfl (by rfl) ?_
      go_simp
      refine Calls.mono (copiedC _ _ b (HB.out.ext (HX4.out.trans hHeld)) (by omega)) ?_
      rintro e u2 ⟨v2, rfl, i2, y2⟩
      obtain ⟨a2, c2, e2⟩ := sl_len i2.sl
      subst e2
      have hHeld := hHeld.trans y2
      first | refine ⟨fun _ => hHeld, ?_⟩ | refine ⟨hHeld, ?_⟩
      try simp only [Act.put, List.setIfInBounds_toArray, List.set_cons_zero, List.set_cons_succ, List.getElem_toArray, List.getElem_cons_zero, List.getElem_cons_succ]
      refine wpAnyH_all (rs := [4]) (by kernel_rfl) (by simp) ?_
      intro i hi; obtain rfl : i = 4 := by simpa using hi
      refine wpOp_run rfl (by rfl) ?_
      go_simp
      refine Calls.mono (treeDiff _ _ _ a b (i1.ext y2) i2) ?_
      rintro e u3 ⟨v3, rfl, i3, y3⟩
      obtain ⟨DV, hDV⟩ : ∃ DV, diffV a b = DV := ⟨_, rfl⟩
      rw [hDV] at i3 ⊢
      obtain ⟨dl, de⟩ := DV
      simp only at i3
      obtain ⟨a3, c3, e3⟩ := sl_len i3
      subst e3
      have hHeld := hHeld.trans y3
      first | refine ⟨fun _ => hHeld, ?_⟩ | refine ⟨hHeld, ?_⟩
      try simp only [Act.put, List.setIfInBounds_toArray, List.set_cons_zero, List.set_cons_succ, List.getElem_toArray, List.getElem_cons_zero, List.getElem_cons_succ]
      refine wpAnyH_take (i := 5) (v := ?vpa5) rfl (by kernel_rfl) (by kernel_rfl) (by kernel_rfl) (fun _ _ _ h => h) (Or.inl ⟨by rfl, ?hypa5⟩) hHeld ?_
      case hypa5 => (intro w hSw; go_simp; try with_reducible rfl)
      simp only [Act.put, List.setIfInBounds_toArray, List.set_cons_zero, List.set_cons_succ, List.getElem_toArray, List.getElem_cons_zero, List.getElem_cons_succ]
      refine wpAnyH_take (i := 6) (v := ?vpa6) rfl (by kernel_rfl) (by kernel_rfl) (by kernel_rfl) (fun _ _ _ h => h) (Or.inl ⟨by rfl, ?hypa6⟩) hHeld ?_
      case hypa6 => (intro w hSw; go_simp; try with_reducible rfl)
      simp only [Act.put, List.setIfInBounds_toArray, List.set_cons_zero, List.set_cons_succ, List.getElem_toArray, List.getElem_cons_zero, List.getElem_cons_succ]
      refine wpAnyH_take (i := 7) (v := ?vpa7) rfl (by kernel_rfl) (by kernel_rfl) (by kernel_rfl) (fun _ _ _ h => h) (Or.inl ⟨by rfl, ?hypa7⟩) hHeld ?_
      case hypa7 => (intro w hSw; go_simp; try with_reducible rfl)
      simp only [Act.put, List.setIfInBounds_toArray, List.set_cons_zero, List.set_cons_succ, List.getElem_toArray, List.getElem_cons_zero, List.getElem_cons_succ]
      refine wpAnyH_take (i := 8) (v := ?vpa8) rfl (by kernel_rfl) (by kernel_rfl) (by kernel_rfl) (fun _ _ _ h => h) (Or.inl ⟨by rfl, ?hypa8⟩) hHeld ?_
      case hypa8 => (intro w hSw; go_simp; try with_reducible rfl)
      simp only [Act.put, List.setIfInBounds_toArray, List.set_cons_zero, List.set_cons_succ, List.getElem_toArray, List.getElem_cons_zero, List.getElem_cons_succ]
      refine wpAnyH_take (i := 9) (v := ?vpa9) rfl (by kernel_rfl) (by kernel_rfl) (by kernel_rfl) (fun _ _ _ h => h) (Or.inl ⟨by rfl, ?hypa9⟩) hHeld ?_
      case hypa9 => (intro w hSw; go_simp; try with_reducible rfl)
      simp only [Act.put, List.setIfInBounds_toArray, List.set_cons_zero, List.set_cons_succ, List.getElem_toArray, List.getElem_cons_zero, List.getElem_cons_succ]
      refine wpAnyH_done (by kernel_rfl) ?_ _
      refine NoPanic.normal ?_
      have HE5 := Lib.hid hHeld
      have HI3 := Lib.hid i3
      have HDV := Lib.hid hDV
      obtain ⟨w5, rfl⟩ : ∃ x, x = u3 := ⟨_, rfl⟩
      clear i3 hDV i1 i2 y1 y2 y3
      go_upto_region 6 with fail
      have KA5 := fun v (h : Ext w5 v) => KA _ (HE5.out.trans h)
      have KB5 := fun v (h : Ext w5 v) => KB _ (HE5.out.trans h)
      refine wp_region_S (fun v => Ext w5 v) (by kernel_rfl) (fun w' h => h) fun wd hqd xd hHeld => ?_
      refine wpAnyH_take (i := 0) (v := ?vpb0) rfl (by kernel_rfl) (by kernel_rfl) (by kernel_rfl) (fun _ _ _ h => h) (Or.inl ⟨by rfl, ?hypb0⟩) hHeld ?_
      case hypb0 => (intro w hSw; have kk := KA5 _ hSw; go_simp; try with_reducible rfl)
      simp only [Act.put, List.setIfInBounds_toArray, List.set_cons_zero, List.set_cons_succ, List.getElem_toArray, List.getElem_cons_zero, List.getElem_cons_succ]
      refine wpAnyH_take (i := 1) (v := ?vpb1) rfl (by kernel_rfl) (by kernel_rfl) (by kernel_rfl) (fun _ _ _ h => h) (Or.inl ⟨by rfl, ?hypb1⟩) hHeld ?_
      case hypb1 => (intro w hSw; have kk := KB5 _ hSw; go_simp; try with_reducible rfl)
      simp only [Act.put, List.setIfInBounds_toArray, List.set_cons_zero, List.set_cons_succ, List.getElem_toArray, List.getElem_cons_zero, List.getElem_cons_succ]
      refine wpAnyH_take (i := 3) (v := ?vpb3) rfl (by kernel_rfl) (by kernel_rfl) (by kernel_rfl) (fun _ _ _ h => h) (Or.inl ⟨by rfl, ?hypb3⟩) hHeld ?_
      case hypb3 => (intro w hSw; have kk := KA5 _ hSw; go_simp; try with_reducible rfl)
      simp only [Act.put, List.setIfInBounds_toArray, List.set_cons_zero, List.set_cons_succ, List.getElem_toArray, List.getElem_cons_zero, List.getElem_cons_succ]
      refine wpAnyH_take (i := 4) (v := ?vpb4) rfl (by kernel_rfl) (by kernel_rfl) (by kernel_rfl) (fun _ _ _ h => h) (Or.inl ⟨by rfl, ?hypb4⟩) hHeld ?_
      case hypb4 => (intro w hSw; have kk := KB5 _ hSw; go_simp; try with_reducible rfl)
      simp only [Act.put, List.setIfInBounds_toArray, List.set_cons_zero, List.set_cons_succ, List.getElem_toArray, List.getElem_cons_zero, List.getElem_cons_succ]
      refine wpAnyH_all (rs := [2]) (by kernel_rfl) (by simp) ?_
      intro i hi; obtain rfl : i = 2 := by simpa using hi
      refine wpOp_run rfl (by rfl) ?_
      go_simp
      refine Calls.mono (treeSame _ _ _ a b (HA.out.ext (HX4.out.trans (HE5.out.trans hHeld))) (HB.out.ext (HX4.out.trans (HE5.out.trans hHeld)))) ?_
      rintro e u4 ⟨rfl, y4⟩
      have hHeld := hHeld.trans y4
      first | refine ⟨fun _ => hHeld, ?_⟩ | refine ⟨hHeld, ?_⟩
      try simp only [Act.put, List.setIfInBounds_toArray, List.set_cons_zero, List.set_cons_succ, List.getElem_toArray, List.getElem_cons_zero, List.getElem_cons_succ]
      refine wpAnyH_all (rs := [5]) (by kernel_rfl) (by simp) ?_
      intro i hi; obtain rfl : i = 5 := by simpa using hi
      refine wpOp_run rfl (by rfl) ?_
      go_simp
      refine Calls.mono (refSame07 _ _ _ a b (HA.out.ext (HX4.out.trans (HE5.out.trans hHeld))) (HB.out.ext (HX4.out.trans (HE5.out.trans hHeld)))) ?_
      rintro e u5 ⟨rfl, y5⟩
      have hbb : (decide (a = b) != decide (a = b)) = false := by simp
      have hHeld := hHeld.trans y5
      first | refine ⟨fun _ => hHeld, ?_⟩ | refine ⟨hHeld, ?_⟩
      try simp only [Act.put, List.setIfInBounds_toArray, List.set_cons_zero, List.set_cons_succ, List.getElem_toArray, List.getElem_cons_zero, List.getElem_cons_succ]
      refine wpAnyH_take (i := 6) (v := ?vpb6) rfl (by kernel_rfl) (by kernel_rfl) (by kernel_rfl) (fun _ _ _ h => h) (Or.inl ⟨by rfl, ?hypb6⟩) hHeld ?_
      case hypb6 => (intro w hSw; go_simp; try with_reducible rfl)
      simp only [Act.put, List.setIfInBounds_toArray, List.set_cons_zero, List.set_cons_succ, List.getElem_toArray, List.getElem_cons_zero, List.getElem_cons_succ]
      refine wpAnyH_done (by kernel_rfl) ?_ _
      refine NoPanic.normal ?_
      have HE6 := Lib.hid (HE5.out.trans hHeld)
      have HI6 := Lib.hid (show IsD u5 (.slice a3 dl.length c3) dl from HI3.out.ext hHeld)
      obtain ⟨w6, rfl⟩ : ∃ x, x = u5 := ⟨_, rfl⟩
      clear KA5 KB5 y4 y5 hHeld
      have bA6 := (HE4.out.trans HE6.out).keeps HBA.out
      go_wp2_with ((with_reducible refine at_load 24 (.tmp 2) ?_); refine wpl_load (by rfl) 24 (.tmp 2) rfl G (by rfl) 24 #[.slice aa a.length ca] (0, 0) _ bA6 Tryz.underlying24 rfl (infoRp _) ?_)
      refine Calls.mono (refRight07 w6 _ a (HA.out.ext (HX4.out.trans HE6.out))) ?_
      rintro e w7 ⟨rfl, x7⟩
      have HE7 := Lib.hid (HE6.out.trans x7)
      have HI7 := Lib.hid (show IsD w7 (.slice a3 dl.length c3) dl from HI6.out.ext x7)
      clear bA6 x7
      cases hra : repoB a with
      | false =>
        have e1 : (dl, de) = ([], 170) := by rw [← HDV.out]; unfold diffV; rw [if_neg (fun h => by rw [hra] at h; cases h.1)]
        simp only [Prod.mk.injEq] at e1
        obtain ⟨rfl, rfl⟩ := e1
        go_wp2_with fail
        exact bodyPost_ret (results_t rfl _ _) rfl ⟨rfl, HX4.out.trans HE7.out⟩
      | true =>
        have HRA := Lib.hid hra
        have bB7 := (HE4.out.trans HE7.out).keeps HBB.out
        clear hra
        go_wp2_with ((with_reducible refine at_load 24 (.tmp 3) ?_); refine wpl_load (by rfl) 24 (.tmp 3) rfl (G + 1) (by rfl) 24 #[.slice ab b.length cb] (0, 0) _ bB7 Tryz.underlying24 rfl (infoRp _) ?_)
        refine Calls.mono (refRight07 w7 _ b (HB.out.ext (HX4.out.trans HE7.out))) ?_
        rintro e w8 ⟨rfl, x8⟩
        have HE8 := Lib.hid (HE7.out.trans x8)
        have HI8 := Lib.hid (show IsD w8 (.slice a3 dl.length c3) dl from HI7.out.ext x8)
        clear bB7 x8
        cases hrb : repoB b with
        | false =>
          have e1 : (dl, de) = ([], 170) := by rw [← HDV.out]; unfold diffV; rw [if_neg (fun h => by rw [hrb] at h; cases h.2)]
          simp only [Prod.mk.injEq] at e1
          obtain ⟨rfl, rfl⟩ := e1
          go_wp2_with fail
          exact bodyPost_ret (results_t rfl _ _) rfl ⟨rfl, HX4.out.trans HE8.out⟩
        | true =>
          have e1 : (dl, de) = (diffL a b, 0) := by rw [← HDV.out]; unfold diffV; rw [if_pos ⟨HRA.out, hrb⟩]
          simp only [Prod.mk.injEq] at e1
          obtain ⟨rfl, rfl⟩ := e1
          have la := repo_len HRA.out
          have lb := repo_len hrb
          have bA8 := (HE4.out.trans HE8.out).keeps HBA.out
          have bB8 := (HE4.out.trans HE8.out).keeps HBB.out
          clear hrb
          go_wp2_with (first
            | ((with_reducible refine at_load 24 (.tmp 2) ?_); refine wpl_load (by rfl) 24 (.tmp 2) rfl G (by rfl) 24 #[.slice aa a.length ca] (0, 0) _ bA8 Tryz.underlying24 rfl (infoRp _) ?_)
            | ((with_reducible refine at_load 24 (.tmp 3) ?_); refine wpl_load (by rfl) 24 (.tmp 3) rfl (G + 1) (by rfl) 24 #[.slice ab b.length cb] (0, 0) _ bB8 Tryz.underlying24 rfl (infoRp _) ?_))
          refine Calls.mono (refDiff w8 _ _ a b (HA.out.ext (HX4.out.trans HE8.out)) (HB.out.ext (HX4.out.trans HE8.out)) la lb) ?_
          rintro e w9 ⟨v9, rfl, i9, x9⟩
          obtain ⟨a9, c9, e9⟩ := sl_len i9
          subst e9
          have HI9 := Lib.hid i9
          have HJ9 := Lib.hid (show IsD w9 (.slice a3 (diffL a b).length c3) (diffL a b) from HI8.out.ext x9)
          have HE9 := Lib.hid (HE8.out.trans x9)
          obtain ⟨_, k3, m3⟩ := sl_cap HJ9.out
          obtain ⟨_, k9, m9⟩ := sl_cap HI9.out
          clear i9 bA8 bB8 x9 KA KB
          generalize diffL a b = ds at *
          go_wp2_with fail
          go_loopg [61] ds.length (fun q s61 wr => ∃ j : Nat, j ≤ ds.length ∧ ds.length - j ≤ q ∧ s61 = .int .i64 (j : Int) ∧ Ext w9 wr)
          case atStart => exact ⟨0, Nat.zero_le _, by omega, rfl, Ext.refl _⟩
          case round =>
          obtain ⟨j, hj, hq, rfl, xr⟩ := hrel
          by_cases hjl : j < ds.length
          · obtain ⟨pb, o, rfl, hr3⟩ := dl_at (IsSl.ext HJ9.out xr) j hjl
            obtain ⟨pc, o2, rfl, hr9⟩ := dl_at (IsSl.ext HI9.out xr) j hjl
            obtain ⟨d, hdj⟩ : ∃ d, ds[j] = d := ⟨_, rfl⟩
            rw [hdj] at hr3 hr9
            have HR3 := Lib.hid hr3
            have HR9 := Lib.hid hr9
            have hinf : (Tryz.prog.info? 55).map (·.size) = some (dlC d).length := by kernel_rfl
            have hnq := fun W => dlNeq W d
            have j0 : (0 : Int) ≤ (j : Int) := Int.natCast_nonneg _
            have j1 : (j : Int) < (ds.length : Int) := by omega
            clear hr3 hr9 hdj
            go_upto_region 16 with fail
            refine wp_region_S (fun v => Ext wr v) (by kernel_rfl) (fun w' h => h) fun wd hqd xd hHeld => ?_
            refine wpAnyH_take (i := 0) (v := ?vpc0) rfl (by kernel_rfl) (by kernel_rfl) (by kernel_rfl) (fun _ _ _ h => h) (Or.inl ⟨by rfl, ?hypc0⟩) hHeld ?_
            case hypc0 => (intro w hSw; go_simp; try with_reducible rfl)
            simp only [Act.put, List.setIfInBounds_toArray, List.set_cons_zero, List.set_cons_succ, List.getElem_toArray, List.getElem_cons_zero, List.getElem_cons_succ]
            refine wpAnyH_take (i := 1) (v := ?vpc1) rfl (by kernel_rfl) (by kernel_rfl) (by kernel_rfl) (fun _ _ _ h => h) (Or.inl ⟨by rfl, ?hypc1⟩) hHeld ?_
            case hypc1 => (intro w hSw; go_simp; try with_reducible rfl)
            simp only [Act.put, List.setIfInBounds_toArray, List.set_cons_zero, List.set_cons_succ, List.getElem_toArray, List.getElem_cons_zero, List.getElem_cons_succ]
            refine wpAnyH_take (i := 2) (v := ?vpc2) rfl (by kernel_rfl) (by kernel_rfl) (by kernel_rfl) (fun _ _ _ h => h) (Or.inl ⟨by rfl, ?hypc2⟩) hHeld ?_
            case hypc2 => (intro w hSw; go_simp; try with_reducible rfl)
            simp only [Act.put, List.setIfInBounds_toArray, List.set_cons_zero, List.set_cons_succ, List.getElem_toArray, List.getElem_cons_zero, List.getElem_cons_succ]
            refine wpAnyH_take (i := 3) (v := _) rfl (by kernel_rfl) (by kernel_rfl) (by kernel_rfl) (fun _ _ _ h => h) (yieldsIf_load_mid (by rfl) _ _ rfl _ _ rfl (dlC d) _ (fun w hSw => rangeAt_ext HR3.out hSw) Tryz.underlying55 rfl hinf) hHeld ?_
            simp only [Act.put, List.setIfInBounds_toArray, List.set_cons_zero, List.set_cons_succ, List.getElem_toArray, List.getElem_cons_zero, List.getElem_cons_succ]
            refine wpAnyH_take (i := 4) (v := ?vpc4) rfl (by kernel_rfl) (by kernel_rfl) (by kernel_rfl) (fun _ _ _ h => h) (Or.inl ⟨by rfl, ?hypc4⟩) hHeld ?_
            case hypc4 => (intro w hSw; go_simp; try with_reducible rfl)
            simp only [Act.put, List.setIfInBounds_toArray, List.set_cons_zero, List.set_cons_succ, List.getElem_toArray, List.getElem_cons_zero, List.getElem_cons_succ]
            refine wpAnyH_take (i := 5) (v := ?vpc5) rfl (by kernel_rfl) (by kernel_rfl) (by kernel_rfl) (fun _ _ _ h => h) (Or.inl ⟨by rfl, ?hypc5⟩) hHeld ?_
            case hypc5 => (intro w hSw; go_simp; try with_reducible rfl)
            simp only [Act.put, List.setIfInBounds_toArray, List.set_cons_zero, List.set_cons_succ, List.getElem_toArray, List.getElem_cons_zero, List.getElem_cons_succ]
            refine wpAnyH_take (i := 6) (v := ?vpc6) rfl (by kernel_rfl) (by kernel_rfl) (by kernel_rfl) (fun _ _ _ h => h) (Or.inl ⟨by rfl, ?hypc6⟩) hHeld ?_
            case hypc6 => (intro w hSw; go_simp; try with_reducible rfl)
            simp only [Act.put, List.setIfInBounds_toArray, List.set_cons_zero, List.set_cons_succ, List.getElem_toArray, List.getElem_cons_zero, List.getElem_cons_succ]
            refine wpAnyH_take (i := 7) (v := _) rfl (by kernel_rfl) (by kernel_rfl) (by kernel_rfl) (fun _ _ _ h => h) (yieldsIf_load_mid (by rfl) _ _ rfl _ _ rfl (dlC d) _ (fun w hSw => rangeAt_ext HR9.out hSw) Tryz.underlying55 rfl hinf) hHeld ?_
            simp only [Act.put, List.setIfInBounds_toArray, List.set_cons_zero, List.set_cons_succ, List.getElem_toArray, List.getElem_cons_zero, List.getElem_cons_succ]
            refine wpAnyH_take (i := 8) (v := ?vpc8) rfl (by kernel_rfl) (by kernel_rfl) (by kernel_rfl) (fun _ _ _ h => h) (Or.inl ⟨by rfl, ?hypc8⟩) hHeld ?_
            case hypc8 => (intro w hSw; have kk := hnq w; go_simp; try with_reducible rfl)
            simp only [Act.put, List.setIfInBounds_toArray, List.set_cons_zero, List.set_cons_succ, List.getElem_toArray, List.getElem_cons_zero, List.getElem_cons_succ]
            refine wpAnyH_done (by kernel_rfl) ?_ _
            refine NoPanic.normal ?_
            go_wp2_with fail
            go_roundg (ds.length - (j + 1))
            case measure => omega
            case rel => exact ⟨j + 1, by omega, by omega, by go_num, xr.trans xd⟩
          · obtain rfl : j = ds.length := by omega
            go_wp2_with fail
            exact bodyPost_ret (results_t rfl _ _) rfl ⟨rfl, HX4.out.trans (HE9.out.trans xr)⟩
theorem walkTreeDiffs (w : World) (va : Value) (a : List Fl) (ha : ArgRepo w va a) (vb : Value) (b : List Fl) (hb : ArgRepo w vb b) (hT : Tabs w) :
    Calls Tryz.prog 4 #[va, vb] w fun e w' => e = .returned (.bool true) ∧ Below w.heap.size w w' := by
  obtain ⟨ua, rfl, ka⟩ := ha
  obtain ⟨ub, rfl, kb⟩ := hb
  exact walkTreeDiffsI w hT ua ub a b ka kb
end Go.Proofs.YtpadfabjihaapaaGreatDoor
