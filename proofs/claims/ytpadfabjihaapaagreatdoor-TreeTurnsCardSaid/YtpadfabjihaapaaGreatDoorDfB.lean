/- tree.Diff. -/
import Derived.Test.YtpadfabjihaapaaGreatDoorDfP
import Derived.BigGuardPart
namespace Go.Proofs.YtpadfabjihaapaaGreatDoor
open Go.RowKit
set_option linter.unusedVariables false
set_option linter.unusedSimpArgs false

/-- Differences in a slice. -/
def IsD (w : World) (v : Value) (l : List Dl) : Prop := IsSl w v 5 l.length (l.flatMap dlC)
/-- What tree.Diff answers. -/
def diffV (a b : List Fl) : List Dl × Int := if repoB a = true ∧ repoB b = true then (diffL a b, 0) else ([], 170)
theorem new2d {w : World} {G : Nat} (hG : w.heap.size = G) (a b : Obj) : Ext w ((w.alloc a).alloc b) ∧ ((w.alloc a).alloc b).heap[G]? = some a ∧ ((w.alloc a).alloc b).heap[G + 1]? = some b :=
  ⟨((Ext.refl w).alloc _).alloc _, blk_old (blk_new hG), blk_new (by simp [hG])⟩
theorem results_tt {P : Program} {fn : Func} {p q : Tmp} (h : fn.results = #[.tmp p, .tmp q]) (tmps : Array Value) (w : World) : (results fn tmps).run P w = .ok (.tuple #[tmps.getD p undef, tmps.getD q undef]) w := by
  simp [results, h]
set_option maxHeartbeats 8000000 in
set_option maxRecDepth 100000 in
theorem treeDiff (w : World) (va vb : Value) (a b : List Fl) (ha : IsF w va a) (hb : IsF w vb b) :
    Calls Tryz.prog 16 #[.agg #[va], .agg #[vb]] w fun e w' => ∃ v, e = .returned (.tuple #[v, .int .i64 (diffV a b).2]) ∧ IsD w' v (diffV a b).1 ∧ Ext w w' := by
  obtain ⟨R, hR⟩ : ∃ R, diffV a b = R := ⟨_, rfl⟩
  rw [hR]
  have HR := Lib.hid hR
  have HA := Lib.hid ha
  have HB := Lib.hid hb
  obtain ⟨aa, ca, ea⟩ := sl_len ha.sl
  obtain ⟨ab, cb, eb⟩ := sl_len hb.sl
  subst ea
  subst eb
  clear hR ha hb
  go_enter Tryz.func16, Tryz.ntmps16
  go_upto_region 1 with fail
  obtain ⟨G, hG⟩ : ∃ G, w.heap.size = G := ⟨_, rfl⟩
  rw [hG]
  refine wp_forgetH (fun W => Ext w W ∧ W.heap[G]? = some (.cells #[.slice aa a.length ca] 24 (0, 0)) ∧ W.heap[G + 1]? = some (.cells #[.slice ab b.length cb] 24 (0, 0))) (new2d hG _ _) ?_
  rintro w1 ⟨x1, bA, bB⟩
  have hG1 : G + 2 ≤ w1.heap.size := block_lt bB
  go_wp2_with ((with_reducible refine at_load 24 (.tmp 2) ?_); refine wpl_load (by rfl) 24 (.tmp 2) rfl G (by rfl) 24 #[.slice aa a.length ca] (0, 0) _ bA Tryz.underlying24 rfl (infoRp _) ?_)
  refine Calls.mono (treeCheck w1 _ a (HA.out.ext x1)) ?_
  rintro e w2 ⟨rfl, x2⟩
  have X2 := x1.trans x2
  have bA2 := x2.keeps bA
  have bB2 := x2.keeps bB
  cases hra : repoB a with
  | false =>
    rw [show errR false = 170 from rfl]
    obtain rfl : ([], 170) = R := by rw [← HR.out]; unfold diffV; rw [if_neg (fun h => by rw [hra] at h; cases h.1)]
    go_wp2_with fail
    exact bodyPost_ret (results_tt rfl _ _) rfl ⟨_, rfl, isSl_nil _ 5, X2⟩
  | true =>
    rw [show errR true = 0 from rfl]
    have HRA := Lib.hid hra
    clear hra
    go_wp2_with ((with_reducible refine at_load 24 (.tmp 3) ?_); refine wpl_load (by rfl) 24 (.tmp 3) rfl (G + 1) (by rfl) 24 #[.slice ab b.length cb] (0, 0) _ bB2 Tryz.underlying24 rfl (infoRp _) ?_)
    refine Calls.mono (treeCheck w2 _ b (HB.out.ext X2)) ?_
    rintro e w3 ⟨rfl, x3⟩
    have X3 := X2.trans x3
    have bA3 := x3.keeps bA2
    have bB3 := x3.keeps bB2
    cases hrb : repoB b with
    | false =>
      rw [show errR false = 170 from rfl]
      obtain rfl : ([], 170) = R := by rw [← HR.out]; unfold diffV; rw [if_neg (fun h => by rw [hrb] at h; cases h.2)]
      go_wp2_with fail
      exact bodyPost_ret (results_tt rfl _ _) rfl ⟨_, rfl, isSl_nil _ 5, X3⟩
    | true =>
      rw [show errR true = 0 from rfl]
      have hRR : R = (diffL a b, 0) := by rw [← HR.out]; unfold diffV; rw [if_pos ⟨HRA.out, hrb⟩]
      subst hRR
      have HSA := Lib.hid (repo_sorted HRA.out)
      have HSB := Lib.hid (repo_sorted hrb)
      have la := repo_len HRA.out
      have lb := repo_len hrb
      have HAW := Lib.hid (HA.out.ext X3)
      have HBW := Lib.hid (HB.out.ext X3)
      have HBA := Lib.hid bA3
      have HBB := Lib.hid bB3
      clear hrb bA bB bA2 bB2 bA3 bB3 x1 x2 x3 X2
      go_upto_region 4 with fail
      obtain ⟨L, hL⟩ : ∃ L, w3.heap.size = L := ⟨_, rfl⟩
      rw [hL]
      refine wp_forgetH (fun W => Ext w3 W ∧ W.heap[L]? = some (.cells #[nilS] 49 (0, 0))) ⟨(Ext.refl w3).alloc _, blk_new hL⟩ ?_
      rintro w4 ⟨x4, bL⟩
      have hL4 := block_lt bL
      have kA := block_allH (x4.keeps HBA.out)
      have HL4 := Lib.hid bL
      clear bL
      go_wp2_with fail
      clear kA
      go_loopg [26] a.length (fun q s26 wr => ∃ (j : Nat) (lv : Value) (ds : List Dl), j ≤ a.length ∧ a.length - j ≤ q ∧ s26 = .int .i64 (j : Int) ∧ ds = ((a.take j).map fun f => dlt a b f.path).filter dlB ∧ wr.heap[L]? = some (.cells #[lv] 49 (0, 0)) ∧ wr.ownsRow L 55 5 lv ds.length (ds.flatMap dlC) ∧ Ext w3 wr ∧ L ≤ wr.heap.size)
      case atStart => exact ⟨0, nilS, [], Nat.zero_le _, by omega, rfl, by simp, HL4.out, World.ownsRow_nil _ _ _ _, x4, by omega⟩
      case round =>
      obtain ⟨j, lv, ds, hj, hq, rfl, hds, bLr, own, xr, szr⟩ := hrel
      have HDS := Lib.hid hds
      have HOW := Lib.hid own
      have HBL := Lib.hid bLr
      clear hds own bLr
      by_cases hjl : j < a.length
      · obtain ⟨_, _, e0, _, _, _, g1⟩ := (HAW.out.ext xr).opened
        simp only [Value.slice.injEq, true_and] at e0
        obtain ⟨rfl, rfl⟩ := e0
        obtain ⟨pb, o, rfl, e0, e1⟩ := g1 j hjl
        have htk : a.take (j + 1) = a.take j ++ [a[j]] := by rw [List.take_succ_eq_append_getElem hjl]
        generalize a[j] = f at *
        have hlen : ds.length ≤ 16 := by
          rw [HDS.out]
          exact Nat.le_trans (List.length_filter_le _ _) (by rw [List.length_map, List.length_take]; omega)
        have HTK := Lib.hid htk
        clear g1 htk
        go_upto_region 8 with fail
        refine wp_forgetH (fun W => Ext wr W ∧ W.heap[wr.heap.size]? = some (.cells (flC f).toArray 66 (0, 0))) ⟨(Ext.refl wr).alloc _, heap_alloc_new _ _⟩ ?_
        rintro w5 ⟨x5, b5⟩
        have k5 : w5.cell? ⟨wr.heap.size, 0, none⟩ = some (.string f.path) := by rw [block_cell b5]; rfl
        have hs5 := x5.size
        generalize wr.heap.size = F at *
        go_wp2_with fail
        refine Calls.mono (diffAdd w3 w5 G (G + 1) L L _ _ lv a b HAW.out HBW.out HSA.out HSB.out la lb HBA.out HBB.out (x5.keeps HBL.out) ds (ownsRow_ext HOW.out x5) (by omega) (xr.trans x5) (by omega) (by omega) (by omega) f.path) ?_
        rintro e w6 ⟨rfl, lv6, bL6, own6, x6, s6⟩
        have HOW6 := Lib.hid own6
        have HBL6 := Lib.hid bL6
        clear own6 bL6 k5 b5
        go_wp2_with fail
        go_roundg (a.length - (j + 1))
        case measure => omega
        case rel => exact ⟨j + 1, lv6, ds ++ [dlt a b f.path].filter dlB, by omega, by omega, by go_num, by rw [HTK.out, List.map_append, List.filter_append, ← HDS.out]; rfl, HBL6.out, HOW6.out, x6, by omega⟩
      · have ej : j = a.length := by omega
        have hds := HDS.out
        rw [ej, List.take_length] at hds
        have HDA := Lib.hid hds
        have hlen : ds.length ≤ 16 := by rw [hds]; exact Nat.le_trans (List.length_filter_le _ _) (by rw [List.length_map]; omega)
        obtain ⟨wL, rfl⟩ : ∃ x, x = wr := ⟨_, rfl⟩
        have kB := block_allH (xr.keeps HBB.out)
        clear hds HDS ej
        go_wp2_with fail
        clear kB
        go_loopg [38] b.length (fun q s38 wr2 => ∃ (j2 : Nat) (lv2 : Value) (ds2 : List Dl), j2 ≤ b.length ∧ b.length - j2 ≤ q ∧ s38 = .int .i64 (j2 : Int) ∧ ds2 = ds ++ (((b.take j2).filter (notIn a)).map fun f => dlt a b f.path).filter dlB ∧ wr2.heap[L]? = some (.cells #[lv2] 49 (0, 0)) ∧ wr2.ownsRow L 55 5 lv2 ds2.length (ds2.flatMap dlC) ∧ Ext w3 wr2 ∧ L ≤ wr2.heap.size)
        case atStart => exact ⟨0, lv, ds, Nat.zero_le _, by omega, rfl, by simp, HBL.out, HOW.out, xr, szr⟩
        case round =>
        obtain ⟨j2, lv2, ds2, hj2, hq2, rfl, hds2, bL2, own2, xr2, szr2⟩ := hrel
        have HDS2 := Lib.hid hds2
        have HOW2 := Lib.hid own2
        have HBL2 := Lib.hid bL2
        clear hds2 own2 bL2
        by_cases hjl2 : j2 < b.length
        · obtain ⟨_, _, e0, _, _, _, g1⟩ := (HBW.out.ext xr2).opened
          simp only [Value.slice.injEq, true_and] at e0
          obtain ⟨rfl, rfl⟩ := e0
          obtain ⟨pb, o, rfl, e0, e1⟩ := g1 j2 hjl2
          have htk : b.take (j2 + 1) = b.take j2 ++ [b[j2]] := by rw [List.take_succ_eq_append_getElem hjl2]
          generalize b[j2] = f at *
          have hlen2 : ds2.length ≤ 32 := by
            rw [HDS2.out, List.length_append]
            have h1 := List.length_filter_le dlB (((b.take j2).filter (notIn a)).map fun f => dlt a b f.path)
            have h2 := List.length_filter_le (notIn a) (b.take j2)
            rw [List.length_map] at h1
            rw [List.length_take] at h2
            omega
          have HTK := Lib.hid htk
          clear g1 htk
          go_upto_region 13 with fail
          refine wp_forgetH (fun W => Ext wr W ∧ W.heap[wr.heap.size]? = some (.cells (flC f).toArray 66 (0, 0))) ⟨(Ext.refl wr).alloc _, heap_alloc_new _ _⟩ ?_
          rintro w5 ⟨x5, b5⟩
          have k5 : w5.cell? ⟨wr.heap.size, 0, none⟩ = some (.string f.path) := by rw [block_cell b5]; rfl
          have hs5 := x5.size
          generalize wr.heap.size = F at *
          have bA5 := (xr2.trans x5).keeps HBA.out
          go_wp2_with ((with_reducible refine at_load 24 (.tmp 2) ?_); refine wpl_load (by rfl) 24 (.tmp 2) rfl G (by rfl) 24 #[.slice aa a.length ca] (0, 0) _ bA5 Tryz.underlying24 rfl (infoRp _) ?_)
          refine Calls.mono (treeFind w5 _ a (HAW.out.ext (xr2.trans x5)) f.path HSA.out (by omega)) ?_
          rintro e w6 ⟨i, hi, rfl, x6⟩
          obtain ⟨q1, q2⟩ := hit_has HSA.out hi
          have k6 := x6.cell k5
          have hs6 := x6.size
          cases hh : hitB a f.path i with
          | true =>
            obtain ⟨hil, hg⟩ := q1 hh
            have hni : notIn a f = false := by unfold notIn; rw [hg]; rfl
            have HNI := Lib.hid hni
            clear q1 q2 hg hni
            go_wp2_with fail
            go_roundg (b.length - (j2 + 1))
            case measure => omega
            case rel => exact ⟨j2 + 1, lv2, ds2, by omega, by omega, by go_num, by rw [HTK.out, List.filter_append, List.filter_cons_of_neg (by rw [HNI.out]; decide), List.filter_nil, List.append_nil]; exact HDS2.out, (x5.trans x6).keeps HBL2.out, ownsRow_ext HOW2.out (x5.trans x6), xr2.trans (x5.trans x6), by omega⟩
          | false =>
            have hni : notIn a f = true := by unfold notIn; rw [q2 hh]; rfl
            have HNI := Lib.hid hni
            clear q1 q2 hni
            go_wp2_with fail
            refine Calls.mono (diffAdd w3 w6 G (G + 1) L L _ _ lv2 a b HAW.out HBW.out HSA.out HSB.out la lb HBA.out HBB.out ((x5.trans x6).keeps HBL2.out) ds2 (ownsRow_ext HOW2.out (x5.trans x6)) (by omega) (xr2.trans (x5.trans x6)) (by omega) (by omega) (by omega) f.path) ?_
            rintro e w7 ⟨rfl, lv7, bL7, own7, x7, s7⟩
            have HOW7 := Lib.hid own7
            have HBL7 := Lib.hid bL7
            clear own7 bL7 k5 k6 b5
            go_wp2_with fail
            go_roundg (b.length - (j2 + 1))
            case measure => omega
            case rel => exact ⟨j2 + 1, lv7, ds2 ++ [dlt a b f.path].filter dlB, by omega, by omega, by go_num, by rw [HTK.out, List.filter_append, List.filter_cons_of_pos HNI.out, List.filter_nil, List.map_append, List.filter_append, ← List.append_assoc, ← HDS2.out]; rfl, HBL7.out, HOW7.out, x7, by omega⟩
        · have ej : j2 = b.length := by omega
          have hds2 := HDS2.out
          rw [ej, List.take_length, HDA.out] at hds2
          have hraw : ds2 = (rawL a b).filter dlB := by rw [hds2]; unfold rawL; rw [List.filter_append]
          have hlen2 : ds2.length ≤ 1000 := by
            rw [hraw]
            refine Nat.le_trans (List.length_filter_le _ _) ?_
            unfold rawL
            rw [List.length_append, List.length_map, List.length_map]
            have := List.length_filter_le (notIn a) b
            omega
          have HRAW := Lib.hid hraw
          obtain ⟨al, cl, el⟩ := ownSh HOW2.out
          subst el
          have kL := block_allH HBL2.out
          clear hds2 hraw ej
          go_wp2_with fail
          refine Calls.mono (sortDeltas wr L _ ds2 HOW2.out (by omega)) ?_
          rintro e w7 ⟨rfl, l', hp, hs, own7, gr7⟩
          have hfin : l' = diffL a b := diff_sorted HSA.out HSB.out (by rw [← HRAW.out]; exact hp) hs
          have hle := hp.length_eq
          have bL7 := grown_keep gr7 HBL2.out (own_neH HOW2.out HBL2.out (by decide))
          have x7 := (xr2.grown gr7 (fun k hk => by have := (HOW2.out.lt k hk).1; omega))
          have kL7 := block_allH bL7
          have HFIN := Lib.hid hfin
          have HP7 := Lib.hid hle
          have HO7 := Lib.hid own7
          clear kL hfin hle own7 hp hs
          go_wp2_with fail
          refine bodyPost_ret (results_tt rfl _ _) rfl ⟨_, rfl, ?_, X3.trans x7⟩
          unfold IsD
          rw [← HFIN.out, HP7.out]
          exact IsSl.of_owns HO7.out
end Go.Proofs.YtpadfabjihaapaaGreatDoor
