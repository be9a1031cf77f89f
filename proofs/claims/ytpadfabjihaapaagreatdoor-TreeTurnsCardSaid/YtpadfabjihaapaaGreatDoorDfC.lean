/- The reference's Diff. -/
import Derived.Test.YtpadfabjihaapaaGreatDoorDfB
namespace Go.Proofs.YtpadfabjihaapaaGreatDoor
open Go.RowKit
set_option linter.unusedVariables false
set_option linter.unusedSimpArgs false

theorem fold_mem {f : Fl} : ∀ (l s : List Fl), FsS s → f ∈ l.foldl withL s → f ∈ l ∨ f ∈ s
  | [], s, _, h => .inr h
  | x :: r, s, hs, h => by
    rw [List.foldl_cons] at h
    have e := withL_ins x hs
    rw [e] at h
    rcases fold_mem r _ (insF_sorted hs) h with q | q
    · exact .inl (List.mem_cons_of_mem _ q)
    · rcases insF_mem q with rfl | q
      · exact .inl (List.mem_cons_self ..)
      · exact .inr q
theorem all_mem {a b : List Fl} {f : Fl} (h : f ∈ allF a b) : f ∈ a ∨ f ∈ b := by
  unfold allF at h
  rcases fold_mem b _ (fold_sorted a [] List.Pairwise.nil) h with q | q
  · exact .inr q
  · rcases fold_mem a [] List.Pairwise.nil q with q | q
    · exact .inl q
    · cases q
set_option maxHeartbeats 8000000 in
set_option maxRecDepth 100000 in
theorem refDiff (w : World) (va vb : Value) (a b : List Fl) (ha : IsF w va a) (hb : IsF w vb b) (la : a.length ≤ 16) (lb : b.length ≤ 16) :
    Calls Tryz.prog 19 #[.agg #[va], .agg #[vb]] w fun e w' => ∃ v, e = .returned v ∧ IsD w' v (diffL a b) ∧ Ext w w' := by
  have HA := Lib.hid ha
  have HB := Lib.hid hb
  obtain ⟨zD, tyD⟩ := tyDl
  obtain ⟨aa, ca, ea⟩ := sl_len ha.sl
  obtain ⟨ab, cb, eb⟩ := sl_len hb.sl
  subst ea
  subst eb
  clear ha hb
  go_enter Tryz.func19, Tryz.ntmps19
  go_upto_region 1 with fail
  obtain ⟨G, hG⟩ : ∃ G, w.heap.size = G := ⟨_, rfl⟩
  rw [hG]
  refine wp_forgetH (fun W => Ext w W ∧ W.heap[G]? = some (.cells #[.slice aa a.length ca] 24 (0, 0)) ∧ W.heap[G + 1]? = some (.cells #[.slice ab b.length cb] 24 (0, 0))) (new2d hG _ _) ?_
  rintro w1 ⟨x1, bA, bB⟩
  have HBA := Lib.hid bA
  have HBB := Lib.hid bB
  have HX1 := Lib.hid x1
  clear bA bB x1
  go_wp2_with fail
  go_loopg [5, 6] a.length (fun q s5 s6 wr => ∃ j : Nat, j ≤ a.length ∧ a.length - j ≤ q ∧ s6 = .int .i64 (j : Int) ∧ IsF wr s5 ((a.take j).foldl withL []) ∧ Ext w1 wr)
  case atStart => exact ⟨0, Nat.zero_le _, by omega, rfl, by (have := isF_nil w1; unfold nilS at this; simpa using this), Ext.refl _⟩
  case round =>
  obtain ⟨j, hj, hq, rfl, hin, xr⟩ := hrel
  have kA := block_allH (xr.keeps HBA.out)
  by_cases hjl : j < a.length
  · obtain ⟨_, _, e0, _, _, _, g1⟩ := (HA.out.ext (HX1.out.trans xr)).opened
    simp only [Value.slice.injEq, true_and] at e0
    obtain ⟨rfl, rfl⟩ := e0
    obtain ⟨pb, o, rfl, e0, e1⟩ := g1 j hjl
    have htk : a.take (j + 1) = a.take j ++ [a[j]] := by rw [List.take_succ_eq_append_getElem hjl]
    have hfo := HA.out.ok _ (List.getElem_mem hjl)
    have hlen : ((a.take j).foldl withL []).length ≤ 10000 := by
      have := allF_len (a.take j) []
      rw [List.length_take] at this
      simp only [allF, List.foldl_nil, List.length_nil] at this
      omega
    generalize a[j] = f at *
    have HTK := Lib.hid htk
    have HIN := Lib.hid hin
    have HFO := Lib.hid hfo
    have HLN := Lib.hid hlen
    clear g1 htk hin hfo hlen
    go_wp2_with fail
    refine Calls.mono (refWith wr _ _ HIN.out HLN.out f HFO.out) ?_
    rintro e w2 ⟨v2, rfl, h2, x2⟩
    have H2 := Lib.hid h2
    clear h2 kA
    go_wp2_with fail
    go_roundg (a.length - (j + 1))
    case measure => omega
    case rel => exact ⟨j + 1, by omega, by omega, by go_num, by rw [HTK.out, List.foldl_append]; exact H2.out, xr.trans x2⟩
  · have ej : j = a.length := by omega
    rw [ej, List.take_length] at hin
    have HIN := Lib.hid hin
    clear hin ej
    obtain ⟨wL, rfl⟩ : ∃ x, x = wr := ⟨_, rfl⟩
    go_wp2_with fail
    clear kA
    go_loopg [5, 7] b.length (fun q s5 s7 wr2 => ∃ j2 : Nat, j2 ≤ b.length ∧ b.length - j2 ≤ q ∧ s7 = .int .i64 (j2 : Int) ∧ IsF wr2 s5 (allF a (b.take j2)) ∧ Ext w1 wr2)
    case atStart => exact ⟨0, Nat.zero_le _, by omega, rfl, by simpa [allF] using HIN.out, xr⟩
    case round =>
    obtain ⟨j2, hj2, hq2, rfl, hin2, xr2⟩ := hrel
    have kB := block_allH (xr2.keeps HBB.out)
    by_cases hjl2 : j2 < b.length
    · obtain ⟨_, _, e0, _, _, _, g1⟩ := (HB.out.ext (HX1.out.trans xr2)).opened
      simp only [Value.slice.injEq, true_and] at e0
      obtain ⟨rfl, rfl⟩ := e0
      obtain ⟨pb, o, rfl, e0, e1⟩ := g1 j2 hjl2
      have htk : b.take (j2 + 1) = b.take j2 ++ [b[j2]] := by rw [List.take_succ_eq_append_getElem hjl2]
      have hfo := HB.out.ok _ (List.getElem_mem hjl2)
      have hlen : (allF a (b.take j2)).length ≤ 10000 := by
        have := allF_len a (b.take j2)
        rw [List.length_take] at this
        omega
      generalize b[j2] = f at *
      have HTK := Lib.hid htk
      have HIN2 := Lib.hid hin2
      have HFO := Lib.hid hfo
      have HLN := Lib.hid hlen
      clear g1 htk hin2 hfo hlen
      go_wp2_with fail
      refine Calls.mono (refWith wr _ _ HIN2.out HLN.out f HFO.out) ?_
      rintro e w2 ⟨v2, rfl, h2, x2⟩
      have H2 := Lib.hid h2
      clear h2 kB
      go_wp2_with fail
      go_roundg (b.length - (j2 + 1))
      case measure => omega
      case rel => exact ⟨j2 + 1, by omega, by omega, by go_num, by rw [HTK.out]; unfold allF; rw [List.foldl_append]; exact H2.out, xr2.trans x2⟩
    · have ej : j2 = b.length := by omega
      rw [ej, List.take_length] at hin2
      have hal := allF_len a b
      have HIN2 := Lib.hid hin2
      obtain ⟨an, cn, en⟩ := sl_len hin2.sl
      subst en
      have hml : diffL a b = ((allF a b).map fun f => dlt a b f.path).filter dlB := rfl
      have HML := Lib.hid hml
      have HSL : ∀ f ∈ allF a b, f.path.size ≤ 140737488355328 := fun f hf => (hin2.ok f hf).1
      have HSZ := Lib.hid HSL
      clear hin2 ej hml HSL
      generalize allF a b = al at *
      obtain ⟨wM, rfl⟩ : ∃ x, x = wr := ⟨_, rfl⟩
      go_wp2_with fail
      clear kB
      go_loopg [8, 9] al.length (fun q s8 s9 wr3 => ∃ (j3 : Nat) (ds : List Dl), j3 ≤ al.length ∧ al.length - j3 ≤ q ∧ s9 = .int .i64 (j3 : Int) ∧ ds = ((al.take j3).map fun f => dlt a b f.path).filter dlB ∧ ds.length ≤ j3 ∧ wr3.ownsRow wM.heap.size 55 5 s8 ds.length (ds.flatMap dlC) ∧ Ext wM wr3)
      case atStart => exact ⟨0, [], Nat.zero_le _, by omega, rfl, by simp, by simp, World.ownsRow_nil _ _ _ _, Ext.refl _⟩
      case round =>
      obtain ⟨j3, ds, hj3, hq3, rfl, hds, hdl, own, xr3⟩ := hrel
      have HDS := Lib.hid hds
      have HOW := Lib.hid own
      clear hds own
      by_cases hjl3 : j3 < al.length
      · obtain ⟨_, _, e0, _, _, _, g1⟩ := (HIN2.out.ext xr3).opened
        simp only [Value.slice.injEq, true_and] at e0
        obtain ⟨rfl, rfl⟩ := e0
        obtain ⟨pb, o, rfl, e0, e1⟩ := g1 j3 hjl3
        have htk : al.take (j3 + 1) = al.take j3 ++ [al[j3]] := by rw [List.take_succ_eq_append_getElem hjl3]
        generalize al[j3] = f at *
        have HTK := Lib.hid htk
        have hps : ((al.take (j3 + 1)).map fun f => dlt a b f.path).filter dlB = ds ++ [dlt a b f.path].filter dlB := by rw [HTK.out, List.map_append, List.filter_append, ← HDS.out]; rfl
        have HPS := Lib.hid hps
        obtain ⟨p, hp⟩ : ∃ p, f.path = p := ⟨_, rfl⟩
        rw [hp] at e0
        have HPP := Lib.hid hp
        clear g1 htk hps hp
        go_upto_region 15 with fail
        obtain ⟨D, hD⟩ : ∃ D, wr.heap.size = D := ⟨_, rfl⟩
        rw [hD]
        refine wp_forgetH (fun W => Ext wr W ∧ W.heap[D]? = some (.cells (dlC ⟨p, false, false, ⟨#[]⟩, ⟨#[]⟩⟩).toArray 55 (0, 0))) ⟨(Ext.refl wr).alloc _, blk_new hD⟩ ?_
        rintro w2 ⟨x2, bD2⟩
        have X2 := Lib.hid ((xr2.trans xr3).trans x2)
        have kp2 : w2.cell? ⟨D, 0, none⟩ = some (.string p) := by rw [block_cell bD2]; rfl
        have bA2 := X2.out.keeps HBA.out
        go_wp2_with ((with_reducible refine at_load 24 (.tmp 2) ?_); refine wpl_load (by rfl) 24 (.tmp 2) rfl G (by rfl) 24 #[.slice aa a.length ca] (0, 0) _ bA2 Tryz.underlying24 rfl (infoRp _) ?_)
        refine Calls.mono (refGet w2 _ a p (HA.out.ext (HX1.out.trans X2.out))) ?_
        rintro e w3 ⟨rfl, x3⟩
        obtain ⟨ra, hra⟩ : ∃ ra, getL a p = ra := ⟨_, rfl⟩
        rw [hra]
        have hgv : getV ra = .tuple #[.string (tx ra), .bool ra.isSome] := rfl
        rw [hgv]
        have HRA := Lib.hid hra
        have bD3 := x3.keeps bD2
        have kk := block_allH bD3
        have ff := fun z => block_free bD3 z
        clear hgv hra kp2 bA2
        go_upto_region 16 with fail
        have g3 := grown_setCell w3 D 3 (.string (tx ra))
        have c3 := block_setCell bD3 (i := 3) (.string (tx ra))
        have g4 := grown_setCell (w3.setCell ⟨D, 3, none⟩ (.string (tx ra))) D 1 (.bool ra.isSome)
        have c4 := block_setCell c3 (i := 1) (.bool ra.isSome)
        have X4 : Ext wr ((w3.setCell ⟨D, 3, none⟩ (.string (tx ra))).setCell ⟨D, 1, none⟩ (.bool ra.isSome)) := ((x2.trans x3).grown g3 (fun k hk => by cases hk; omega)).grown g4 (fun k hk => by cases hk; omega)
        refine wp_forgetH (fun W => Ext wr W ∧ W.heap[D]? = some (.cells (dlC ⟨p, ra.isSome, false, tx ra, ⟨#[]⟩⟩).toArray 55 (0, 0))) ⟨X4, by simpa [dlC] using c4⟩ ?_
        rintro w4 ⟨x4, bD4⟩
        have X4' := Lib.hid ((xr2.trans xr3).trans x4)
        have kp4 : w4.cell? ⟨D, 0, none⟩ = some (.string p) := by rw [block_cell bD4]; rfl
        have bB4 := X4'.out.keeps HBB.out
        clear kk ff g3 c3 g4 c4 X4 bD2 bD3 x2 x3
        go_wp2_with ((with_reducible refine at_load 24 (.tmp 3) ?_); refine wpl_load (by rfl) 24 (.tmp 3) rfl (G + 1) (by rfl) 24 #[.slice ab b.length cb] (0, 0) _ bB4 Tryz.underlying24 rfl (infoRp _) ?_)
        refine Calls.mono (refGet w4 _ b p (HB.out.ext (HX1.out.trans X4'.out))) ?_
        rintro e w5 ⟨rfl, x5⟩
        obtain ⟨rb, hrb⟩ : ∃ rb, getL b p = rb := ⟨_, rfl⟩
        rw [hrb]
        have hgv : getV rb = .tuple #[.string (tx rb), .bool rb.isSome] := rfl
        rw [hgv]
        have HRB := Lib.hid hrb
        have bD5 := x5.keeps bD4
        have kk := block_allH bD5
        have ff := fun z => block_free bD5 z
        clear hgv hrb kp4 bB4
        go_upto_region 17 with fail
        have g3 := grown_setCell w5 D 4 (.string (tx rb))
        have c3 := block_setCell bD5 (i := 4) (.string (tx rb))
        have g4 := grown_setCell (w5.setCell ⟨D, 4, none⟩ (.string (tx rb))) D 2 (.bool rb.isSome)
        have c4 := block_setCell c3 (i := 2) (.bool rb.isSome)
        have X6 : Ext wr ((w5.setCell ⟨D, 4, none⟩ (.string (tx rb))).setCell ⟨D, 2, none⟩ (.bool rb.isSome)) := ((x4.trans x5).grown g3 (fun k hk => by cases hk; omega)).grown g4 (fun k hk => by cases hk; omega)
        refine wp_forgetH (fun W => Ext wr W ∧ W.heap[D]? = some (.cells (dlC ⟨p, ra.isSome, rb.isSome, tx ra, tx rb⟩).toArray 55 (0, 0))) ⟨X6, by simpa [dlC] using c4⟩ ?_
        rintro w6 ⟨x6, bD6⟩
        have hd : dlt a b f.path = ⟨p, ra.isSome, rb.isSome, tx ra, tx rb⟩ := by unfold dlt; rw [HPP.out, HRA.out, HRB.out]
        obtain ⟨ba, hba⟩ : ∃ x, ra.isSome = x := ⟨_, rfl⟩
        obtain ⟨bb, hbb⟩ : ∃ x, rb.isSome = x := ⟨_, rfl⟩
        obtain ⟨ta, hta⟩ : ∃ x, tx ra = x := ⟨_, rfl⟩
        obtain ⟨tb, htb⟩ : ∃ x, tx rb = x := ⟨_, rfl⟩
        rw [hba, hbb, hta, htb] at hd bD6
        have HD := Lib.hid hd
        have kd0 : w6.cell? ⟨D, 0, none⟩ = some (.string p) := by rw [block_cell bD6]; rfl
        have kd1 : w6.cell? ⟨D, 1, none⟩ = some (.bool ba) := by rw [block_cell bD6]; rfl
        have kd2 : w6.cell? ⟨D, 2, none⟩ = some (.bool bb) := by rw [block_cell bD6]; rfl
        have kd3 : w6.cell? ⟨D, 3, none⟩ = some (.string ta) := by rw [block_cell bD6]; rfl
        have kd4 : w6.cell? ⟨D, 4, none⟩ = some (.string tb) := by rw [block_cell bD6]; rfl
        have xD6 := xr3.trans x6
        have hszM : wM.heap.size ≤ w6.heap.size := xD6.size
        rw [hba, hta, hbb, htb]
        clear kk ff g3 c3 g4 c4 X6 bD4 bD5 x4 x5 hd hba hbb hta htb
        cases ba with
        | false =>
          cases bb with
          | false =>
            by_cases h2 : ta.toList = tb.toList
            · have hn2 : (ta.toList != tb.toList) = false := by rw [h2]; simp
              have hn3 : (ta.toList == tb.toList) = true := by simp [h2]
              have hB : dlB (dlt a b f.path) = false := by rw [HD.out]; show ((false != false) || (ta.toList != tb.toList)) = false; rw [hn2]; rfl
              have HBB1 := Lib.hid hB
              clear hB h2
              go_wp2_with fail
              go_roundg (al.length - (j3 + 1))
              case measure => omega
              case rel =>
                refine ⟨j3 + 1, ds, by omega, by omega, by go_num, ?_, by omega, ownsRow_ext HOW.out x6, xD6⟩
                rw [HPS.out, List.filter_cons_of_neg (by rw [HBB1.out]; decide), List.filter_nil, List.append_nil]
            · have hn2 : (ta.toList != tb.toList) = true := by simp [h2]
              have hn3 : (ta.toList == tb.toList) = false := by simp [h2]
              have hB : dlB (dlt a b f.path) = true := by rw [HD.out]; show ((false != false) || (ta.toList != tb.toList)) = true; rw [hn2]; rfl
              have HBB1 := Lib.hid hB
              clear hB h2
              have xb : Ext w6 (w6.alloc (.cells (dlC ⟨p, false, false, ta, tb⟩).toArray 55)) := (Ext.refl _).alloc _
              have HBNb := Lib.hid (heap_alloc_new w6 (.cells (dlC ⟨p, false, false, ta, tb⟩).toArray 55))
              have HOBb := Lib.hid (ownsRow_ext (ownsRow_ext HOW.out x6) xb)
              have hsb : wM.heap.size ≤ (w6.alloc (.cells (dlC ⟨p, false, false, ta, tb⟩).toArray 55)).heap.size := Nat.le_trans hszM xb.size
              go_wp2_with (first | ((with_reducible refine at_build1 49 (.tmp 82) ?_); refine wpl_buildOne (by rfl) 49 (.tmp 82) rfl (dlC ⟨p, false, false, ta, tb⟩) (by rfl) (build_dl _ ⟨p, false, false, ta, tb⟩) ?_) | (at_builtin; refine wpl_appAt tyD (by rfl) (.tmp 81) (.tmp 83) rfl wM.heap.size _ _ _ HOBb.out (by rfl) w6.heap.size (dlC ⟨p, false, false, ta, tb⟩) (0, 0) HBNb.out rfl (by rfl) (dlC_one _) (by omega) (by omega) hsb ?_; intro v9 w9 own9 gr9 at9))
              have X9 : Ext wM w9 := (xD6.trans xb).grown gr9 (fun k hk => (HOBb.out.lt k hk).1)
              have HO9 := Lib.hid own9
              clear own9
              go_roundg (al.length - (j3 + 1))
              case measure => omega
              case rel =>
                refine ⟨j3 + 1, ds ++ [dlt a b f.path], by omega, by omega, by go_num, ?_, by simp; omega, ?_, X9⟩
                · rw [HPS.out, List.filter_cons_of_pos HBB1.out, List.filter_nil]
                · rw [HD.out, List.length_append, List.flatMap_append]
                  simpa using HO9.out
          | true =>
            have hB : dlB (dlt a b f.path) = true := by rw [HD.out]; rfl
            have HBB1 := Lib.hid hB
            clear hB
            have xb : Ext w6 (w6.alloc (.cells (dlC ⟨p, false, true, ta, tb⟩).toArray 55)) := (Ext.refl _).alloc _
            have HBNb := Lib.hid (heap_alloc_new w6 (.cells (dlC ⟨p, false, true, ta, tb⟩).toArray 55))
            have HOBb := Lib.hid (ownsRow_ext (ownsRow_ext HOW.out x6) xb)
            have hsb : wM.heap.size ≤ (w6.alloc (.cells (dlC ⟨p, false, true, ta, tb⟩).toArray 55)).heap.size := Nat.le_trans hszM xb.size
            go_wp2_with (first | ((with_reducible refine at_build1 49 (.tmp 82) ?_); refine wpl_buildOne (by rfl) 49 (.tmp 82) rfl (dlC ⟨p, false, true, ta, tb⟩) (by rfl) (build_dl _ ⟨p, false, true, ta, tb⟩) ?_) | (at_builtin; refine wpl_appAt tyD (by rfl) (.tmp 81) (.tmp 83) rfl wM.heap.size _ _ _ HOBb.out (by rfl) w6.heap.size (dlC ⟨p, false, true, ta, tb⟩) (0, 0) HBNb.out rfl (by rfl) (dlC_one _) (by omega) (by omega) hsb ?_; intro v9 w9 own9 gr9 at9))
            have X9 : Ext wM w9 := (xD6.trans xb).grown gr9 (fun k hk => (HOBb.out.lt k hk).1)
            have HO9 := Lib.hid own9
            clear own9
            go_roundg (al.length - (j3 + 1))
            case measure => omega
            case rel =>
              refine ⟨j3 + 1, ds ++ [dlt a b f.path], by omega, by omega, by go_num, ?_, by simp; omega, ?_, X9⟩
              · rw [HPS.out, List.filter_cons_of_pos HBB1.out, List.filter_nil]
              · rw [HD.out, List.length_append, List.flatMap_append]
                simpa using HO9.out
        | true =>
          cases bb with
          | false =>
            have hB : dlB (dlt a b f.path) = true := by rw [HD.out]; rfl
            have HBB1 := Lib.hid hB
            clear hB
            have xb : Ext w6 (w6.alloc (.cells (dlC ⟨p, true, false, ta, tb⟩).toArray 55)) := (Ext.refl _).alloc _
            have HBNb := Lib.hid (heap_alloc_new w6 (.cells (dlC ⟨p, true, false, ta, tb⟩).toArray 55))
            have HOBb := Lib.hid (ownsRow_ext (ownsRow_ext HOW.out x6) xb)
            have hsb : wM.heap.size ≤ (w6.alloc (.cells (dlC ⟨p, true, false, ta, tb⟩).toArray 55)).heap.size := Nat.le_trans hszM xb.size
            go_wp2_with (first | ((with_reducible refine at_build1 49 (.tmp 82) ?_); refine wpl_buildOne (by rfl) 49 (.tmp 82) rfl (dlC ⟨p, true, false, ta, tb⟩) (by rfl) (build_dl _ ⟨p, true, false, ta, tb⟩) ?_) | (at_builtin; refine wpl_appAt tyD (by rfl) (.tmp 81) (.tmp 83) rfl wM.heap.size _ _ _ HOBb.out (by rfl) w6.heap.size (dlC ⟨p, true, false, ta, tb⟩) (0, 0) HBNb.out rfl (by rfl) (dlC_one _) (by omega) (by omega) hsb ?_; intro v9 w9 own9 gr9 at9))
            have X9 : Ext wM w9 := (xD6.trans xb).grown gr9 (fun k hk => (HOBb.out.lt k hk).1)
            have HO9 := Lib.hid own9
            clear own9
            go_roundg (al.length - (j3 + 1))
            case measure => omega
            case rel =>
              refine ⟨j3 + 1, ds ++ [dlt a b f.path], by omega, by omega, by go_num, ?_, by simp; omega, ?_, X9⟩
              · rw [HPS.out, List.filter_cons_of_pos HBB1.out, List.filter_nil]
              · rw [HD.out, List.length_append, List.flatMap_append]
                simpa using HO9.out
          | true =>
            by_cases h2 : ta.toList = tb.toList
            · have hn2 : (ta.toList != tb.toList) = false := by rw [h2]; simp
              have hn3 : (ta.toList == tb.toList) = true := by simp [h2]
              have hB : dlB (dlt a b f.path) = false := by rw [HD.out]; show ((true != true) || (ta.toList != tb.toList)) = false; rw [hn2]; rfl
              have HBB1 := Lib.hid hB
              clear hB h2
              go_wp2_with fail
              go_roundg (al.length - (j3 + 1))
              case measure => omega
              case rel =>
                refine ⟨j3 + 1, ds, by omega, by omega, by go_num, ?_, by omega, ownsRow_ext HOW.out x6, xD6⟩
                rw [HPS.out, List.filter_cons_of_neg (by rw [HBB1.out]; decide), List.filter_nil, List.append_nil]
            · have hn2 : (ta.toList != tb.toList) = true := by simp [h2]
              have hn3 : (ta.toList == tb.toList) = false := by simp [h2]
              have hB : dlB (dlt a b f.path) = true := by rw [HD.out]; show ((true != true) || (ta.toList != tb.toList)) = true; rw [hn2]; rfl
              have HBB1 := Lib.hid hB
              clear hB h2
              have xb : Ext w6 (w6.alloc (.cells (dlC ⟨p, true, true, ta, tb⟩).toArray 55)) := (Ext.refl _).alloc _
              have HBNb := Lib.hid (heap_alloc_new w6 (.cells (dlC ⟨p, true, true, ta, tb⟩).toArray 55))
              have HOBb := Lib.hid (ownsRow_ext (ownsRow_ext HOW.out x6) xb)
              have hsb : wM.heap.size ≤ (w6.alloc (.cells (dlC ⟨p, true, true, ta, tb⟩).toArray 55)).heap.size := Nat.le_trans hszM xb.size
              go_wp2_with (first | ((with_reducible refine at_build1 49 (.tmp 82) ?_); refine wpl_buildOne (by rfl) 49 (.tmp 82) rfl (dlC ⟨p, true, true, ta, tb⟩) (by rfl) (build_dl _ ⟨p, true, true, ta, tb⟩) ?_) | (at_builtin; refine wpl_appAt tyD (by rfl) (.tmp 81) (.tmp 83) rfl wM.heap.size _ _ _ HOBb.out (by rfl) w6.heap.size (dlC ⟨p, true, true, ta, tb⟩) (0, 0) HBNb.out rfl (by rfl) (dlC_one _) (by omega) (by omega) hsb ?_; intro v9 w9 own9 gr9 at9))
              have X9 : Ext wM w9 := (xD6.trans xb).grown gr9 (fun k hk => (HOBb.out.lt k hk).1)
              have HO9 := Lib.hid own9
              clear own9
              go_roundg (al.length - (j3 + 1))
              case measure => omega
              case rel =>
                refine ⟨j3 + 1, ds ++ [dlt a b f.path], by omega, by omega, by go_num, ?_, by simp; omega, ?_, X9⟩
                · rw [HPS.out, List.filter_cons_of_pos HBB1.out, List.filter_nil]
                · rw [HD.out, List.length_append, List.flatMap_append]
                  simpa using HO9.out
      · have ej : j3 = al.length := by omega
        have hds := HDS.out
        rw [ej, List.take_length, ← HML.out] at hds
        have HFI := Lib.hid hds
        clear hds ej
        go_wp2_with fail
        go_ret
        refine ⟨_, rfl, ?_, (HX1.out.trans xr2).trans xr3⟩
        unfold IsD
        rw [← HFI.out]
        exact IsSl.of_owns HOW.out
end Go.Proofs.YtpadfabjihaapaaGreatDoor
