/- The walk of the statement MergeChanged. -/
import Derived.Test.YtpcpcjejdngllaaDoorMgSe
import Derived.Test.YtpcpcjejdngllaaDoorMgFe
import Derived.Test.YtpcpcjejdngllaaDoorMgCh
import Derived.Test.YtpcpcjejdngllaaDoorMgR2
import Derived.Test.YtpcpcjejdngllaaDoorMgWh
namespace Go.Proofs.YtpcpcjejdngllaaDoor
open Go.RowKit
set_option linter.unusedVariables false
set_option linter.unusedSimpArgs false

theorem extract_twice (s : ByteArray) (n : Nat) : (s.extract 0 (min s.size n)).extract 0 (min (s.extract 0 (min s.size n)).size n) = s.extract 0 (min s.size n) := by
  apply ByteArray.ext
  apply Array.toList_inj.1
  simp only [ByteArray.size_extract, ByteArray.data_extract, Array.toList_extract, List.extract_eq_take_drop, List.drop_zero, List.take_take]
  congr 1
  omega
theorem cutF_twice (f : Fl) : cutF (cutF f) = cutF f := by
  unfold cutF
  simp only [extract_twice]
theorem short_twice (fs : List Fl) : shortF (shortF fs) = shortF fs := by
  unfold shortF
  have : cutF ∘ cutF = cutF := by funext f; exact cutF_twice f
  rw [List.take_of_length_le (l := (fs.take 18).map cutF) (by rw [List.length_map, List.length_take]; omega), List.map_map, this]
theorem short_len (fs : List Fl) : (shortF fs).length ≤ 18 := by unfold shortF; rw [List.length_map, List.length_take]; omega
theorem len_ne_self2 (n : Nat) : ((n : Int) != (n : Int)) = false := by simp
theorem chx_eq (f0 f1 : List Fl) : chxL (trosL f0 f1 [] (pathsL [f0, f1, []])) = (pathsL [f0, f1]).filter (fun p => !decide (atM f0 p = atM f1 p)) := by
  have e : pathsL [f0, f1, []] = pathsL [f0, f1] := by unfold pathsL allP; simp
  rw [e]
  unfold chxL trosL
  rw [List.filter_map, List.map_map]
  have : Prod.fst ∘ (fun p => ((p, atM f0 p, atM f1 p, atM [] p) : Tr)) = id := rfl
  rw [this, List.map_id]
  rfl
set_option maxHeartbeats 16000000 in
set_option maxRecDepth 100000 in
theorem walkMergeChangedI (w : World) (u0 u1 : Value) (f0 f1 : List Fl) (h0 : IsF w u0 f0) (h1 : IsF w u1 f1) :
    Calls Tryd.prog 4 #[.agg #[u0], .agg #[u1]] w fun e w' => e = .returned (.bool true) ∧ Ext w w' := by
  obtain ⟨a0, c0, rfl, _, _, _, _⟩ := h0.opened
  obtain ⟨a1, c1, rfl, _, _, _, _⟩ := h1.opened
  have b0 := blk_old (o := .cells #[.slice a1 f1.length c1] 24) (heap_alloc_new w (.cells #[.slice a0 f0.length c0] 24))
  have b1 := blk_new (w := w.alloc (.cells #[.slice a0 f0.length c0] 24)) (b := w.heap.size + 1) (o := .cells #[.slice a1 f1.length c1] 24) (by simp)
  have X := ((Ext.refl w).alloc (.cells #[.slice a0 f0.length c0] 24)).alloc (.cells #[.slice a1 f1.length c1] 24)
  have h0 := h0.ext X
  have h1 := h1.ext X
  go_enter Tryd.func4, Tryd.ntmps4
  go_wp2_with fail
  generalize (w.alloc (.cells #[.slice a0 f0.length c0] 24)).alloc (.cells #[.slice a1 f1.length c1] 24) = w1 at *
  obtain ⟨B, hB⟩ : ∃ B, w.heap.size = B := ⟨_, rfl⟩
  have hBw : w.heap.size ≤ B := by omega
  rw [hB] at b0 b1
  rw [hB]
  clear hB
  refine Calls.mono (mWakes _) ?_
  rintro e w2 ⟨rfl, x1⟩
  have X := X.trans x1
  have b0 := x1.keeps b0
  have b1 := x1.keeps b1
  have h0 := h0.ext x1
  have h1 := h1.ext x1
  clear x1
  go_wp2_with fail
  have hlt : B + 1 < w2.heap.size := block_lt b1
  have k0 : w2.cell? ⟨B, 0, none⟩ = some (.slice a0 f0.length c0) := by rw [block_cell b0]; rfl
  have k1 : w2.cell? ⟨B + 1, 0, none⟩ = some (.slice a1 f1.length c1) := by rw [block_cell b1]; rfl
  refine wp_region_G 3 (fun v => Ext w2 v) (by kernel_rfl) fun wd hqd hHeld => ?_
  refine C_take (i := 0) (u := ?vc0) [1, 3] rfl (by kernel_rfl) (by kernel_rfl) (by kernel_rfl) (fun _ _ _ h => h) (by kernel_rfl) (by kernel_rfl) (by kernel_rfl) (by kernel_rfl) (Or.inl ⟨by rfl, ?hyc0⟩) hHeld ?_
  case hyc0 => (intro w hSw; have k := hSw.cell k0; go_simp; try with_reducible rfl)
  simp only [Act.put, List.setIfInBounds_toArray, List.set_cons_zero, List.set_cons_succ, List.getElem_toArray, List.getElem_cons_zero, List.getElem_cons_succ]
  refine C_take (i := 2) (u := ?vc2) [3] rfl (by kernel_rfl) (by kernel_rfl) (by kernel_rfl) (fun _ _ _ h => h) (by kernel_rfl) (by kernel_rfl) (by kernel_rfl) (by kernel_rfl) (Or.inl ⟨by rfl, ?hyc2⟩) hHeld ?_
  case hyc2 => (intro w hSw; have k := hSw.cell k1; go_simp; try with_reducible rfl)
  simp only [Act.put, List.setIfInBounds_toArray, List.set_cons_zero, List.set_cons_succ, List.getElem_toArray, List.getElem_cons_zero, List.getElem_cons_succ]
  refine G_all (rs := [1]) (by kernel_rfl) (by simp) ?_
  intro i hi; obtain rfl : i = 1 := by simpa using hi
  refine wpOp_run rfl (by rfl) ?_
  go_simp
  refine Calls.mono (lawShort wd _ f0 (h0.ext hHeld)) ?_
  rintro e wc ⟨v0, rfl, own0, xc⟩
  have hHeld := hHeld.trans xc
  first | refine ⟨hHeld, ?_⟩ | refine ⟨fun _ => hHeld, ?_⟩
  try simp only [Act.put, List.setIfInBounds_toArray, List.set_cons_zero, List.set_cons_succ, List.getElem_toArray, List.getElem_cons_zero, List.getElem_cons_succ]
  refine G_all (rs := [3]) (by kernel_rfl) (by simp) ?_
  intro i hi; obtain rfl : i = 3 := by simpa using hi
  refine wpOp_run rfl (by rfl) ?_
  go_simp
  refine Calls.mono (lawShort wc _ f1 (h1.ext hHeld)) ?_
  rintro e wc2 ⟨v1, rfl, own1, xc2⟩
  have hHeld := hHeld.trans xc2
  have own0 := owns_extU own0 xc2
  try refine ⟨fun e => absurd e (by decide), ?_⟩
  refine G_free _ _ _ _ (by kernel_rfl) ?_
  try simp only [Act.put, List.setIfInBounds_toArray, List.set_cons_zero, List.set_cons_succ, List.getElem_toArray, List.getElem_cons_zero, List.getElem_cons_succ]
  have b0 := hHeld.keeps b0
  have b1 := hHeld.keeps b1
  have X := X.trans hHeld
  obtain ⟨a2, c2, rfl⟩ := slice_shape own0
  obtain ⟨a3, c3, rfl⟩ := slice_shape own1
  refine wpAny_all (rs := [4]) (by kernel_rfl) (by simp) ?_
  intro i hi; obtain rfl : i = 4 := by simpa using hi
  refine wpOp_run rfl (by rfl) ?_
  refine wp_store_row 24 (.tmp 2) (.tmp 20) rfl B #[.slice a2 (shortF f0).length c2] (by rfl) (by rfl) 24 _ b0 (info1M _) rfl (slice_oneM _ _ _) ?_
  have own0 := own0.kept (grown_rowM (c := #[.slice a2 (shortF f0).length c2])) (.inr (own_neU own0 b0 (by decide)))
  have own1 := own1.kept (grown_rowM (c := #[.slice a2 (shortF f0).length c2])) (.inr (own_neU own1 b0 (by decide)))
  have b1 : (wc2.setRow B #[.slice a2 (shortF f0).length c2]).heap[B + 1]? = _ := (setRow_other _ _ _ _ (by omega)).trans b1
  have b0 := setRow_heap wc2 B _ #[.slice a2 (shortF f0).length c2] _ _ b0
  have X := X.grown (grown_rowM (g := B) (c := #[.slice a2 (shortF f0).length c2])) (fun k hk => by cases hk; exact hBw)
  generalize wc2.setRow B #[.slice a2 (shortF f0).length c2] = w3 at *
  refine wpAny_all (rs := [5]) (by kernel_rfl) (by simp) ?_
  intro i hi; obtain rfl : i = 5 := by simpa using hi
  refine wpOp_run rfl (by rfl) ?_
  refine wp_store_row 24 (.tmp 3) (.tmp 22) rfl (B + 1) #[.slice a3 (shortF f1).length c3] (by rfl) (by rfl) 24 _ b1 (info1M _) rfl (slice_oneM _ _ _) ?_
  have own0 := own0.kept (grown_rowM (c := #[.slice a3 (shortF f1).length c3])) (.inr (own_neU own0 b1 (by decide)))
  have own1 := own1.kept (grown_rowM (c := #[.slice a3 (shortF f1).length c3])) (.inr (own_neU own1 b1 (by decide)))
  have b0 : (w3.setRow (B + 1) #[.slice a3 (shortF f1).length c3]).heap[B]? = _ := (setRow_other _ _ _ _ (by omega)).trans b0
  have b1 := setRow_heap w3 (B + 1) _ #[.slice a3 (shortF f1).length c3] _ _ b1
  have X := X.grown (grown_rowM (g := B + 1) (c := #[.slice a3 (shortF f1).length c3])) (fun k hk => by cases hk; omega)
  generalize w3.setRow (B + 1) #[.slice a3 (shortF f1).length c3] = w4 at *
  refine wpAny_done (by kernel_rfl) ?_ _
  refine NoPanic.normal ?_
  have H0 := isF_ok own0 (shortF_ok f0)
  have H1 := isF_ok own1 (shortF_ok f1)
  have k0 : w4.cell? ⟨B, 0, none⟩ = some (.slice a2 (shortF f0).length c2) := by rw [block_cell b0]; rfl
  have k1 : w4.cell? ⟨B + 1, 0, none⟩ = some (.slice a3 (shortF f1).length c3) := by rw [block_cell b1]; rfl
  clear own0 own1 b0 b1 hHeld xc xc2 hqd h0 h1
  have L0 := short_len f0
  have L1 := short_len f1
  have T0 := short_twice f0
  have T1 := short_twice f1
  generalize shortF f0 = s0 at *
  generalize shortF f1 = s1 at *
  simp only [Act.put, List.setIfInBounds_toArray, List.set_cons_zero, List.set_cons_succ, List.getElem_toArray, List.getElem_cons_zero, List.getElem_cons_succ]
  have bN := heap_alloc_new w4 (.cells #[.slice a2 s0.length c2, .slice a3 s1.length c3, .slice a3 s1.length c3] 26)
  have y := (Ext.refl w4).alloc (.cells #[.slice a2 s0.length c2, .slice a3 s1.length c3, .slice a3 s1.length c3] 26)
  have n0 := (block_cell bN 0).trans (show _ = some (Value.slice a2 s0.length c2) from rfl)
  have n1 := (block_cell bN 1).trans (show _ = some (Value.slice a3 s1.length c3) from rfl)
  have n2 := (block_cell bN 2).trans (show _ = some (Value.slice a3 s1.length c3) from rfl)
  have k0 := y.cell k0
  have k1 := y.cell k1
  have H0 := H0.ext y
  have H1 := H1.ext y
  have X := X.trans y
  clear y bN
  go_wp2_with fail
  generalize w4.alloc (.cells #[.slice a2 s0.length c2, .slice a3 s1.length c3, .slice a3 s1.length c3] 26) = w5 at *
  generalize w4.heap.size = N1 at *
  refine Calls.mono (lawFew w5 _ _ _ s0 s1 s1 H0 H1 H1) ?_
  rintro e w6 ⟨v0, v1, v2, rfl, o0, o1, o2, y⟩
  rw [T0] at o0
  rw [T1] at o1 o2
  obtain ⟨a4, c4, rfl⟩ := slice_shape o0
  obtain ⟨a5, c5, rfl⟩ := slice_shape o1
  obtain ⟨a6, c6, rfl⟩ := slice_shape o2
  have J0 := isF_own o0 H0.ok
  have J1 := isF_own o1 H1.ok
  have J2 := isF_own o2 H1.ok
  have bN := heap_alloc_new w6 (.cells #[.slice a4 s0.length c4, .slice a5 s1.length c5, .slice a6 s1.length c6] 26)
  have y2 := (Ext.refl w6).alloc (.cells #[.slice a4 s0.length c4, .slice a5 s1.length c5, .slice a6 s1.length c6] 26)
  have m0 := (block_cell bN 0).trans (show _ = some (Value.slice a4 s0.length c4) from rfl)
  have m1 := (block_cell bN 1).trans (show _ = some (Value.slice a5 s1.length c5) from rfl)
  have m2 := (block_cell bN 2).trans (show _ = some (Value.slice a6 s1.length c6) from rfl)
  have J0 := J0.ext y2
  have J1 := J1.ext y2
  have J2 := J2.ext y2
  have y := y.trans y2
  have n0 := y.cell n0
  have n1 := y.cell n1
  have n2 := y.cell n2
  have k0 := y.cell k0
  have k1 := y.cell k1
  have H0 := H0.ext y
  have H1 := H1.ext y
  have X := X.trans y
  clear y y2 bN o0 o1 o2 T0 T1
  go_wp2_with fail
  generalize w6.alloc (.cells #[.slice a4 s0.length c4, .slice a5 s1.length c5, .slice a6 s1.length c6] 26) = w7 at *
  generalize w6.heap.size = N2 at *
  refine Calls.mono (mergeChanged w7 _ _ s0 s1 H0 H1) ?_
  rintro e w8 ⟨vp, rfl, own, y⟩
  obtain ⟨ap, cp, rfl⟩ := slice_shape own
  have IP : IsStr w8 (.slice ap (changedL s0 s1).1.length cp) (changedL s0 s1).1 := IsSl.of_owns own
  have n0 := y.cell n0
  have n1 := y.cell n1
  have n2 := y.cell n2
  have m0 := y.cell m0
  have m1 := y.cell m1
  have m2 := y.cell m2
  have k0 := y.cell k0
  have k1 := y.cell k1
  have H0 := H0.ext y
  have H1 := H1.ext y
  have J0 := J0.ext y
  have J1 := J1.ext y
  have J2 := J2.ext y
  have X := X.trans y
  clear y own
  obtain ⟨D, hD⟩ : ∃ D, changedL s0 s1 = D := ⟨_, rfl⟩
  rw [hD] at IP
  rw [hD]
  go_wp2_with fail
  refine Calls.mono (lawWhole w8 _ _ _ _ _ _ s0 s1 s1 H0 H1 H1 J0 J1 J2) ?_
  rintro e w9 ⟨rfl, y⟩
  have m0 := y.cell m0
  have m1 := y.cell m1
  have m2 := y.cell m2
  have k0 := y.cell k0
  have k1 := y.cell k1
  have H0 := H0.ext y
  have H1 := H1.ext y
  have J0 := J0.ext y
  have J1 := J1.ext y
  have J2 := J2.ext y
  have IP := IP.ext y
  have X := X.trans y
  clear y n0 n1 n2
  have E := lawRight w9 _ _ _ s0 s1 s1 J0 J1 J2
  cases hr : (repoB s0 && (repoB s1 && repoB s1)) with
  | false =>
    rw [hr] at E
    obtain rfl : ([], 170) = D := by
      rw [← hD]
      unfold changedL
      rw [Bool.and_self] at hr
      rw [hr]
      rfl
    go_wp2_with fail
    refine Calls.mono E ?_
    rintro e w10 ⟨rfl, y⟩
    go_wp2_with fail
    go_ret
    exact ⟨ret_bool (by decide), X.trans y⟩
  | true =>
    rw [hr] at E
    obtain rfl : ((pathsL [s0, s1]).filter (fun p => !decide (atM s0 p = atM s1 p)), 0) = D := by
      rw [← hD, ← chx_eq]
      unfold changedL
      rw [Bool.and_self] at hr
      rw [hr]
      rfl
    clear hD hr
    dsimp only at IP
    dsimp only
    have hpl : (allP [s0, s1]).length ≤ 10000 := by simp [allP]; omega
    have hpl2 : (pathsL [s0, s1]).length ≤ 10000 := by
      have := foldP_len (allP [s0, s1]) []
      unfold pathsL
      simp only [List.length_nil] at this
      omega
    go_wp2_with fail
    refine Calls.mono E ?_
    rintro e w10 ⟨rfl, y⟩
    have k0 := y.cell k0
    have k1 := y.cell k1
    have H0 := H0.ext y
    have H1 := H1.ext y
    have IP := IP.ext y
    have X := X.trans y
    clear y E m0 m1 m2 J0 J1 J2
    have bN := heap_alloc_new w10 (.cells #[.slice a2 s0.length c2, .slice a3 s1.length c3] 24)
    have y := (Ext.refl w10).alloc (.cells #[.slice a2 s0.length c2, .slice a3 s1.length c3] 24)
    have k0 := y.cell k0
    have k1 := y.cell k1
    have H0 := H0.ext y
    have H1 := H1.ext y
    have IP := IP.ext y
    have X := X.trans y
    have IR := isRs2 bN H0 H1
    clear y bN
    go_wp2_with fail
    generalize w10.alloc (.cells #[.slice a2 s0.length c2, .slice a3 s1.length c3] 24) = w11 at *
    refine Calls.mono (refPaths w11 _ [(_, s0), (_, s1)] IR hpl) ?_
    rintro e w12 ⟨vq, rfl, IQ, y⟩
    have IQ : IsStr w12 vq (pathsL [s0, s1]) := IQ
    have k0 := y.cell k0
    have k1 := y.cell k1
    have H0 := H0.ext y
    have H1 := H1.ext y
    have IP := IP.ext y
    have X := X.trans y
    clear y IR hpl
    generalize pathsL [s0, s1] = PS at *
    obtain ⟨aq, cq, rfl, hcq, hcq2, _, gq⟩ := IQ.opened
    have GQ := Lib.hid gq
    clear gq IQ
    go_wp2_with fail
    go_loopg [9, 54] PS.length (fun g s9 s54 wr => ∃ k : Nat, k ≤ PS.length ∧ PS.length - k ≤ g ∧ s54 = .int .i64 (k : Int) ∧ wr.ownsRow w12.heap.size 9 1 s9 ((PS.take k).filter (fun p => !decide (atM s0 p = atM s1 p))).length (((PS.take k).filter (fun p => !decide (atM s0 p = atM s1 p))).map .string) ∧ Ext w12 wr)
    case atStart => exact ⟨0, by omega, by omega, rfl, World.ownsRow_nil _ _ _ _, Ext.refl _⟩
    case round =>
      obtain ⟨k, hk, hg, rfl, own, xr⟩ := hrel
      have hcl : ((PS.take k).filter (fun p => !decide (atM s0 p = atM s1 p))).length ≤ k := Nat.le_trans (List.length_filter_le _ _) (by rw [List.length_take]; omega)
      by_cases hlt : k < PS.length
      · obtain ⟨pb, o, rfl, e0⟩ := GQ.out k hlt
        have e0 := xr.cell e0
        have k0 := xr.cell k0
        have k1 := xr.cell k1
        have H0 := H0.ext xr
        have H1 := H1.ext xr
        have HF := Lib.hid (filt_snoc (fun p => !decide (atM s0 p = atM s1 p)) PS hlt)
        generalize (PS.take k).filter (fun p => !decide (atM s0 p = atM s1 p)) = F at *
        generalize PS[k] = x at *
        have E0 := refAt wr _ s0 x H0
        obtain ⟨M0, hM0⟩ : ∃ m, atM s0 x = m := ⟨_, rfl⟩
        obtain ⟨M1, hM1⟩ : ∃ m, atM s1 x = m := ⟨_, rfl⟩
        rw [hM0] at E0 HF
        rw [hM1] at HF
        have HM1 := Lib.hid hM1
        clear hM0 hM1
        obtain ⟨q0, t0⟩ := M0
        obtain ⟨q1, t1⟩ := M1
        go_wp2_with fail
        refine Calls.mono E0 ?_
        rintro e w13 ⟨rfl, y⟩
        have k1 := y.cell k1
        have E1 := refAt w13 _ s1 x (H1.ext y)
        rw [HM1.out] at E1
        clear E0 e0
        go_wp2_with fail
        refine Calls.mono E1 ?_
        rintro e w14 ⟨rfl, y2⟩
        have y := y.trans y2
        have X14 := xr.trans y
        have own := owns_extU own y
        have k0 := y.cell k0
        clear E1 y2 H0 H1 k1
        cases hs : (t0.toList == t1.toList) with
        | false =>
          have hd : decide (((q0, t0) : Mb) = (q1, t1)) = false := decide_eq_false (fun e => by
            injection e with e1 e2
            rw [e2] at hs
            simp at hs)
          rw [hd] at HF
          clear hd
          have own6 := own.alloc (.cells #[.string x] 9)
          have yb := (Ext.refl w14).alloc (.cells #[.string x] 9)
          have xr6 := X14.trans yb
          have k0 := yb.cell k0
          have hw06 := xr6.size
          go_wp2_with (at_builtin; go_must (refine wp_app (w := w14.alloc (.cells #[.string x] 9)) tyS rfl (.tmp 78) (.tmp 80) rfl w12.heap.size _ F.length _ own6 (by rfl) _ 1 [.string x] (sl_one_new (w := w14) (n := 1) (e := 9) (Q := [.string x]) rfl rfl) (by rfl) strv_one (by omega) (by omega) hw06 ?_); intro v7 w15 own7 gr7)
          have xw7 := own_base own6 gr7 xr6 (Nat.le_refl _)
          go_roundg (PS.length - (k + 1))
          case measure => omega
          case rel => exact ⟨k + 1, by omega, by omega, by go_num, by rw [HF.out, if_pos (by rfl), List.map_append, List.length_append]; exact own7, xw7⟩
        | true =>
          have ht : t0 = t1 := beq_path.1 hs
          subst ht
          cases hq : (q0 == q1) with
          | false =>
            have hqq : (q0 != q1) = true := by unfold bne; rw [hq]; rfl
            have hd : decide (((q0, t0) : Mb) = (q1, t0)) = false := decide_eq_false (fun e => by
              injection e with e1 e2
              rw [e1] at hq
              simp at hq)
            rw [hd] at HF
            clear hd
            have own6 := own.alloc (.cells #[.string x] 9)
            have yb := (Ext.refl w14).alloc (.cells #[.string x] 9)
            have xr6 := X14.trans yb
            have k0 := yb.cell k0
            have hw06 := xr6.size
            go_wp2_with (at_builtin; go_must (refine wp_app (w := w14.alloc (.cells #[.string x] 9)) tyS rfl (.tmp 78) (.tmp 80) rfl w12.heap.size _ F.length _ own6 (by rfl) _ 1 [.string x] (sl_one_new (w := w14) (n := 1) (e := 9) (Q := [.string x]) rfl rfl) (by rfl) strv_one (by omega) (by omega) hw06 ?_); intro v7 w15 own7 gr7)
            have xw7 := own_base own6 gr7 xr6 (Nat.le_refl _)
            go_roundg (PS.length - (k + 1))
            case measure => omega
            case rel => exact ⟨k + 1, by omega, by omega, by go_num, by rw [HF.out, if_pos (by rfl), List.map_append, List.length_append]; exact own7, xw7⟩
          | true =>
            have hqq : (q0 != q1) = false := by unfold bne; rw [hq]; rfl
            obtain rfl : q0 = q1 := by simpa using hq
            rw [decide_eq_true rfl] at HF
            go_wp2_with fail
            go_roundg (PS.length - (k + 1))
            case measure => omega
            case rel => exact ⟨k + 1, by omega, by omega, by go_num, by rw [HF.out]; simpa using own, X14⟩
      · obtain rfl : k = PS.length := by omega
        rw [List.take_of_length_le (Nat.le_refl _)] at own hcl
        generalize PS.filter (fun p => !decide (atM s0 p = atM s1 p)) = WL at *
        have IW : IsStr wr _ WL := IsSl.of_owns own
        have IP := IP.ext xr
        obtain ⟨_, _, e1, hb1, hm1, _, g1⟩ := IP.opened
        simp only [Value.slice.injEq, true_and] at e1
        obtain ⟨rfl, rfl⟩ := e1
        obtain ⟨aw, cw, rfl, hb2, hm2, _, g2⟩ := IW.opened
        have G1 := Lib.hid g1
        have G2 := Lib.hid g2
        clear g1 g2 IW IP
        have hnn := len_ne_self2 WL.length
        go_wp2_with fail
        obtain ⟨wL, rfl⟩ : ∃ x, x = wr := ⟨_, rfl⟩
        go_loopg [94] WL.length (fun g s94 wr => ∃ k : Nat, k ≤ WL.length ∧ WL.length - k ≤ g ∧ s94 = .int .i64 (k : Int) ∧ Ext wL wr)
        case atStart => exact ⟨0, by omega, by omega, rfl, Ext.refl _⟩
        case round =>
          obtain ⟨k, hk, hg, rfl, xi⟩ := hrel
          by_cases hlt : k < WL.length
          · obtain ⟨pb, o, rfl, e0⟩ := G1.out k hlt
            obtain ⟨pb2, o2, rfl, e1⟩ := G2.out k hlt
            have e0 := xi.cell e0
            have e1 := xi.cell e1
            generalize WL[k] = x at *
            go_wp2_with fail
            go_quiet (fail)
            go_wp2
            go_roundg (WL.length - (k + 1))
            case measure => omega
            case rel => exact ⟨k + 1, by omega, by omega, by go_num, xi.drewN _⟩
          · obtain rfl : k = WL.length := by omega
            go_wp2_with fail
            go_ret
            exact ⟨rfl, (X.trans xr).trans xi⟩
theorem walkMergeChanged (w : World) (v0 : Value) (f0 : List Fl) (h0 : ArgRepo w v0 f0) (v1 : Value) (f1 : List Fl) (h1 : ArgRepo w v1 f1) :
    Calls Tryd.prog 4 #[v0, v1] w fun e w' => e = .returned (.bool true) ∧ Below w.heap.size w w' := by
  obtain ⟨u0, rfl, k0⟩ := h0
  obtain ⟨u1, rfl, k1⟩ := h1
  exact walkMergeChangedI w u0 u1 f0 f1 k0 k1
end Go.Proofs.YtpcpcjejdngllaaDoor
