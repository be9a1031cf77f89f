/- The walk of the statement MergeMerges. -/
import Derived.Test.YtpcpcjejdngllaaDoorMgTu
import Derived.Test.YtpcpcjejdngllaaDoorMgCg
import Derived.Test.YtpcpcjejdngllaaDoorMgRm
namespace Go.Proofs.YtpcpcjejdngllaaDoor
open Go.RowKit
set_option linter.unusedVariables false
set_option linter.unusedSimpArgs false

/-- A row of files whose texts are strings. -/
def TextRow (w : World) (base : Nat) (ra : Option Addr) (n m : Nat) : Prop :=
  n = 0 ∨ ∃ (g : Nat) (cur : Array Value), ra = some ⟨g, 0, none⟩ ∧ base ≤ g ∧ w.heap[g]? = some (.cells cur 46 (0, 0)) ∧ ∀ i, i < n → ∃ s : ByteArray, cur[i * 2 + 1]? = some (.string s) ∧ s.size ≤ m
theorem textRow_own {w : World} {base : Nat} {ra : Option Addr} {l : List Fl} {c : Nat} (h : w.ownsRow base 46 2 (.slice ra l.length c) l.length (l.flatMap flC)) (hok : ∀ f ∈ l, flOk f) : TextRow w base ra l.length (140737488355328 + 0) := by
  rcases h.2 with ⟨e, _⟩ | ⟨g, cap, cur, e, hb, hg, _⟩
  · simp only [Value.slice.injEq] at e
    exact .inl e.2.1
  · simp only [Value.slice.injEq, true_and] at e
    obtain ⟨rfl, rfl⟩ := e
    refine .inr ⟨g, cur, rfl, hb, hg, fun i hi => ?_⟩
    have hf := flat_get flC 2 l (fun _ _ => rfl) i hi 1 (by omega)
    have h1 := h.cells (g := g) rfl (i * 2 + 1) (.string l[i].text) (by rw [hf]; rfl)
    rw [Addr.add_lit, Nat.zero_add, block_cell hg] at h1
    exact ⟨_, h1, (hok _ (List.getElem_mem hi)).2⟩
theorem repo_and {a b c : Bool} (h : (a && (b && c)) = true) : a = true ∧ b = true ∧ c = true := by simpa using h
theorem merge_cl {f0 f1 f2 : List Fl} (h : (repoB f0 && (repoB f1 && repoB f2)) = true) (hc : 0 < (clsL (trosM f0 f1 f2)).length) : mergeL f0 f1 f2 = ([], clsL (trosM f0 f1 f2), 0) := by
  unfold mergeL; rw [h, if_neg (by decide), if_pos hc]
theorem mgd_fm {f0 f1 f2 : List Fl} (hc : ¬ 0 < (clsL (trosM f0 f1 f2)).length) : mgdL (trosM f0 f1 f2) = fmL f0 f1 f2 := by
  have h0 : clsL (trosM f0 f1 f2) = [] := List.eq_nil_of_length_eq_zero (by omega)
  have hall : ∀ p ∈ pathsL [f0, f1, f2], clashM (atM f0 p) (atM f1 p) (atM f2 p) = false := by
    intro p hp
    cases h : clashM (atM f0 p) (atM f1 p) (atM f2 p) with
    | false => rfl
    | true =>
      have : (p, atM f0 p, atM f1 p, atM f2 p) ∈ clsL (trosM f0 f1 f2) := by
        unfold clsL trosM trosL
        rw [List.mem_filter]
        exact ⟨List.mem_map.2 ⟨p, hp, rfl⟩, h⟩
      rw [h0] at this
      cases this
  exact mgd_stand hall
theorem merge_bad6 {f0 f1 f2 : List Fl} (h : (repoB f0 && (repoB f1 && repoB f2)) = true) (hc : ¬ 0 < (clsL (trosM f0 f1 f2)).length) (hr : repoB (fmL f0 f1 f2) = false) : mergeL f0 f1 f2 = ([], [], 6) := by
  unfold mergeL; rw [h, if_neg (by decide), if_neg hc, mgd_fm hc, if_pos hr]
theorem merge_ok {f0 f1 f2 : List Fl} (h : (repoB f0 && (repoB f1 && repoB f2)) = true) (hc : ¬ 0 < (clsL (trosM f0 f1 f2)).length) (hr : repoB (fmL f0 f1 f2) = true) : mergeL f0 f1 f2 = (fmL f0 f1 f2, [], 0) := by
  unfold mergeL; rw [h, if_neg (by decide), if_neg hc, mgd_fm hc, if_neg (by rw [hr]; decide)]
set_option maxHeartbeats 16000000 in
set_option maxRecDepth 100000 in
theorem walkMergeMergesI (w : World) (u0 u1 u2 : Value) (f0 f1 f2 : List Fl) (h0 : IsF w u0 f0) (h1 : IsF w u1 f1) (h2 : IsF w u2 f2) :
    Calls Tryd.prog 3 #[.agg #[u0, u1, u2]] w fun e w' => e = .returned (.bool true) ∧ Ext w w' := by
  obtain ⟨a0, c0, rfl, _, _, _, _⟩ := h0.opened
  obtain ⟨a1, c1, rfl, _, _, _, _⟩ := h1.opened
  obtain ⟨a2, c2, rfl, _, _, _, _⟩ := h2.opened
  have b0 := heap_alloc_new w (.cells #[.slice a0 f0.length c0, .slice a1 f1.length c1, .slice a2 f2.length c2] 26)
  have X := (Ext.refl w).alloc (.cells #[.slice a0 f0.length c0, .slice a1 f1.length c1, .slice a2 f2.length c2] 26)
  have h0 := h0.ext X
  have h1 := h1.ext X
  have h2 := h2.ext X
  go_enter Tryd.func3, Tryd.ntmps3
  go_wp2_with fail
  generalize w.alloc (.cells #[.slice a0 f0.length c0, .slice a1 f1.length c1, .slice a2 f2.length c2] 26) = w1 at *
  obtain ⟨B, hB⟩ : ∃ B, w.heap.size = B := ⟨_, rfl⟩
  have hBw : w.heap.size ≤ B := by omega
  rw [hB] at b0
  rw [hB]
  clear hB
  refine Calls.mono (mWakes _) ?_
  rintro e w2 ⟨rfl, x1⟩
  have X := X.trans x1
  have b0 := x1.keeps b0
  have h0 := h0.ext x1
  have h1 := h1.ext x1
  have h2 := h2.ext x1
  clear x1
  have k0 : w2.cell? ⟨B, 0, none⟩ = some (.slice a0 f0.length c0) := by rw [block_cell b0]; rfl
  have k1 : w2.cell? ⟨B, 1, none⟩ = some (.slice a1 f1.length c1) := by rw [block_cell b0]; rfl
  have k2 : w2.cell? ⟨B, 2, none⟩ = some (.slice a2 f2.length c2) := by rw [block_cell b0]; rfl
  go_wp2_with fail
  refine Calls.mono (lawFew w2 _ _ _ f0 f1 f2 h0 h1 h2) ?_
  rintro e w3 ⟨v0, v1, v2, rfl, o0, o1, o2, x⟩
  have X := X.trans x
  have b0 := x.keeps b0
  clear k0 k1 k2 x h0 h1 h2
  obtain ⟨a3, c3, rfl⟩ := slice_shape o0
  obtain ⟨a4, c4, rfl⟩ := slice_shape o1
  obtain ⟨a5, c5, rfl⟩ := slice_shape o2
  have gr := grown_rowM (w := w3) (g := B) (c := #[.slice a3 (shortF f0).length c3, .slice a4 (shortF f1).length c4, .slice a5 (shortF f2).length c5])
  have H0 := isF_own (o0.kept gr (.inr (own_neU o0 b0 (by decide)))) (shortF_ok f0)
  have H1 := isF_own (o1.kept gr (.inr (own_neU o1 b0 (by decide)))) (shortF_ok f1)
  have H2 := isF_own (o2.kept gr (.inr (own_neU o2 b0 (by decide)))) (shortF_ok f2)
  have X := X.grown gr (fun k hk => by cases hk; exact hBw)
  have b4 := setRow_heap w3 B _ #[.slice a3 (shortF f0).length c3, .slice a4 (shortF f1).length c4, .slice a5 (shortF f2).length c5] _ _ b0
  clear o0 o1 o2 gr
  go_wp2_with ((with_reducible refine at_store 26 (.tmp 1) (.tmp 16) ?_); refine wpl_store (by rfl) 26 (.tmp 1) (.tmp 16) rfl B #[.slice a3 (shortF f0).length c3, .slice a4 (shortF f1).length c4, .slice a5 (shortF f2).length c5] (by rfl) (by rfl) 26 _ b0 (info3M _ _ _) rfl (by simp [Value.oneCell']) ?_; generalize hW4 : w3.setRow B #[.slice a3 (shortF f0).length c3, .slice a4 (shortF f1).length c4, .slice a5 (shortF f2).length c5] = w4 at *; have k0 : w4.cell? ⟨B, 0, none⟩ = some (.slice a3 (shortF f0).length c3) := (by rw [block_cell b4]; rfl); have k1 : w4.cell? ⟨B, 1, none⟩ = some (.slice a4 (shortF f1).length c4) := (by rw [block_cell b4]; rfl); have k2 : w4.cell? ⟨B, 2, none⟩ = some (.slice a5 (shortF f2).length c5) := (by rw [block_cell b4]; rfl))
  have T0 := short_twice f0
  have T1 := short_twice f1
  have T2 := short_twice f2
  have L0 := short_len f0
  have L1 := short_len f1
  have L2 := short_len f2
  refine Calls.mono (lawFew w4 _ _ _ _ _ _ H0 H1 H2) ?_
  rintro e w5 ⟨v0, v1, v2, rfl, o0, o1, o2, y⟩
  rw [T0] at o0
  rw [T1] at o1
  rw [T2] at o2
  clear T0 T1 T2 b0 b4 hW4
  generalize shortF f0 = s0 at *
  generalize shortF f1 = s1 at *
  generalize shortF f2 = s2 at *
  obtain ⟨a6, c6, rfl⟩ := slice_shape o0
  obtain ⟨a7, c7, rfl⟩ := slice_shape o1
  obtain ⟨a8, c8, rfl⟩ := slice_shape o2
  have J0 := isF_own o0 H0.ok
  have J1 := isF_own o1 H1.ok
  have J2 := isF_own o2 H2.ok
  have bN := heap_alloc_new w5 (.cells #[.slice a6 s0.length c6, .slice a7 s1.length c7, .slice a8 s2.length c8] 26)
  have y2 := (Ext.refl w5).alloc (.cells #[.slice a6 s0.length c6, .slice a7 s1.length c7, .slice a8 s2.length c8] 26)
  have m0 := (block_cell bN 0).trans (show _ = some (Value.slice a6 s0.length c6) from rfl)
  have m1 := (block_cell bN 1).trans (show _ = some (Value.slice a7 s1.length c7) from rfl)
  have m2 := (block_cell bN 2).trans (show _ = some (Value.slice a8 s2.length c8) from rfl)
  have J0 := J0.ext y2
  have J1 := J1.ext y2
  have J2 := J2.ext y2
  have y := y.trans y2
  have k0 := y.cell k0
  have k1 := y.cell k1
  have k2 := y.cell k2
  have H0 := H0.ext y
  have H1 := H1.ext y
  have H2 := H2.ext y
  have X := X.trans y
  clear y y2 bN o0 o1 o2
  go_wp2_with fail
  generalize w5.alloc (.cells #[.slice a6 s0.length c6, .slice a7 s1.length c7, .slice a8 s2.length c8] 26) = w6 at *
  generalize w5.heap.size = N2 at *
  have Zk0 := Lib.hid k0
  have Zk1 := Lib.hid k1
  have Zk2 := Lib.hid k2
  have Zm0 := Lib.hid m0
  have Zm1 := Lib.hid m1
  have Zm2 := Lib.hid m2
  have ZH0 := Lib.hid H0
  have ZH1 := Lib.hid H1
  have ZH2 := Lib.hid H2
  have ZJ0 := Lib.hid J0
  have ZJ1 := Lib.hid J1
  have ZJ2 := Lib.hid J2
  have OK := mergeL_ok H0.ok H1.ok H2.ok
  refine Calls.mono (mergeMerge w6 _ _ _ _ _ _ H0 H1 H2) ?_
  rintro e w7 ⟨vr, vc, rfl, ownR, ownC, x7⟩
  obtain ⟨D, hD⟩ : ∃ D, mergeL s0 s1 s2 = D := ⟨_, rfl⟩
  rw [hD] at OK ownR ownC
  rw [hD]
  have HD := Lib.hid hD
  clear hD
  obtain ⟨R, C, er⟩ := D
  dsimp only at OK ownR ownC ⊢
  have HOK := Lib.hid OK
  clear OK
  obtain ⟨ra, rc, rfl⟩ := slice_shape ownR
  obtain ⟨ca, cc, rfl⟩ := slice_shape ownC
  have IC : IsC w7 (.slice ca C.length cc) C := ⟨IsSl.of_owns ownC⟩
  have bR := heap_alloc_new w7 (.cells #[.slice ra R.length rc] 24)
  have y := (Ext.refl w7).alloc (.cells #[.slice ra R.length rc] 24)
  have IC := IC.ext y
  have ownR := owns_extU ownR y
  have r0 := (block_cell bR 0).trans (show _ = some (Value.slice ra R.length rc) from rfl)
  have X6 := x7.trans y
  have k0 := X6.cell k0
  have k1 := X6.cell k1
  have k2 := X6.cell k2
  have m0 := X6.cell m0
  have m1 := X6.cell m1
  have m2 := X6.cell m2
  have H0 := H0.ext X6
  have H1 := H1.ext X6
  have H2 := H2.ext X6
  have J0 := J0.ext X6
  have J1 := J1.ext X6
  have J2 := J2.ext X6
  have hN3 : w6.heap.size ≤ w7.heap.size := x7.size
  clear y x7 ownC
  go_wp2_with fail
  generalize w7.alloc (.cells #[.slice ra R.length rc] 24) = w8 at *
  generalize w7.heap.size = N3 at *
  refine Calls.mono (mergeClashes w8 _ _ _ s0 s1 s2 H0 H1 H2) ?_
  rintro e w9 ⟨vp, rfl, IP, y⟩
  have bR := y.keeps bR
  have k0 := y.cell k0
  have k1 := y.cell k1
  have k2 := y.cell k2
  have m0 := y.cell m0
  have m1 := y.cell m1
  have m2 := y.cell m2
  have r0 := y.cell r0
  have H0 := H0.ext y
  have H1 := H1.ext y
  have H2 := H2.ext y
  have J0 := J0.ext y
  have J1 := J1.ext y
  have J2 := J2.ext y
  have IC := IC.ext y
  have ownR := owns_extU ownR y
  have X6 := X6.trans y
  clear y
  obtain ⟨DP, hDP⟩ : ∃ D, clashesL s0 s1 s2 = D := ⟨_, rfl⟩
  rw [hDP] at IP
  rw [hDP]
  obtain ⟨ap, cp, rfl, -⟩ := IP.opened
  go_wp2_with fail
  refine Calls.mono (lawWhole w9 _ _ _ _ _ _ s0 s1 s2 H0 H1 H2 J0 J1 J2) ?_
  rintro e w10 ⟨rfl, y⟩
  have bR := y.keeps bR
  have m0 := y.cell m0
  have m1 := y.cell m1
  have m2 := y.cell m2
  have r0 := y.cell r0
  have J0 := J0.ext y
  have J1 := J1.ext y
  have J2 := J2.ext y
  have IC := IC.ext y
  have IP := IP.ext y
  have ownR := owns_extU ownR y
  have X6 := X6.trans y
  clear y k0 k1 k2 H0 H1 H2
  have E := lawRight w10 _ _ _ s0 s1 s2 J0 J1 J2
  cases hr : (repoB s0 && (repoB s1 && repoB s2)) with
  | false =>
    rw [hr] at E
    obtain rfl : ([], 170) = DP := by rw [← hDP]; unfold clashesL; rw [hr]; rfl
    have hd := HD.out
    rw [merge_bad hr] at hd
    simp only [Prod.mk.injEq] at hd
    obtain ⟨rfl, rfl, rfl⟩ := hd
    go_wp2_with fail
    refine Calls.mono E ?_
    rintro e w11 ⟨rfl, y⟩
    have r0 := y.cell r0
    go_wp2_with fail
    go_ret
    exact ⟨ret_bool (by decide), (X.trans X6).trans y⟩
  | true =>
    rw [hr] at E
    obtain rfl : ((clsL (trosM s0 s1 s2)).map Prod.fst, 0) = DP := by rw [← hDP]; unfold clashesL; rw [hr]; rfl
    have HRR := Lib.hid hr
    clear hDP hr
    dsimp only at IP
    go_wp2_with fail
    refine Calls.mono E ?_
    rintro e w11 ⟨rfl, y⟩
    have bR := y.keeps bR
    have m0 := y.cell m0
    have m1 := y.cell m1
    have m2 := y.cell m2
    have r0 := y.cell r0
    have J0 := J0.ext y
    have J1 := J1.ext y
    have J2 := J2.ext y
    have IC := IC.ext y
    have IP := IP.ext y
    have ownR := owns_extU ownR y
    have X6 := X6.trans y
    clear y E
    go_wp2_with fail
    refine Calls.mono (refClashes w11 _ _ _ s0 s1 s2 J0 J1 J2 (by omega) (by omega) (by omega)) ?_
    rintro e w12 ⟨vw, rfl, IW, y⟩
    have bR := y.keeps bR
    have m0 := y.cell m0
    have m1 := y.cell m1
    have m2 := y.cell m2
    have r0 := y.cell r0
    have J0 := J0.ext y
    have J1 := J1.ext y
    have J2 := J2.ext y
    have IC := IC.ext y
    have IP := IP.ext y
    have ownR := owns_extU ownR y
    have X6 := X6.trans y
    clear y
    obtain ⟨CLs, hCL⟩ : ∃ C, clsL (trosM s0 s1 s2) = C := ⟨_, rfl⟩
    rw [hCL] at IW IP
    have HCL := Lib.hid hCL
    clear hCL
    have IWW := IW
    obtain ⟨aw, cw, rfl, hb1, hm1, _, gw⟩ := IWW.opened
    have GW := Lib.hid gw
    clear gw IWW
    have IPP := IP
    obtain ⟨_, _, e1, hb2, hm2, _, gp⟩ := IPP.opened
    simp only [Value.slice.injEq, true_and] at e1
    obtain ⟨rfl, rfl⟩ := e1
    rw [List.length_map] at hb2
    have GP := Lib.hid gp
    clear gp IPP IP
    have hnn := len_ne_self2 CLs.length
    rw [HCL.out]
    go_wp2_with fail
    go_loopg [83] CLs.length (fun g s83 wr => ∃ k : Nat, k ≤ CLs.length ∧ CLs.length - k ≤ g ∧ s83 = .int .i64 (k : Int) ∧ Ext w12 wr)
    case atStart => exact ⟨0, by omega, by omega, rfl, Ext.refl _⟩
    case round =>
      obtain ⟨k, hk, hg, rfl, xr⟩ := hrel
      by_cases hlt : k < CLs.length
      · obtain ⟨pb, o, rfl, e0⟩ := GP.out k (by rw [List.length_map]; exact hlt)
        obtain ⟨p1, o1, rfl, q0, q1, q2, q3, q4, q5, q6⟩ := GW.out k hlt
        rw [List.getElem_map] at e0
        generalize CLs[k] = z at *
        have e0 := xr.cell e0
        have q0 := xr.cell q0
        go_wp2_with fail
        go_quiet (fail)
        go_wp2
        go_roundg (CLs.length - (k + 1))
        case measure => omega
        case rel => exact ⟨k + 1, by omega, by omega, by go_num, xr.drewN _⟩
      · obtain rfl : k = CLs.length := by omega
        have bR := xr.keeps bR
        have m0 := xr.cell m0
        have m1 := xr.cell m1
        have m2 := xr.cell m2
        have r0 := xr.cell r0
        have J0 := J0.ext xr
        have J1 := J1.ext xr
        have J2 := J2.ext xr
        have IC := IC.ext xr
        have IW := IW.ext xr
        have ownR := owns_extU ownR xr
        have X6 := X6.trans xr
        clear xr GP GW
        by_cases hpos : 0 < CLs.length
        · have hp2 : (0 : Int) < (CLs.length : Int) := by omega
          have hd := HD.out
          rw [merge_cl HRR.out (by rw [HCL.out]; exact hpos), HCL.out] at hd
          simp only [Prod.mk.injEq] at hd
          obtain ⟨rfl, rfl, rfl⟩ := hd
          have E := refSame08 wr _ _ CLs CLs IC IW
          rw [decide_eq_true (rfl : CLs = CLs)] at E
          go_wp2_with fail
          refine Calls.mono E ?_
          rintro e w13 ⟨rfl, y⟩
          go_wp2_with fail
          go_ret
          exact ⟨rfl, (X.trans X6).trans (toExt y)⟩
        · have hp2 : ¬ (0 : Int) < (CLs.length : Int) := by omega
          have hcl0 : ¬ 0 < (clsL (trosM s0 s1 s2)).length := by rw [HCL.out]; exact hpos
          have OKM : ∀ f ∈ fmL s0 s1 s2, flOk f := by rw [← mgd_fm hcl0]; exact mgdM_ok J0.ok J1.ok J2.ok
          have HCN := Lib.hid hcl0
          clear hcl0
          go_wp2_with fail
          refine Calls.mono (refMerged wr _ _ _ s0 s1 s2 J0 J1 J2 (by omega) (by omega) (by omega)) ?_
          rintro e w13 ⟨vm, rfl, ownM, y⟩
          obtain ⟨MM, hMM⟩ : ∃ M, fmL s0 s1 s2 = M := ⟨_, rfl⟩
          rw [hMM] at ownM OKM
          have HMM := Lib.hid hMM
          clear hMM
          obtain ⟨am, cm, rfl⟩ := slice_shape ownM
          have IM := isF_own ownM OKM
          have bM := heap_alloc_new w13 (.cells #[.slice am MM.length cm] 24)
          have y2 := (Ext.refl w13).alloc (.cells #[.slice am MM.length cm] 24)
          have n0 := (block_cell bM 0).trans (show _ = some (Value.slice am MM.length cm) from rfl)
          have IM := IM.ext y2
          have y := y.trans y2
          have bR := y.keeps bR
          have r0 := y.cell r0
          have IC := IC.ext y
          have ownR := owns_extU ownR y
          have X6 := X6.trans y
          clear y y2 bM ownM J0 J1 J2 m0 m1 m2 IW
          go_wp2_with fail
          generalize w13.alloc (.cells #[.slice am MM.length cm] 24) = w14 at *
          generalize w13.heap.size = N4 at *
          have E := refRight07 w14 _ MM IM
          cases hrm : repoB MM with
          | false =>
            rw [hrm] at E
            have hd := HD.out
            rw [merge_bad6 HRR.out HCN.out (by rw [HMM.out]; exact hrm)] at hd
            simp only [Prod.mk.injEq] at hd
            obtain ⟨rfl, rfl, rfl⟩ := hd
            refine Calls.mono E ?_
            rintro e w15 ⟨rfl, y⟩
            have r0 := y.cell r0
            go_wp2_with fail
            go_ret
            exact ⟨ret_bool (by decide), (X.trans X6).trans y⟩
          | true =>
            rw [hrm] at E
            have hd := HD.out
            rw [merge_ok HRR.out HCN.out (by rw [HMM.out]; exact hrm), HMM.out] at hd
            simp only [Prod.mk.injEq] at hd
            obtain ⟨rfl, rfl, rfl⟩ := hd
            refine Calls.mono E ?_
            rintro e w15 ⟨rfl, y⟩
            have bR := y.keeps bR
            have r0 := y.cell r0
            have n0 := y.cell n0
            have IM := IM.ext y
            have ownR := owns_extU ownR y
            have X6 := X6.trans y
            clear y E
            have IR := isF_own ownR OKM
            have E := refSame07 w15 _ _ MM MM IR IM
            rw [decide_eq_true (rfl : MM = MM)] at E
            go_wp2_with fail
            refine Calls.mono E ?_
            rintro e w16 ⟨rfl, y⟩
            have bR := y.keeps bR
            have r0 := y.cell r0
            have ownR := owns_extU ownR y
            have X6 := X6.trans y
            clear y E IR IM n0 IC
            go_wp2_with fail
            have hT := textRow_own ownR OKM
            have hlm := repo_len hrm
            clear ownR
            have HX0 := Lib.hid X
            obtain ⟨wL, rfl⟩ : ∃ x, x = w16 := ⟨_, rfl⟩
            go_loopg [150] MM.length (fun g s150 wr => ∃ k : Nat, k ≤ MM.length ∧ MM.length - k ≤ g ∧ s150 = .int .i64 (k : Int) ∧ wr.heap[N3]? = some (.cells #[.slice ra MM.length rc] 24 (0, 0)) ∧ TextRow wr w6.heap.size ra MM.length (140737488355328 + k) ∧ Ext w6 wr)
            case atStart => exact ⟨0, by omega, by omega, rfl, bR, hT, X6⟩
            case round =>
              clear bR hT X6 r0
              obtain ⟨k, hk, hg, rfl, bR, hT, X6⟩ := hrel
              have r0 := (block_cell bR 0).trans (show _ = some (Value.slice ra MM.length rc) from rfl)
              by_cases hlt : k < MM.length
              · obtain ⟨g, cur, rfl, hgb, hcur, hstr⟩ := hT.resolve_left (by omega)
                obtain ⟨t, ht, hts⟩ := hstr k hlt
                have hsz : t.size + 1 ≤ 9223372036854775807 := by omega
                have c1 : wr.cell? ⟨g, k * 2 + 1, none⟩ = some (.string t) := (block_cell hcur _).trans ht
                have fr := block_free hcur (k * 2 + 1)
                have hne : g ≠ N3 := fun e => by subst e; rw [bR] at hcur; cases hcur
                go_wp2_with fail
                go_roundg (MM.length - (k + 1))
                case measure => omega
                case rel =>
                  refine ⟨k + 1, by omega, by omega, by go_num, set_other bR (Ne.symm hne), .inr ⟨g, _, rfl, hgb, block_setCell hcur _, fun i hi => ?_⟩, X6.setCell (p := ⟨g, k * 2 + 1, none⟩) hgb _⟩
                  obtain ⟨s, hs, hss⟩ := hstr i hi
                  rw [Array.getElem?_setIfInBounds]
                  split
                  · split
                    · exact ⟨_, rfl, by rw [ByteArray.size_append]; show t.size + 1 ≤ _; omega⟩
                    · rename_i h1 h2
                      rw [← h1] at hs
                      rw [Array.getElem?_eq_none (by omega)] at hs
                      cases hs
                  · exact ⟨s, hs, by omega⟩
              · obtain rfl : k = MM.length := by omega
                have k0 := X6.cell Zk0.out
                have k1 := X6.cell Zk1.out
                have k2 := X6.cell Zk2.out
                have m0 := X6.cell Zm0.out
                have m1 := X6.cell Zm1.out
                have m2 := X6.cell Zm2.out
                have H0 := ZH0.out.ext X6
                have H1 := ZH1.out.ext X6
                have H2 := ZH2.out.ext X6
                have J0 := ZJ0.out.ext X6
                have J1 := ZJ1.out.ext X6
                have J2 := ZJ2.out.ext X6
                go_wp2_with fail
                refine Calls.mono (lawWhole wr _ _ _ _ _ _ s0 s1 s2 H0 H1 H2 J0 J1 J2) ?_
                rintro e w17 ⟨rfl, y⟩
                go_wp2_with fail
                go_ret
                exact ⟨rfl, (HX0.out.trans X6).trans y⟩
theorem walkMergeMerges (w : World) (v0 : Value) (fs : List Fl × List Fl × List Fl) (h0 : ArgThree w v0 fs) :
    Calls Tryd.prog 3 #[v0] w fun e w' => e = .returned (.bool true) ∧ Below w.heap.size w w' := by
  obtain ⟨u0, u1, u2, rfl, k0, k1, k2⟩ := h0
  exact walkMergeMergesI w u0 u1 u2 _ _ _ k0 k1 k2
end Go.Proofs.YtpcpcjejdngllaaDoor
