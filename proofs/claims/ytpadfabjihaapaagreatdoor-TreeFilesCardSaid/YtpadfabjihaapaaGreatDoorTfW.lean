/- The walk of TreeFiles. -/
import Derived.Test.YtpadfabjihaapaaGreatDoorWtB
import Derived.BigGuardPart
namespace Go.Proofs.YtpadfabjihaapaaGreatDoor
open Go.RowKit
set_option linter.unusedVariables false
set_option linter.unusedSimpArgs false

set_option maxHeartbeats 8000000 in
set_option maxRecDepth 100000 in
theorem walkTreeFilesI (w : World) (hT : Tabs w) (v : Value) (l : List Fl) (h : IsF w v l) (p t : ByteArray) (hp : p.size ≤ 9223372036854775807) (ht : t.size ≤ 9223372036854775807) :
    Calls Tryz.prog 5 #[.agg #[v], .string p, .string t] w fun e w' => e = .returned (.bool true) ∧ Ext w w' := by
  have HT := Lib.hid hT
  have HF := Lib.hid h
  obtain ⟨a0, c0, e0⟩ := sl_len h.sl
  subst e0
  clear h hT
  go_enter Tryz.func5, Tryz.ntmps5
  go_upto_region 1 with fail
  obtain ⟨G, hG⟩ : ∃ G, w.heap.size = G := ⟨_, rfl⟩
  rw [hG]
  refine wp_forgetH (fun W => Ext w W ∧ W.heap[G]? = some (.cells #[.slice a0 l.length c0] 24 (0, 0))) ⟨(Ext.refl w).alloc _, blk_new hG⟩ ?_
  rintro w1 ⟨x1, b1⟩
  go_wp2_with fail
  refine Calls.mono (wakes07 w1 (HT.out.ext x1)) ?_
  rintro e w2 ⟨rfl, x2⟩
  have X2 := x1.trans x2
  have b2 := x2.keeps b1
  go_wp2_with ((with_reducible refine at_load 24 (.tmp 3) ?_); refine wpl_load (by rfl) 24 (.tmp 3) rfl G (by rfl) 24 #[.slice a0 l.length c0] (0, 0) _ b2 Tryz.underlying24 rfl (infoRp _) ?_)
  refine Calls.mono (largeC w2 _ l (HF.out.ext X2)) ?_
  rintro e w3 ⟨b, rfl, hlg, x3⟩
  have X3 := X2.trans x3
  have b3 := x3.keeps b2
  have hsmall : (b = true ∨ 1000 < p.size ∨ 20000 < t.size) ∨ (b = false ∧ p.size ≤ 1000 ∧ t.size ≤ 20000) := by
    cases b
    · by_cases h1 : 1000 < p.size
      · exact .inl (.inr (.inl h1))
      · by_cases h2 : 20000 < t.size
        · exact .inl (.inr (.inr h2))
        · exact .inr ⟨rfl, by omega, by omega⟩
    · exact .inl (.inl rfl)
  rcases hsmall with hbig | ⟨rfl, hp1, ht1⟩
  · have HXB := Lib.hid X3
    clear hlg
    cases b with
    | true =>
      clear hbig
      go_wp2_with fail
      exact bodyPost_ret (results_t rfl _ _) rfl ⟨rfl, HXB.out⟩
    | false =>
      by_cases h1 : 1000 < p.size
      · have d1 : decide ((1000 : Int) < (p.size : Int)) = true := decide_eq_true (by omega)
        clear hbig
        go_wp2_with fail
        exact bodyPost_ret (results_t rfl _ _) rfl ⟨rfl, HXB.out⟩
      · have d1 : decide ((1000 : Int) < (p.size : Int)) = false := decide_eq_false (by omega)
        have h2 : 20000 < t.size := by rcases hbig with h | h | h; cases h; exact absurd h h1; exact h
        have d2 : decide ((20000 : Int) < (t.size : Int)) = true := decide_eq_true (by omega)
        clear hbig h1
        go_wp2_with fail
        exact bodyPost_ret (results_t rfl _ _) rfl ⟨rfl, HXB.out⟩
  · have hl := (hlg rfl).1
    have HK := Lib.hid (show flOk ⟨p, t⟩ from ⟨by show p.size ≤ _; omega, by show t.size ≤ _; omega⟩)
    have d1 : decide ((1000 : Int) < (p.size : Int)) = false := decide_eq_false (by omega)
    have d2 : decide ((20000 : Int) < (t.size : Int)) = false := decide_eq_false (by omega)
    clear hlg
    go_wp2_with ((with_reducible refine at_load 24 (.tmp 3) ?_); refine wpl_load (by rfl) 24 (.tmp 3) rfl G (by rfl) 24 #[.slice a0 l.length c0] (0, 0) _ b3 Tryz.underlying24 rfl (infoRp _) ?_)
    refine Calls.mono (copiedC w3 _ l (HF.out.ext X3) (by omega)) ?_
    rintro e w4 ⟨v4, rfl, h4, x4⟩
    obtain ⟨a4, c4, e4⟩ := sl_len h4.sl
    subst e4
    have X4 := X3.trans x4
    have b4 := x4.keeps b3
    clear d1 d2
    go_wp2_with fail
    refine Calls.mono (treeGet w4 _ l h4 p) ?_
    rintro e w5 ⟨rfl, x5⟩
    have X5 := X4.trans x5
    have b5 := x5.keeps b4
    obtain ⟨GE, hGE⟩ : ∃ GE, getE l p = GE := ⟨_, rfl⟩
    rw [hGE]
    obtain ⟨s, ge⟩ := GE
    have HGE := Lib.hid hGE
    clear hGE h4
    go_wp2_with ((with_reducible refine at_load 24 (.tmp 3) ?_); refine wpl_load (by rfl) 24 (.tmp 3) rfl G (by rfl) 24 #[.slice a0 l.length c0] (0, 0) _ b5 Tryz.underlying24 rfl (infoRp _) ?_)
    refine Calls.mono (copiedC w5 _ l (HF.out.ext X5) (by omega)) ?_
    rintro e w6 ⟨v6, rfl, h6, x6⟩
    obtain ⟨a6, c6, e6⟩ := sl_len h6.sl
    subst e6
    have X6 := X5.trans x6
    have b6 := x6.keeps b5
    go_wp2_with fail
    refine Calls.mono (treePut w6 _ l h6 p t HK.out) ?_
    rintro e w7 ⟨vp, rfl, hp7, x7⟩
    obtain ⟨PV, hPV⟩ : ∃ PV, putV l ⟨p, t⟩ = PV := ⟨_, rfl⟩
    rw [hPV] at hp7 ⊢
    obtain ⟨pl, pe⟩ := PV
    simp only at hp7
    obtain ⟨ap, cp, ep⟩ := sl_len hp7.sl
    subst ep
    have X7 := X6.trans x7
    have b7 := x7.keeps b6
    have HPV := Lib.hid hPV
    clear hPV h6
    go_upto_region 7 with ((with_reducible refine at_store 24 (.tmp 9) (.tmp 43) ?_); refine wpl_store (by rfl) 24 (.tmp 9) (.tmp 43) rfl _ #[.slice ap pl.length cp] (by rfl) (by rfl) 24 _ (heap_alloc_new _ _) (infoRp _) rfl (by kernel_rfl) ?_; rw [World.setRow_alloc_new])
    obtain ⟨P, hP⟩ : ∃ P, w7.heap.size = P := ⟨_, rfl⟩
    rw [hP]
    refine wp_forgetH (fun W => Ext w7 W ∧ W.heap[P]? = some (.cells #[.slice ap pl.length cp] 24 (0, 0))) ⟨(Ext.refl w7).alloc _, blk_new hP⟩ ?_
    rintro w8 ⟨x8, bP8⟩
    have X8 := X7.trans x8
    have b8 := x8.keeps b7
    have HP8 := Lib.hid (hp7.ext x8)
    clear hp7
    go_wp2_with ((with_reducible refine at_load 24 (.tmp 3) ?_); refine wpl_load (by rfl) 24 (.tmp 3) rfl G (by rfl) 24 #[.slice a0 l.length c0] (0, 0) _ b8 Tryz.underlying24 rfl (infoRp _) ?_)
    refine Calls.mono (copiedC w8 _ l (HF.out.ext X8) (by omega)) ?_
    rintro e w9 ⟨v9, rfl, h9, x9⟩
    obtain ⟨a9, c9, e9⟩ := sl_len h9.sl
    subst e9
    have X9 := X8.trans x9
    have b9 := x9.keeps b8
    go_wp2_with fail
    refine Calls.mono (treeRemove w9 _ l h9 p) ?_
    rintro e w10 ⟨vq, rfl, hq10, x10⟩
    obtain ⟨QV, hQV⟩ : ∃ QV, remV l p = QV := ⟨_, rfl⟩
    rw [hQV] at hq10 ⊢
    obtain ⟨ql, qe⟩ := QV
    simp only at hq10
    obtain ⟨aq, cq, eq⟩ := sl_len hq10.sl
    subst eq
    have X10 := X9.trans x10
    have b10 := x10.keeps b9
    have HQV := Lib.hid hQV
    clear hQV h9
    go_upto_region 8 with ((with_reducible refine at_store 24 (.tmp 11) (.tmp 50) ?_); refine wpl_store (by rfl) 24 (.tmp 11) (.tmp 50) rfl _ #[.slice aq ql.length cq] (by rfl) (by rfl) 24 _ (heap_alloc_new _ _) (infoRp _) rfl (by kernel_rfl) ?_; rw [World.setRow_alloc_new])
    obtain ⟨Q, hQ⟩ : ∃ Q, w10.heap.size = Q := ⟨_, rfl⟩
    rw [hQ]
    refine wp_forgetH (fun W => Ext w10 W ∧ W.heap[Q]? = some (.cells #[.slice aq ql.length cq] 24 (0, 0))) ⟨(Ext.refl w10).alloc _, blk_new hQ⟩ ?_
    rintro w11 ⟨x11, bQ⟩
    have X11 := Lib.hid (X10.trans x11)
    have b11 := x11.keeps b10
    have xP := (x9.trans x10).trans x11
    have bP := xP.keeps bP8
    have HPP := Lib.hid (HP8.out.ext xP)
    have HQQ := Lib.hid (hq10.ext x11)
    have HBP := Lib.hid bP
    have HBQ := Lib.hid bQ
    have HB := Lib.hid b11
    have KG := fun v (h : Ext w11 v) => block_allH (h.keeps HB.out)
    clear hq10 HP8 xP X10 X9 X8 X7 X6 X5 X4 X3 X2 x1 x2 x3 x4 x5 x6 x7 x8 x9 x10 x11 b1 b2 b3 b4 b5 b6 b7 b8 b9 b10 b11 bP8 bP bQ
    refine wp_region_S (fun v => Ext w11 v) (by kernel_rfl) (fun w' h => h) fun wd hqd xd hHeld => ?_
    refine wpAnyH_take (i := 0) (v := ?vpa0) rfl (by kernel_rfl) (by kernel_rfl) (by kernel_rfl) (fun _ _ _ h => h) (Or.inl ⟨by rfl, ?hypa0⟩) hHeld ?_
    case hypa0 => (intro w hSw; go_simp; try with_reducible rfl)
    simp only [Act.put, List.setIfInBounds_toArray, List.set_cons_zero, List.set_cons_succ, List.getElem_toArray, List.getElem_cons_zero, List.getElem_cons_succ]
    refine wpAnyH_take (i := 2) (v := ?vpa2) rfl (by kernel_rfl) (by kernel_rfl) (by kernel_rfl) (fun _ _ _ h => h) (Or.inl ⟨by rfl, ?hypa2⟩) hHeld ?_
    case hypa2 => (intro w hSw; go_simp; try with_reducible rfl)
    simp only [Act.put, List.setIfInBounds_toArray, List.set_cons_zero, List.set_cons_succ, List.getElem_toArray, List.getElem_cons_zero, List.getElem_cons_succ]
    refine wpAnyH_all (rs := [1]) (by kernel_rfl) (by simp) ?_
    intro i hi; obtain rfl : i = 1 := by simpa using hi
    refine wpOp_run rfl (by rfl) ?_
    go_simp
    refine Calls.mono (treePath _ p HK.out.1) ?_
    rintro e u1 ⟨rfl, y1⟩
    have hHeld := hHeld.trans y1
    first | refine ⟨fun _ => hHeld, ?_⟩ | refine ⟨hHeld, ?_⟩
    try simp only [Act.put, List.setIfInBounds_toArray, List.set_cons_zero, List.set_cons_succ, List.getElem_toArray, List.getElem_cons_zero, List.getElem_cons_succ]
    refine wpAnyH_all (rs := [3]) (by kernel_rfl) (by simp) ?_
    intro i hi; obtain rfl : i = 3 := by simpa using hi
    refine wpOp_run rfl (by rfl) ?_
    go_simp
    refine Calls.mono (refPath _ p HK.out.1) ?_
    rintro e u2 ⟨rfl, y2⟩
    have hbb : (pathB p != pathB p) = false := by simp
    have hHeld := hHeld.trans y2
    first | refine ⟨fun _ => hHeld, ?_⟩ | refine ⟨hHeld, ?_⟩
    try simp only [Act.put, List.setIfInBounds_toArray, List.set_cons_zero, List.set_cons_succ, List.getElem_toArray, List.getElem_cons_zero, List.getElem_cons_succ]
    refine wpAnyH_take (i := 4) (v := ?vpa4) rfl (by kernel_rfl) (by kernel_rfl) (by kernel_rfl) (fun _ _ _ h => h) (Or.inl ⟨by rfl, ?hypa4⟩) hHeld ?_
    case hypa4 => (intro w hSw; go_simp; try with_reducible rfl)
    simp only [Act.put, List.setIfInBounds_toArray, List.set_cons_zero, List.set_cons_succ, List.getElem_toArray, List.getElem_cons_zero, List.getElem_cons_succ]
    refine wpAnyH_take (i := 5) (v := ?vpa5) rfl (by kernel_rfl) (by kernel_rfl) (by kernel_rfl) (fun _ _ _ h => h) (Or.inl ⟨by rfl, ?hypa5⟩) hHeld ?_
    case hypa5 => (intro w hSw; go_simp; try with_reducible rfl)
    simp only [Act.put, List.setIfInBounds_toArray, List.set_cons_zero, List.set_cons_succ, List.getElem_toArray, List.getElem_cons_zero, List.getElem_cons_succ]
    refine wpAnyH_take (i := 6) (v := ?vpa6) rfl (by kernel_rfl) (by kernel_rfl) (by kernel_rfl) (fun _ _ _ h => h) (Or.inl ⟨by rfl, ?hypa6⟩) hHeld ?_
    case hypa6 => (intro w hSw; have kk := KG _ hSw; go_simp; try with_reducible rfl)
    simp only [Act.put, List.setIfInBounds_toArray, List.set_cons_zero, List.set_cons_succ, List.getElem_toArray, List.getElem_cons_zero, List.getElem_cons_succ]
    refine wpAnyH_take (i := 7) (v := ?vpa7) rfl (by kernel_rfl) (by kernel_rfl) (by kernel_rfl) (fun _ _ _ h => h) (Or.inl ⟨by rfl, ?hypa7⟩) hHeld ?_
    case hypa7 => (intro w hSw; have kk := KG _ hSw; go_simp; try with_reducible rfl)
    simp only [Act.put, List.setIfInBounds_toArray, List.set_cons_zero, List.set_cons_succ, List.getElem_toArray, List.getElem_cons_zero, List.getElem_cons_succ]
    refine wpAnyH_all (rs := [8]) (by kernel_rfl) (by simp) ?_
    intro i hi; obtain rfl : i = 8 := by simpa using hi
    refine wpOp_run rfl (by rfl) ?_
    go_simp
    refine Calls.mono (copiedC _ _ l (HF.out.ext (X11.out.trans hHeld)) (by omega)) ?_
    rintro e u3 ⟨v3, rfl, h3, y3⟩
    obtain ⟨a3, c3, e3⟩ := sl_len h3.sl
    subst e3
    have hHeld := hHeld.trans y3
    first | refine ⟨fun _ => hHeld, ?_⟩ | refine ⟨hHeld, ?_⟩
    try simp only [Act.put, List.setIfInBounds_toArray, List.set_cons_zero, List.set_cons_succ, List.getElem_toArray, List.getElem_cons_zero, List.getElem_cons_succ]
    refine wpAnyH_all (rs := [9]) (by kernel_rfl) (by simp) ?_
    intro i hi; obtain rfl : i = 9 := by simpa using hi
    refine wpOp_run rfl (by rfl) ?_
    go_simp
    refine Calls.mono (treeSame _ _ _ l l (HF.out.ext (X11.out.trans hHeld)) h3) ?_
    rintro e u4 ⟨rfl, y4⟩
    rw [decide_eq_true (rfl : l = l)]
    have hHeld := hHeld.trans y4
    first | refine ⟨fun _ => hHeld, ?_⟩ | refine ⟨hHeld, ?_⟩
    try simp only [Act.put, List.setIfInBounds_toArray, List.set_cons_zero, List.set_cons_succ, List.getElem_toArray, List.getElem_cons_zero, List.getElem_cons_succ]
    refine wpAnyH_take (i := 10) (v := ?vpa10) rfl (by kernel_rfl) (by kernel_rfl) (by kernel_rfl) (fun _ _ _ h => h) (Or.inl ⟨by rfl, ?hypa10⟩) hHeld ?_
    case hypa10 => (intro w hSw; go_simp; try with_reducible rfl)
    simp only [Act.put, List.setIfInBounds_toArray, List.set_cons_zero, List.set_cons_succ, List.getElem_toArray, List.getElem_cons_zero, List.getElem_cons_succ]
    refine wpAnyH_take (i := 11) (v := ?vpa11) rfl (by kernel_rfl) (by kernel_rfl) (by kernel_rfl) (fun _ _ _ h => h) (Or.inl ⟨by rfl, ?hypa11⟩) hHeld ?_
    case hypa11 => (intro w hSw; go_simp; try with_reducible rfl)
    simp only [Act.put, List.setIfInBounds_toArray, List.set_cons_zero, List.set_cons_succ, List.getElem_toArray, List.getElem_cons_zero, List.getElem_cons_succ]
    refine wpAnyH_done (by kernel_rfl) ?_ _
    refine NoPanic.normal ?_
    have X12 := Lib.hid (X11.out.trans hHeld)
    have HH4 := Lib.hid hHeld
    have b12 := hHeld.keeps HB.out
    clear KG h3
    obtain ⟨w12, rfl⟩ : ∃ x, x = u4 := ⟨_, rfl⟩
    go_wp2_with ((with_reducible refine at_load 24 (.tmp 3) ?_); refine wpl_load (by rfl) 24 (.tmp 3) rfl G (by rfl) 24 #[.slice a0 l.length c0] (0, 0) _ b12 Tryz.underlying24 rfl (infoRp _) ?_)
    refine Calls.mono (refRight07 w12 _ l (HF.out.ext X12.out)) ?_
    rintro e w13 ⟨rfl, x13⟩
    have X13 := Lib.hid (X12.out.trans x13)
    have bP13 := x13.keeps (HH4.out.keeps HBP.out)
    have bQ13 := x13.keeps (HH4.out.keeps HBQ.out)
    have b13 := x13.keeps b12
    clear b12
    cases hrb : repoB l with
    | false =>
      have e1 : (s, ge) = (⟨#[]⟩, 170) := by rw [← HGE.out]; unfold getE; rw [if_pos hrb]
      have e2 : (pl, pe) = ([], 170) := by rw [← HPV.out]; unfold putV; rw [if_pos hrb]
      have e3 : (ql, qe) = ([], 170) := by rw [← HQV.out]; unfold remV; rw [if_pos hrb]
      simp only [Prod.mk.injEq] at e1 e2 e3
      obtain ⟨rfl, rfl⟩ := e1
      obtain ⟨rfl, rfl⟩ := e2
      obtain ⟨rfl, rfl⟩ := e3
      have k1 := block_allH bP13
      have k2 := block_allH bQ13
      go_wp2_with fail
      exact bodyPost_ret (results_t rfl _ _) rfl ⟨rfl, X13.out⟩
    | true =>
      have HRB := Lib.hid hrb
      have HS := Lib.hid (repo_sorted hrb)
      have hl16 := repo_len hrb
      clear hrb
      go_wp2_with ((with_reducible refine at_load 24 (.tmp 3) ?_); refine wpl_load (by rfl) 24 (.tmp 3) rfl G (by rfl) 24 #[.slice a0 l.length c0] (0, 0) _ b13 Tryz.underlying24 rfl (infoRp _) ?_)
      refine Calls.mono (refGet w13 _ l p (HF.out.ext X13.out)) ?_
      rintro e w14 ⟨rfl, x14⟩
      have X14 := Lib.hid (X13.out.trans x14)
      have HB14 := Lib.hid (x14.keeps b13)
      have HBP14 := Lib.hid (x14.keeps bP13)
      have HBQ14 := Lib.hid (x14.keeps bQ13)
      clear b13 bP13 bQ13
      obtain ⟨w15, rfl⟩ : ∃ x, x = w14 := ⟨_, rfl⟩
      cases hgl : getL l p with
      | none =>
        have e1 : (s, ge) = (⟨#[]⟩, 4) := by rw [← HGE.out]; unfold getE; rw [if_neg (by rw [HRB.out]; decide), atM_no hgl]; rfl
        have e3 : (ql, qe) = ([], 4) := by rw [← HQV.out]; unfold remV; rw [if_neg (by rw [HRB.out]; decide), hgl]
        simp only [Prod.mk.injEq] at e1 e3
        obtain ⟨rfl, rfl⟩ := e1
        obtain ⟨rfl, rfl⟩ := e3
        have hgv : getV (none : Option Fl) = .tuple #[.string ⟨#[]⟩, .bool false] := rfl
        rw [hgv]
        have k1 := block_allH HBQ14.out
        clear hgv
        go_upto_region 15 with fail
        clear k1
        refine wp_region_S (fun v => Ext w15 v) (by kernel_rfl) (fun w' h => h) fun wd hqd xd hHeld => ?_
        refine wpAnyH_take (i := 0) (v := ?vpn0) rfl (by kernel_rfl) (by kernel_rfl) (by kernel_rfl) (fun _ _ _ h => h) (Or.inl ⟨by rfl, ?hypn0⟩) hHeld ?_
        case hypn0 => (intro w hSw; go_simp; try with_reducible rfl)
        simp only [Act.put, List.setIfInBounds_toArray, List.set_cons_zero, List.set_cons_succ, List.getElem_toArray, List.getElem_cons_zero, List.getElem_cons_succ]
        refine wpAnyH_take (i := 1) (v := ?vpn1) rfl (by kernel_rfl) (by kernel_rfl) (by kernel_rfl) (fun _ _ _ h => h) (Or.inl ⟨by rfl, ?hypn1⟩) hHeld ?_
        case hypn1 => (intro w hSw; go_simp; try with_reducible rfl)
        simp only [Act.put, List.setIfInBounds_toArray, List.set_cons_zero, List.set_cons_succ, List.getElem_toArray, List.getElem_cons_zero, List.getElem_cons_succ]
        refine wpAnyH_take (i := 2) (v := undef) rfl (by kernel_rfl) (by kernel_rfl) (by kernel_rfl) (fun _ _ _ h => h) (Or.inr ⟨by rfl, rfl⟩) hHeld ?_
        simp only [Act.put, List.setIfInBounds_toArray, List.set_cons_zero, List.set_cons_succ, List.getElem_toArray, List.getElem_cons_zero, List.getElem_cons_succ]
        refine wpAnyH_take (i := 3) (v := undef) rfl (by kernel_rfl) (by kernel_rfl) (by kernel_rfl) (fun _ _ _ h => h) (Or.inr ⟨by rfl, rfl⟩) hHeld ?_
        simp only [Act.put, List.setIfInBounds_toArray, List.set_cons_zero, List.set_cons_succ, List.getElem_toArray, List.getElem_cons_zero, List.getElem_cons_succ]
        refine wpAnyH_take (i := 4) (v := undef) rfl (by kernel_rfl) (by kernel_rfl) (by kernel_rfl) (fun _ _ _ h => h) (Or.inr ⟨by rfl, rfl⟩) hHeld ?_
        simp only [Act.put, List.setIfInBounds_toArray, List.set_cons_zero, List.set_cons_succ, List.getElem_toArray, List.getElem_cons_zero, List.getElem_cons_succ]
        refine wpAnyH_take (i := 5) (v := undef) rfl (by kernel_rfl) (by kernel_rfl) (by kernel_rfl) (fun _ _ _ h => h) (Or.inr ⟨by rfl, rfl⟩) hHeld ?_
        simp only [Act.put, List.setIfInBounds_toArray, List.set_cons_zero, List.set_cons_succ, List.getElem_toArray, List.getElem_cons_zero, List.getElem_cons_succ]
        refine wpAnyH_take (i := 6) (v := undef) rfl (by kernel_rfl) (by kernel_rfl) (by kernel_rfl) (fun _ _ _ h => h) (Or.inr ⟨by rfl, rfl⟩) hHeld ?_
        simp only [Act.put, List.setIfInBounds_toArray, List.set_cons_zero, List.set_cons_succ, List.getElem_toArray, List.getElem_cons_zero, List.getElem_cons_succ]
        refine wpAnyH_take (i := 7) (v := undef) rfl (by kernel_rfl) (by kernel_rfl) (by kernel_rfl) (fun _ _ _ h => h) (Or.inr ⟨by rfl, rfl⟩) hHeld ?_
        simp only [Act.put, List.setIfInBounds_toArray, List.set_cons_zero, List.set_cons_succ, List.getElem_toArray, List.getElem_cons_zero, List.getElem_cons_succ]
        refine wpAnyH_take (i := 8) (v := undef) rfl (by kernel_rfl) (by kernel_rfl) (by kernel_rfl) (fun _ _ _ h => h) (Or.inr ⟨by rfl, rfl⟩) hHeld ?_
        simp only [Act.put, List.setIfInBounds_toArray, List.set_cons_zero, List.set_cons_succ, List.getElem_toArray, List.getElem_cons_zero, List.getElem_cons_succ]
        refine wpAnyH_take (i := 9) (v := undef) rfl (by kernel_rfl) (by kernel_rfl) (by kernel_rfl) (fun _ _ _ h => h) (Or.inr ⟨by rfl, rfl⟩) hHeld ?_
        simp only [Act.put, List.setIfInBounds_toArray, List.set_cons_zero, List.set_cons_succ, List.getElem_toArray, List.getElem_cons_zero, List.getElem_cons_succ]
        refine wpAnyH_take (i := 10) (v := undef) rfl (by kernel_rfl) (by kernel_rfl) (by kernel_rfl) (fun _ _ _ h => h) (Or.inr ⟨by rfl, rfl⟩) hHeld ?_
        simp only [Act.put, List.setIfInBounds_toArray, List.set_cons_zero, List.set_cons_succ, List.getElem_toArray, List.getElem_cons_zero, List.getElem_cons_succ]
        refine wpAnyH_take (i := 11) (v := undef) rfl (by kernel_rfl) (by kernel_rfl) (by kernel_rfl) (fun _ _ _ h => h) (Or.inr ⟨by rfl, rfl⟩) hHeld ?_
        simp only [Act.put, List.setIfInBounds_toArray, List.set_cons_zero, List.set_cons_succ, List.getElem_toArray, List.getElem_cons_zero, List.getElem_cons_succ]
        refine wpAnyH_take (i := 12) (v := ?vpn12) rfl (by kernel_rfl) (by kernel_rfl) (by kernel_rfl) (fun _ _ _ h => h) (Or.inl ⟨by rfl, ?hypn12⟩) hHeld ?_
        case hypn12 => (intro w hSw; go_simp; try with_reducible rfl)
        simp only [Act.put, List.setIfInBounds_toArray, List.set_cons_zero, List.set_cons_succ, List.getElem_toArray, List.getElem_cons_zero, List.getElem_cons_succ]
        refine wpAnyH_done (by kernel_rfl) ?_ _
        refine NoPanic.normal ?_
        have x15 := xd
        have HX15 := Lib.hid (X14.out.trans x15)
        have hsz15 := x15.size
        obtain ⟨w16, rfl⟩ : ∃ x, x = wd := ⟨_, rfl⟩
        have HBG := Lib.hid (x15.keeps HB14.out)
        have HBPx := Lib.hid (x15.keeps HBP14.out)
        have HE16 := Lib.hid (((HH4.out.trans x13).trans x14).trans x15)
        have kG := block_allH HBG.out
        go_wp2_with fail
        refine Calls.mono (refWith w16 _ l (HF.out.ext HX15.out) (by omega) ⟨p, t⟩ HK.out) ?_
        rintro e w17 ⟨vw, rfl, hw17, x17⟩
        rw [withL_ins _ HS.out] at hw17
        obtain ⟨aw, cw, ew⟩ := sl_len hw17.sl
        subst ew
        clear kG
        go_upto_region 18 with ((with_reducible refine at_store 24 (.tmp 15) (.tmp 164) ?_); refine wpl_store (by rfl) 24 (.tmp 15) (.tmp 164) rfl _ #[.slice aw (insF l ⟨p, t⟩).length cw] (by rfl) (by rfl) 24 _ (heap_alloc_new _ _) (infoRp _) rfl (by kernel_rfl) ?_; rw [World.setRow_alloc_new])
        obtain ⟨M, hM⟩ : ∃ M, w17.heap.size = M := ⟨_, rfl⟩
        rw [hM]
        refine wp_forgetH (fun W => Ext w17 W ∧ W.heap[M]? = some (.cells #[.slice aw (insF l ⟨p, t⟩).length cw] 24 (0, 0))) ⟨(Ext.refl w17).alloc _, blk_new hM⟩ ?_
        rintro w18 ⟨x18, bM⟩
        have hw18 := Lib.hid (hw17.ext x18)
        have X18 := Lib.hid (HX15.out.trans (x17.trans x18))
        have E18 := Lib.hid (HE16.out.trans (x17.trans x18))
        have bP18 := (x17.trans x18).keeps HBPx.out
        clear hw17 x17 x18
        go_wp2_with ((with_reducible refine at_load 24 (.tmp 15) ?_); refine wpl_load (by rfl) 24 (.tmp 15) rfl M (by rfl) 24 #[.slice aw (insF l ⟨p, t⟩).length cw] (0, 0) _ bM Tryz.underlying24 rfl (infoRp _) ?_)
        refine Calls.mono (refRight07 w18 _ _ hw18.out) ?_
        rintro e w19 ⟨rfl, x19⟩
        have bM19 := x19.keeps bM
        have bP19 := x19.keeps bP18
        have X19 := Lib.hid (X18.out.trans x19)
        have HI19 := Lib.hid (hw18.out.ext x19)
        have HP19 := Lib.hid (HPP.out.ext (E18.out.trans x19))
        clear bM bP18 x19
        cases hri : repoB (insF l ⟨p, t⟩) with
        | false =>
          have e2 : (pl, pe) = ([], 170) := by rw [← HPV.out]; unfold putV; rw [if_neg (by rw [HRB.out]; decide), if_pos hri]
          simp only [Prod.mk.injEq] at e2
          obtain ⟨rfl, rfl⟩ := e2
          have k1 := block_allH bP19
          go_wp2_with fail
          exact bodyPost_ret (results_t rfl _ _) rfl ⟨rfl, X19.out⟩
        | true =>
          have e2 : (pl, pe) = (insF l ⟨p, t⟩, 0) := by rw [← HPV.out]; unfold putV; rw [if_neg (by rw [HRB.out]; decide), if_neg (by rw [hri]; decide)]
          simp only [Prod.mk.injEq] at e2
          obtain ⟨rfl, rfl⟩ := e2
          go_wp2_with (first
            | ((with_reducible refine at_load 24 (.tmp 9) ?_); refine wpl_load (by rfl) 24 (.tmp 9) rfl P (by rfl) 24 #[.slice ap (insF l ⟨p, t⟩).length cp] (0, 0) _ bP19 Tryz.underlying24 rfl (infoRp _) ?_)
            | ((with_reducible refine at_load 24 (.tmp 15) ?_); refine wpl_load (by rfl) 24 (.tmp 15) rfl M (by rfl) 24 #[.slice aw (insF l ⟨p, t⟩).length cw] (0, 0) _ bM19 Tryz.underlying24 rfl (infoRp _) ?_))
          refine Calls.mono (refSame07 w19 _ _ _ _ HP19.out HI19.out) ?_
          rintro e w20 ⟨rfl, x20⟩
          rw [decide_eq_true (rfl : insF l ⟨p, t⟩ = insF l ⟨p, t⟩)]
          go_wp2_with fail
          exact bodyPost_ret (results_t rfl _ _) rfl ⟨rfl, X19.out.trans x20⟩
      | some f =>
        obtain ⟨hb1, hb2, hb3⟩ := put_back HS.out hgl
        have e1 : (s, ge) = (f.text, 0) := by rw [← HGE.out]; unfold getE; rw [if_neg (by rw [HRB.out]; decide), atM_of hgl]; rfl
        have e3 : (ql, qe) = (outF l p, 0) := by rw [← HQV.out]; unfold remV; rw [if_neg (by rw [HRB.out]; decide), hgl]
        simp only [Prod.mk.injEq] at e1 e3
        obtain ⟨rfl, rfl⟩ := e1
        obtain ⟨rfl, rfl⟩ := e3
        have hgv : getV (some f) = .tuple #[.string f.text, .bool true] := rfl
        rw [hgv]
        have k1 := block_allH HBQ14.out
        have k2 := block_allH HB14.out
        have hfm := (get_path hgl).2
        have hfok : flOk ⟨p, f.text⟩ := ⟨HK.out.1, (HF.out.ok f hfm).2⟩
        have hq1 : ((outF l p).length : Int) = (l.length : Int) - 1 := by omega
        have HB1 := Lib.hid hb1
        have HFOK := Lib.hid hfok
        have hol : (outF l p).length ≤ 10000 := by omega
        have HOL := Lib.hid hol
        clear hgv hb1 hgl hfm hfok hb2 hb3 hol
        have HL16 := Lib.hid hl16
        clear hl16
        go_upto_region 15 with fail
        clear k1 k2
        have KQ := fun v (h : Ext w15 v) => block_allH (h.keeps HBQ14.out)
        have KG := fun v (h : Ext w15 v) => block_allH (h.keeps HB14.out)
        have HQ15 := Lib.hid (HQQ.out.ext (HH4.out.trans (x13.trans x14)))
        refine wp_region_S (fun v => Ext w15 v) (by kernel_rfl) (fun w' h => h) fun wd hqd xd hHeld => ?_
        refine wpAnyH_take (i := 0) (v := ?vpq0) rfl (by kernel_rfl) (by kernel_rfl) (by kernel_rfl) (fun _ _ _ h => h) (Or.inl ⟨by rfl, ?hypq0⟩) hHeld ?_
        case hypq0 => (intro w hSw; go_simp; try with_reducible rfl)
        simp only [Act.put, List.setIfInBounds_toArray, List.set_cons_zero, List.set_cons_succ, List.getElem_toArray, List.getElem_cons_zero, List.getElem_cons_succ]
        refine wpAnyH_take (i := 1) (v := ?vpq1) rfl (by kernel_rfl) (by kernel_rfl) (by kernel_rfl) (fun _ _ _ h => h) (Or.inl ⟨by rfl, ?hypq1⟩) hHeld ?_
        case hypq1 => (intro w hSw; go_simp; try with_reducible rfl)
        simp only [Act.put, List.setIfInBounds_toArray, List.set_cons_zero, List.set_cons_succ, List.getElem_toArray, List.getElem_cons_zero, List.getElem_cons_succ]
        refine wpAnyH_take (i := 2) (v := ?vpq2) rfl (by kernel_rfl) (by kernel_rfl) (by kernel_rfl) (fun _ _ _ h => h) (Or.inl ⟨by rfl, ?hypq2⟩) hHeld ?_
        case hypq2 => (intro w hSw; go_simp; try with_reducible rfl)
        simp only [Act.put, List.setIfInBounds_toArray, List.set_cons_zero, List.set_cons_succ, List.getElem_toArray, List.getElem_cons_zero, List.getElem_cons_succ]
        refine wpAnyH_take (i := 3) (v := ?vpq3) rfl (by kernel_rfl) (by kernel_rfl) (by kernel_rfl) (fun _ _ _ h => h) (Or.inl ⟨by rfl, ?hypq3⟩) hHeld ?_
        case hypq3 => (intro w hSw; have kk := KQ _ hSw; go_simp; try with_reducible rfl)
        simp only [Act.put, List.setIfInBounds_toArray, List.set_cons_zero, List.set_cons_succ, List.getElem_toArray, List.getElem_cons_zero, List.getElem_cons_succ]
        refine wpAnyH_take (i := 4) (v := ?vpq4) rfl (by kernel_rfl) (by kernel_rfl) (by kernel_rfl) (fun _ _ _ h => h) (Or.inl ⟨by rfl, ?hypq4⟩) hHeld ?_
        case hypq4 => (intro w hSw; go_simp; try with_reducible rfl)
        simp only [Act.put, List.setIfInBounds_toArray, List.set_cons_zero, List.set_cons_succ, List.getElem_toArray, List.getElem_cons_zero, List.getElem_cons_succ]
        refine wpAnyH_take (i := 5) (v := ?vpq5) rfl (by kernel_rfl) (by kernel_rfl) (by kernel_rfl) (fun _ _ _ h => h) (Or.inl ⟨by rfl, ?hypq5⟩) hHeld ?_
        case hypq5 => (intro w hSw; go_simp; try with_reducible rfl)
        simp only [Act.put, List.setIfInBounds_toArray, List.set_cons_zero, List.set_cons_succ, List.getElem_toArray, List.getElem_cons_zero, List.getElem_cons_succ]
        refine wpAnyH_take (i := 6) (v := ?vpq6) rfl (by kernel_rfl) (by kernel_rfl) (by kernel_rfl) (fun _ _ _ h => h) (Or.inl ⟨by rfl, ?hypq6⟩) hHeld ?_
        case hypq6 => (intro w hSw; go_simp; try with_reducible rfl)
        simp only [Act.put, List.setIfInBounds_toArray, List.set_cons_zero, List.set_cons_succ, List.getElem_toArray, List.getElem_cons_zero, List.getElem_cons_succ]
        refine wpAnyH_take (i := 9) (v := ?vpq9) rfl (by kernel_rfl) (by kernel_rfl) (by kernel_rfl) (fun _ _ _ h => h) (Or.inl ⟨by rfl, ?hypq9⟩) hHeld ?_
        case hypq9 => (intro w hSw; have kk := KG _ hSw; go_simp; try with_reducible rfl)
        simp only [Act.put, List.setIfInBounds_toArray, List.set_cons_zero, List.set_cons_succ, List.getElem_toArray, List.getElem_cons_zero, List.getElem_cons_succ]
        refine wpAnyH_all (rs := [7]) (by kernel_rfl) (by simp) ?_
        intro i hi; obtain rfl : i = 7 := by simpa using hi
        refine wpOp_run rfl (by rfl) ?_
        go_simp
        refine Calls.mono (refWith _ _ (outF l p) (HQ15.out.ext hHeld) HOL.out ⟨p, f.text⟩ HFOK.out) ?_
        rintro e u5 ⟨v5, rfl, h5, y5⟩
        rw [HB1.out] at h5
        obtain ⟨a5, c5, e5⟩ := sl_len h5.sl
        subst e5
        have hHeld := hHeld.trans y5
        first | refine ⟨fun _ => hHeld, ?_⟩ | refine ⟨hHeld, ?_⟩
        try simp only [Act.put, List.setIfInBounds_toArray, List.set_cons_zero, List.set_cons_succ, List.getElem_toArray, List.getElem_cons_zero, List.getElem_cons_succ]
        refine wpAnyH_take (i := 8) (v := ?vpq8) rfl (by kernel_rfl) (by kernel_rfl) (by kernel_rfl) (fun _ _ _ h => h) (Or.inl ⟨by rfl, ?hypq8⟩) hHeld ?_
        case hypq8 => (intro w hSw; go_simp; try with_reducible rfl)
        simp only [Act.put, List.setIfInBounds_toArray, List.set_cons_zero, List.set_cons_succ, List.getElem_toArray, List.getElem_cons_zero, List.getElem_cons_succ]
        refine wpAnyH_all (rs := [10]) (by kernel_rfl) (by simp) ?_
        intro i hi; obtain rfl : i = 10 := by simpa using hi
        refine wpOp_run rfl (by rfl) ?_
        go_simp
        refine Calls.mono (refSame07 _ _ _ l l h5 (HF.out.ext (X14.out.trans hHeld))) ?_
        rintro e u6 ⟨rfl, y6⟩
        rw [decide_eq_true (rfl : l = l)]
        have hHeld := hHeld.trans y6
        first | refine ⟨fun _ => hHeld, ?_⟩ | refine ⟨hHeld, ?_⟩
        try simp only [Act.put, List.setIfInBounds_toArray, List.set_cons_zero, List.set_cons_succ, List.getElem_toArray, List.getElem_cons_zero, List.getElem_cons_succ]
        refine wpAnyH_take (i := 11) (v := ?vpq11) rfl (by kernel_rfl) (by kernel_rfl) (by kernel_rfl) (fun _ _ _ h => h) (Or.inl ⟨by rfl, ?hypq11⟩) hHeld ?_
        case hypq11 => (intro w hSw; go_simp; try with_reducible rfl)
        simp only [Act.put, List.setIfInBounds_toArray, List.set_cons_zero, List.set_cons_succ, List.getElem_toArray, List.getElem_cons_zero, List.getElem_cons_succ]
        refine wpAnyH_take (i := 12) (v := ?vpq12) rfl (by kernel_rfl) (by kernel_rfl) (by kernel_rfl) (fun _ _ _ h => h) (Or.inl ⟨by rfl, ?hypq12⟩) hHeld ?_
        case hypq12 => (intro w hSw; go_simp; try with_reducible rfl)
        simp only [Act.put, List.setIfInBounds_toArray, List.set_cons_zero, List.set_cons_succ, List.getElem_toArray, List.getElem_cons_zero, List.getElem_cons_succ]
        refine wpAnyH_done (by kernel_rfl) ?_ _
        refine NoPanic.normal ?_
        have x15 := hHeld
        have HX15 := Lib.hid (X14.out.trans x15)
        obtain ⟨w16, rfl⟩ : ∃ x, x = u6 := ⟨_, rfl⟩
        have HBG := Lib.hid (x15.keeps HB14.out)
        have HBPx := Lib.hid (x15.keeps HBP14.out)
        have HE16 := Lib.hid (((HH4.out.trans x13).trans x14).trans x15)
        have kG := block_allH HBG.out
        go_wp2_with fail
        refine Calls.mono (refWith w16 _ l (HF.out.ext HX15.out) (by omega) ⟨p, t⟩ HK.out) ?_
        rintro e w17 ⟨vw, rfl, hw17, x17⟩
        rw [withL_ins _ HS.out] at hw17
        obtain ⟨aw, cw, ew⟩ := sl_len hw17.sl
        subst ew
        clear kG
        go_upto_region 18 with ((with_reducible refine at_store 24 (.tmp 15) (.tmp 164) ?_); refine wpl_store (by rfl) 24 (.tmp 15) (.tmp 164) rfl _ #[.slice aw (insF l ⟨p, t⟩).length cw] (by rfl) (by rfl) 24 _ (heap_alloc_new _ _) (infoRp _) rfl (by kernel_rfl) ?_; rw [World.setRow_alloc_new])
        obtain ⟨M, hM⟩ : ∃ M, w17.heap.size = M := ⟨_, rfl⟩
        rw [hM]
        refine wp_forgetH (fun W => Ext w17 W ∧ W.heap[M]? = some (.cells #[.slice aw (insF l ⟨p, t⟩).length cw] 24 (0, 0))) ⟨(Ext.refl w17).alloc _, blk_new hM⟩ ?_
        rintro w18 ⟨x18, bM⟩
        have hw18 := Lib.hid (hw17.ext x18)
        have X18 := Lib.hid (HX15.out.trans (x17.trans x18))
        have E18 := Lib.hid (HE16.out.trans (x17.trans x18))
        have bP18 := (x17.trans x18).keeps HBPx.out
        clear hw17 x17 x18
        go_wp2_with ((with_reducible refine at_load 24 (.tmp 15) ?_); refine wpl_load (by rfl) 24 (.tmp 15) rfl M (by rfl) 24 #[.slice aw (insF l ⟨p, t⟩).length cw] (0, 0) _ bM Tryz.underlying24 rfl (infoRp _) ?_)
        refine Calls.mono (refRight07 w18 _ _ hw18.out) ?_
        rintro e w19 ⟨rfl, x19⟩
        have bM19 := x19.keeps bM
        have bP19 := x19.keeps bP18
        have X19 := Lib.hid (X18.out.trans x19)
        have HI19 := Lib.hid (hw18.out.ext x19)
        have HP19 := Lib.hid (HPP.out.ext (E18.out.trans x19))
        clear bM bP18 x19
        cases hri : repoB (insF l ⟨p, t⟩) with
        | false =>
          have e2 : (pl, pe) = ([], 170) := by rw [← HPV.out]; unfold putV; rw [if_neg (by rw [HRB.out]; decide), if_pos hri]
          simp only [Prod.mk.injEq] at e2
          obtain ⟨rfl, rfl⟩ := e2
          have k1 := block_allH bP19
          go_wp2_with fail
          exact bodyPost_ret (results_t rfl _ _) rfl ⟨rfl, X19.out⟩
        | true =>
          have e2 : (pl, pe) = (insF l ⟨p, t⟩, 0) := by rw [← HPV.out]; unfold putV; rw [if_neg (by rw [HRB.out]; decide), if_neg (by rw [hri]; decide)]
          simp only [Prod.mk.injEq] at e2
          obtain ⟨rfl, rfl⟩ := e2
          go_wp2_with (first
            | ((with_reducible refine at_load 24 (.tmp 9) ?_); refine wpl_load (by rfl) 24 (.tmp 9) rfl P (by rfl) 24 #[.slice ap (insF l ⟨p, t⟩).length cp] (0, 0) _ bP19 Tryz.underlying24 rfl (infoRp _) ?_)
            | ((with_reducible refine at_load 24 (.tmp 15) ?_); refine wpl_load (by rfl) 24 (.tmp 15) rfl M (by rfl) 24 #[.slice aw (insF l ⟨p, t⟩).length cw] (0, 0) _ bM19 Tryz.underlying24 rfl (infoRp _) ?_))
          refine Calls.mono (refSame07 w19 _ _ _ _ HP19.out HI19.out) ?_
          rintro e w20 ⟨rfl, x20⟩
          rw [decide_eq_true (rfl : insF l ⟨p, t⟩ = insF l ⟨p, t⟩)]
          go_wp2_with fail
          exact bodyPost_ret (results_t rfl _ _) rfl ⟨rfl, X19.out.trans x20⟩
theorem walkTreeFiles (w : World) (v : Value) (l : List Fl) (h : ArgRepo w v l) (p : ByteArray) (hp : p.size ≤ 9223372036854775807) (t : ByteArray) (ht : t.size ≤ 9223372036854775807) (hT : Tabs w) :
    Calls Tryz.prog 5 #[v, .string p, .string t] w fun e w' => e = .returned (.bool true) ∧ Below w.heap.size w w' := by
  obtain ⟨u, rfl, k⟩ := h
  exact (walkTreeFilesI w hT u l k p t hp ht).mono fun e w' ⟨he, x⟩ => ⟨he, x⟩
end Go.Proofs.YtpadfabjihaapaaGreatDoor
