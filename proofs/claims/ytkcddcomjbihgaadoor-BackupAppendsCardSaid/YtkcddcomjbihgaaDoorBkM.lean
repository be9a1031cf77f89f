/- Backup: Enter. -/
import Derived.Test.YtkcddcomjbihgaaDoorBkK
namespace Go.Proofs.YtkcddcomjbihgaaDoor
open Go.RowKit
set_option linter.unusedVariables false
set_option linter.unusedSimpArgs false

/-- The peer that enters a view, ahead of its base. -/
def entQ (p : Pr) (v : Vw) : Pr := { p with v := v, known := false, joined := false, instep := false, acked := 0 }
def enterP (p : Pr) (v : Vw) : Pr := if (primB (entQ p v) && meq p.base m0) = true then { entQ p v with base := (v.n, p.base.2) } else entQ p v
def entErr (p : Pr) (v : Vw) : Int := if rightB p = false then 360 else if (!viewedB v || decide (v.n ≤ p.v.n)) = true then 361 else 0
/-- What Enter gives. -/
def EntPost (w : World) (p : Pr) (v : Vw) (e : Ending) (w' : World) : Prop :=
  Ext w w' ∧ ((entErr p v ≠ 0 ∧ e = .returned (.tuple #[.agg #[.int .i64 (newP 0).me, .int .u32 ((newP 0).v.n : Int), .int .i64 (newP 0).v.p, .int .i64 (newP 0).v.b, .int .u32 ((newP 0).base.1 : Int), .int .u32 ((newP 0).base.2 : Int), (.slice none 0 0), .bool (newP 0).known, .bool (newP 0).joined, .bool (newP 0).instep, .int .u32 ((newP 0).acked : Int)], .int .i64 (entErr p v)]))
    ∨ (entErr p v = 0 ∧ ∃ vl ul, e = .returned (.tuple #[.agg #[.int .i64 (enterP p v).me, .int .u32 ((enterP p v).v.n : Int), .int .i64 (enterP p v).v.p, .int .i64 (enterP p v).v.b, .int .u32 ((enterP p v).base.1 : Int), .int .u32 ((enterP p v).base.2 : Int), vl, .bool (enterP p v).known, .bool (enterP p v).joined, .bool (enterP p v).instep, .int .u32 ((enterP p v).acked : Int)], .int .i64 0]) ∧ LgFr w' w.heap.size vl p.log ul))
theorem ent_err {w : World} {p : Pr} {v : Vw} {z : Int} (h : entErr p v = z) (hz : z ≠ 0) {w' : World} (x : Ext w w') : EntPost w p v (.returned (.tuple #[.agg #[.int .i64 (newP 0).me, .int .u32 ((newP 0).v.n : Int), .int .i64 (newP 0).v.p, .int .i64 (newP 0).v.b, .int .u32 ((newP 0).base.1 : Int), .int .u32 ((newP 0).base.2 : Int), (.slice none 0 0), .bool (newP 0).known, .bool (newP 0).joined, .bool (newP 0).instep, .int .u32 ((newP 0).acked : Int)], .int .i64 z])) w' :=
  ⟨x, .inl ⟨by rw [h]; exact hz, by rw [h]⟩⟩
set_option maxHeartbeats 4000000 in
set_option maxRecDepth 100000 in
theorem bkEnter (w : World) (vl : Value) (p : Pr) (us : List Hd) (v : Vw) (hok : ∀ e ∈ p.log, lgOk e) (hus : IsLgU w vl p.log us) (hp : PrOk p) (hv : v.n < 4294967296) :
    Calls Tryd.prog 19 #[.agg #[.int .i64 p.me, .int .u32 (p.v.n : Int), .int .i64 p.v.p, .int .i64 p.v.b, .int .u32 (p.base.1 : Int), .int .u32 (p.base.2 : Int), vl, .bool p.known, .bool p.joined, .bool p.instep, .int .u32 (p.acked : Int)], .agg #[.int .u32 (v.n : Int), .int .i64 v.p, .int .i64 v.b]] w (EntPost w p v) := by
  obtain ⟨ao, cap, rfl, -⟩ := hus.opened
  go_enter Tryd.func19, Tryd.ntmps19
  go_upto_region 1 with fail
  refine wp_forget (fun W => IsLgU W (.slice ao p.log.length cap) p.log us ∧ Ext w W ∧ W.heap[w.heap.size]? = some (.cells #[.int .i64 p.me, .int .u32 (p.v.n : Int), .int .i64 p.v.p, .int .i64 p.v.b, .int .u32 (p.base.1 : Int), .int .u32 (p.base.2 : Int), (.slice ao p.log.length cap), .bool p.known, .bool p.joined, .bool p.instep, .int .u32 (p.acked : Int)] 47 (0, 0)) ∧ W.heap[w.heap.size + 1]? = some (.cells #[.int .u32 (v.n : Int), .int .i64 v.p, .int .i64 v.b] 44 (0, 0)) ∧ W.heap[w.heap.size + 2]? = some (.cells #[.int .i64 (newP 0).me, .int .u32 ((newP 0).v.n : Int), .int .i64 (newP 0).v.p, .int .i64 (newP 0).v.b, .int .u32 ((newP 0).base.1 : Int), .int .u32 ((newP 0).base.2 : Int), (.slice none 0 0), .bool (newP 0).known, .bool (newP 0).joined, .bool (newP 0).instep, .int .u32 ((newP 0).acked : Int)] 47 (0, 0))) ⟨hus.ext ((((Ext.refl w).alloc _).alloc _).alloc _), (((Ext.refl w).alloc _).alloc _).alloc _, blk_old (blk_old (heap_alloc_new w _)), blk_old (blk_new (by simp)), blk_new (by simp)⟩ ?_
  rintro W ⟨hus, X, bP, bV, bZ⟩
  have hl : IsLg W (.slice ao p.log.length cap) p.log := ⟨hok, us, hus⟩
  have HX := Lib.hid X
  have HL := Lib.hid hl
  have HU := Lib.hid hus
  have hc := block_all bP
  clear X hl hus
  cases hr : rightB p with
  | false =>
    have HR := Lib.hid hr
    have HE := Lib.hid (show entErr p v = 360 by unfold entErr; rw [if_pos hr])
    clear hr
    go_wp2_with fail
    refine (bkCheckF _ _ p HL.out hp HR.out).mono ?_
    rintro e w1 ⟨rfl, y⟩
    have bZ := y.keeps bZ
    have HX := Lib.hid (HX.out.trans y)
    go_wp2_with (((with_reducible refine at_store 47 (.tmp 4) (.tmp 11) ?_); go_must (refine wpl_store rfl 47 (.tmp 4) (.tmp 11) rfl (w.heap.size + 2) #[.int .i64 (newP 0).me, .int .u32 ((newP 0).v.n : Int), .int .i64 (newP 0).v.p, .int .i64 (newP 0).v.b, .int .u32 ((newP 0).base.1 : Int), .int .u32 ((newP 0).base.2 : Int), (.slice none 0 0), .bool (newP 0).known, .bool (newP 0).joined, .bool (newP 0).instep, .int .u32 ((newP 0).acked : Int)] (by rfl) (by rfl) 47 _ bZ (by kernel_rfl) rfl (pr_one _ _ _ _) ?_); rw [setRow_self _ (w.heap.size + 2) _ _ _ bZ]))
    exact bodyPost_ret (results_cell_tmp (p := 4) (q := 5) rfl _ _ (w.heap.size + 2) _ _ _ _ (by rfl) bZ Tryd.underlying47 rfl (by kernel_rfl)) rfl (ent_err HE.out (by omega) HX.out)
  | true =>
    have HR := Lib.hid hr
    have r1 := Lib.hid (show ¬ rightB p = false by rw [hr]; decide)
    clear hr
    go_wp2_with fail
    refine (bkCheckT _ _ p HL.out hp HR.out).mono ?_
    rintro e w1 ⟨rfl, y⟩
    have bP := y.keeps bP
    have bV := y.keeps bV
    have bZ := y.keeps bZ
    have HX := Lib.hid (HX.out.trans y)
    have HU := Lib.hid (HU.out.ext y)
    have hc := block_all bP
    have hd := block_all bV
    clear HL y
    cases hv1 : viewedB v with
    | false =>
      have HV := Lib.hid hv1
      have HE := Lib.hid (show entErr p v = 361 by unfold entErr; rw [if_neg r1.out, hv1]; rfl)
      clear hv1
      go_wp2_with fail
      refine (bkViewed _ _).mono ?_
      rintro e w2 ⟨rfl, y⟩
      rw [HV.out]
      have bZ := y.keeps bZ
      have HX := Lib.hid (HX.out.trans y)
      go_wp2_with (((with_reducible refine at_store 47 (.tmp 4) (.tmp 24) ?_); go_must (refine wpl_store rfl 47 (.tmp 4) (.tmp 24) rfl (w.heap.size + 2) #[.int .i64 (newP 0).me, .int .u32 ((newP 0).v.n : Int), .int .i64 (newP 0).v.p, .int .i64 (newP 0).v.b, .int .u32 ((newP 0).base.1 : Int), .int .u32 ((newP 0).base.2 : Int), (.slice none 0 0), .bool (newP 0).known, .bool (newP 0).joined, .bool (newP 0).instep, .int .u32 ((newP 0).acked : Int)] (by rfl) (by rfl) 47 _ bZ (by kernel_rfl) rfl (pr_one _ _ _ _) ?_); rw [setRow_self _ (w.heap.size + 2) _ _ _ bZ]))
      exact bodyPost_ret (results_cell_tmp (p := 4) (q := 5) rfl _ _ (w.heap.size + 2) _ _ _ _ (by rfl) bZ Tryd.underlying47 rfl (by kernel_rfl)) rfl (ent_err HE.out (by omega) HX.out)
    | true =>
      have HV := Lib.hid hv1
      clear hv1
      go_wp2_with fail
      refine (bkViewed _ _).mono ?_
      rintro e w2 ⟨rfl, y⟩
      rw [HV.out]
      have bP := y.keeps bP
      have bV := y.keeps bV
      have bZ := y.keeps bZ
      have HX := Lib.hid (HX.out.trans y)
      have HU := Lib.hid (HU.out.ext y)
      have hc := block_all bP
      have hd := block_all bV
      clear y
      by_cases hn : v.n ≤ p.v.n
      · have HE := Lib.hid (show entErr p v = 361 by unfold entErr; rw [if_neg r1.out, if_pos (by simp [hn])])
        have hn' : (v.n : Int) ≤ (p.v.n : Int) := by omega
        have HN := Lib.hid hn
        clear hn
        go_wp2_with (((with_reducible refine at_store 47 (.tmp 4) (.tmp 24) ?_); go_must (refine wpl_store rfl 47 (.tmp 4) (.tmp 24) rfl (w.heap.size + 2) #[.int .i64 (newP 0).me, .int .u32 ((newP 0).v.n : Int), .int .i64 (newP 0).v.p, .int .i64 (newP 0).v.b, .int .u32 ((newP 0).base.1 : Int), .int .u32 ((newP 0).base.2 : Int), (.slice none 0 0), .bool (newP 0).known, .bool (newP 0).joined, .bool (newP 0).instep, .int .u32 ((newP 0).acked : Int)] (by rfl) (by rfl) 47 _ bZ (by kernel_rfl) rfl (pr_one _ _ _ _) ?_); rw [setRow_self _ (w.heap.size + 2) _ _ _ bZ]))
        exact bodyPost_ret (results_cell_tmp (p := 4) (q := 5) rfl _ _ (w.heap.size + 2) _ _ _ _ (by rfl) bZ Tryd.underlying47 rfl (by kernel_rfl)) rfl (ent_err HE.out (by omega) HX.out)
      · have HE := Lib.hid (show entErr p v = 0 by unfold entErr; rw [if_neg r1.out, HV.out, if_neg (by simp; omega)])
        have hn' : ¬ (v.n : Int) ≤ (p.v.n : Int) := by omega
        have HN := Lib.hid hn
        clear hn
        go_upto_region 5 with fail
        go_wp2_with fail
        have hll : p.log.length ≤ 16 := by
          have := HR.out
          unfold rightB at this
          simp only [Bool.and_eq_true, decide_eq_true_eq] at this
          omega
        refine (bkCloned _ _ p us HU.out hok (by omega)).mono ?_
        rintro e w3 ⟨v3, u3, rfl, il, y⟩
        obtain ⟨a3, k3, rfl⟩ := own_shape il.own
        have il := il.fr
        have bP := y.keeps bP
        have bV := y.keeps bV
        have bZ := y.keeps bZ
        have hz2 := block_lt bZ
        have HXz := HX.out.size
        have il := il.base HXz
        have HX := Lib.hid (HX.out.trans y)
        have hd := block_all bV
        clear hc y
        go_upto_region 6 with (((with_reducible refine at_store 47 (.tmp 6) (.tmp 26) ?_); go_must (refine wpl_store rfl 47 (.tmp 6) (.tmp 26) rfl w3.heap.size #[.int .i64 p.me, .int .u32 (p.v.n : Int), .int .i64 p.v.p, .int .i64 p.v.b, .int .u32 (p.base.1 : Int), .int .u32 (p.base.2 : Int), (.slice a3 p.log.length k3), .bool p.known, .bool p.joined, .bool p.instep, .int .u32 (p.acked : Int)] (by rfl) (by rfl) 47 _ (heap_alloc_new w3 _) (by kernel_rfl) rfl (pr_one _ _ _ _) ?_)))
        refine wp_forget (fun W2 => W2.heap[w3.heap.size]? = some (.cells #[.int .i64 p.me, .int .u32 (p.v.n : Int), .int .i64 p.v.p, .int .i64 p.v.b, .int .u32 (p.base.1 : Int), .int .u32 (p.base.2 : Int), (.slice a3 p.log.length k3), .bool p.known, .bool p.joined, .bool p.instep, .int .u32 (p.acked : Int)] 47 (0, 0)) ∧ LgFr W2 w.heap.size (.slice a3 p.log.length k3) p.log u3 ∧ Ext w3 W2) ⟨?_, ?_, ?_⟩ ?_
        · exact setRow_heap _ _ _ _ _ _ (heap_alloc_new w3 _)
        · exact (il.ext ((Ext.refl w3).alloc _)).grown grown_setRow (heap_alloc_new w3 _) (by decide) (by decide)
        · exact ((Ext.refl w3).alloc _).grown grown_setRow (fun k hk => by cases hk; exact Nat.le_refl _)
        rintro W2 ⟨b6, il, y⟩
        have bZ := y.keeps bZ
        have bV := y.keeps bV
        have hd := block_all bV
        have h6 := block_all b6
        have ff := fun i => block_free b6 i
        go_upto_region 7 with fail
        have b7 : (((((((W2.setCell ⟨w3.heap.size, 1, none⟩ (.int .u32 (v.n : Int))).setCell ⟨w3.heap.size, 2, none⟩ (.int .i64 v.p)).setCell ⟨w3.heap.size, 3, none⟩ (.int .i64 v.b)).setCell ⟨w3.heap.size, 7, none⟩ (.bool false)).setCell ⟨w3.heap.size, 8, none⟩ (.bool false)).setCell ⟨w3.heap.size, 9, none⟩ (.bool false)).setCell ⟨w3.heap.size, 10, none⟩ (.int .u32 0)).heap[w3.heap.size]? = some (.cells #[.int .i64 (entQ p v).me, .int .u32 ((entQ p v).v.n : Int), .int .i64 (entQ p v).v.p, .int .i64 (entQ p v).v.b, .int .u32 ((entQ p v).base.1 : Int), .int .u32 ((entQ p v).base.2 : Int), (.slice a3 p.log.length k3), .bool (entQ p v).known, .bool (entQ p v).joined, .bool (entQ p v).instep, .int .u32 ((entQ p v).acked : Int)] 47 (0, 0)) := by
          have := block_setCell (block_setCell (block_setCell (block_setCell (block_setCell (block_setCell (block_setCell b6 (i := 1) (.int .u32 (v.n : Int))) (i := 2) (.int .i64 v.p)) (i := 3) (.int .i64 v.b)) (i := 7) (.bool false)) (i := 8) (.bool false)) (i := 9) (.bool false)) (i := 10) (.int .u32 0)
          simpa [entQ] using this
        have gr : W2.grownBy (((((((W2.setCell ⟨w3.heap.size, 1, none⟩ (.int .u32 (v.n : Int))).setCell ⟨w3.heap.size, 2, none⟩ (.int .i64 v.p)).setCell ⟨w3.heap.size, 3, none⟩ (.int .i64 v.b)).setCell ⟨w3.heap.size, 7, none⟩ (.bool false)).setCell ⟨w3.heap.size, 8, none⟩ (.bool false)).setCell ⟨w3.heap.size, 9, none⟩ (.bool false)).setCell ⟨w3.heap.size, 10, none⟩ (.int .u32 0)) (some w3.heap.size) := grown_trans (grown_trans (grown_trans (grown_trans (grown_trans (grown_trans (grown_setCell _ _ _ _) (grown_setCell _ _ _ _)) (grown_setCell _ _ _ _)) (grown_setCell _ _ _ _)) (grown_setCell _ _ _ _)) (grown_setCell _ _ _ _)) (grown_setCell _ _ _ _)
        generalize ((((((W2.setCell ⟨w3.heap.size, 1, none⟩ (.int .u32 (v.n : Int))).setCell ⟨w3.heap.size, 2, none⟩ (.int .i64 v.p)).setCell ⟨w3.heap.size, 3, none⟩ (.int .i64 v.b)).setCell ⟨w3.heap.size, 7, none⟩ (.bool false)).setCell ⟨w3.heap.size, 8, none⟩ (.bool false)).setCell ⟨w3.heap.size, 9, none⟩ (.bool false)).setCell ⟨w3.heap.size, 10, none⟩ (.int .u32 0) = W3 at *
        have il := il.grown gr b6 (by decide) (by decide)
        have y := y.grown gr (fun k hk => by cases hk; exact Nat.le_refl _)
        have bZ := grown_other gr bZ (by omega)
        have bV := grown_other gr bV (by omega)
        clear h6 ff gr b6 hd
        have HX := Lib.hid (HX.out.trans y)
        have hd := block_all bV
        have h7 := block_all b7
        clear y
        have hme := mkEql0
        obtain ⟨Q, hQ⟩ : ∃ Q, entQ p v = Q := ⟨_, rfl⟩
        rw [hQ] at b7 h7
        have HQ := Lib.hid hQ
        clear hQ
        cases hp1 : primB Q with
        | false =>
          have HP := Lib.hid hp1
          clear hp1
          have ENT := Lib.hid (show enterP p v = Q by unfold enterP; rw [HQ.out, HP.out]; rfl)
          go_wp2_with fail
          refine (bkPrimary _ _ Q).mono ?_
          rintro e w4 ⟨rfl, y⟩
          rw [HP.out]
          have bZ := y.keeps bZ
          have b7 := y.keeps b7
          have HX := Lib.hid (HX.out.trans y)
          have il := il.ext y
          have h7 := block_all b7
          clear hd y
          have b9 := setRow_heap _ (w.heap.size + 2) _ #[.int .i64 Q.me, .int .u32 (Q.v.n : Int), .int .i64 Q.v.p, .int .i64 Q.v.b, .int .u32 (Q.base.1 : Int), .int .u32 (Q.base.2 : Int), (.slice a3 p.log.length k3), .bool Q.known, .bool Q.joined, .bool Q.instep, .int .u32 (Q.acked : Int)] _ _ bZ
          have g9 := grown_setRow (w := w4) (g := w.heap.size + 2) (c := #[.int .i64 Q.me, .int .u32 (Q.v.n : Int), .int .i64 Q.v.p, .int .i64 Q.v.b, .int .u32 (Q.base.1 : Int), .int .u32 (Q.base.2 : Int), (.slice a3 p.log.length k3), .bool Q.known, .bool Q.joined, .bool Q.instep, .int .u32 (Q.acked : Int)])
          have il := il.grown g9 bZ (by decide) (by decide)
          have ix := HX.out.grown g9 (fun k hk => by cases hk; omega)
          clear g9
          go_wp2_with (((with_reducible refine at_store 47 (.tmp 4) (.tmp 45) ?_); go_must (refine wpl_store rfl 47 (.tmp 4) (.tmp 45) rfl (w.heap.size + 2) #[.int .i64 Q.me, .int .u32 (Q.v.n : Int), .int .i64 Q.v.p, .int .i64 Q.v.b, .int .u32 (Q.base.1 : Int), .int .u32 (Q.base.2 : Int), (.slice a3 p.log.length k3), .bool Q.known, .bool Q.joined, .bool Q.instep, .int .u32 (Q.acked : Int)] (by rfl) (by rfl) 47 _ bZ (by kernel_rfl) rfl (pr_one _ _ _ _) ?_)))
          exact bodyPost_ret (results_cell_tmp (p := 4) (q := 5) rfl _ _ (w.heap.size + 2) _ _ _ _ (by rfl) b9 Tryd.underlying47 rfl (by kernel_rfl)) rfl ⟨ix, .inr ⟨HE.out, .slice a3 p.log.length k3, u3, by rw [ENT.out]; rfl, il⟩⟩
        | true =>
          have HP := Lib.hid hp1
          clear hp1
          cases hm : meq Q.base m0 with
          | false =>
            have HM := Lib.hid hm
            clear hm
            have ENT := Lib.hid (show enterP p v = Q by unfold enterP; rw [HQ.out, HP.out, show p.base = Q.base by rw [← HQ.out]; rfl, HM.out]; rfl)
            go_wp2_with fail
            refine (bkPrimary _ _ Q).mono ?_
            rintro e w4 ⟨rfl, y⟩
            rw [HP.out]
            have bZ := y.keeps bZ
            have b7 := y.keeps b7
            have HX := Lib.hid (HX.out.trans y)
            have il := il.ext y
            have h7 := block_all b7
            have hm := HM.out
            clear hd y
            have b9 := setRow_heap _ (w.heap.size + 2) _ #[.int .i64 Q.me, .int .u32 (Q.v.n : Int), .int .i64 Q.v.p, .int .i64 Q.v.b, .int .u32 (Q.base.1 : Int), .int .u32 (Q.base.2 : Int), (.slice a3 p.log.length k3), .bool Q.known, .bool Q.joined, .bool Q.instep, .int .u32 (Q.acked : Int)] _ _ bZ
            have g9 := grown_setRow (w := w4) (g := w.heap.size + 2) (c := #[.int .i64 Q.me, .int .u32 (Q.v.n : Int), .int .i64 Q.v.p, .int .i64 Q.v.b, .int .u32 (Q.base.1 : Int), .int .u32 (Q.base.2 : Int), (.slice a3 p.log.length k3), .bool Q.known, .bool Q.joined, .bool Q.instep, .int .u32 (Q.acked : Int)])
            have il := il.grown g9 bZ (by decide) (by decide)
            have ix := HX.out.grown g9 (fun k hk => by cases hk; omega)
            clear g9
            go_wp2_with (((with_reducible refine at_store 47 (.tmp 4) (.tmp 45) ?_); go_must (refine wpl_store rfl 47 (.tmp 4) (.tmp 45) rfl (w.heap.size + 2) #[.int .i64 Q.me, .int .u32 (Q.v.n : Int), .int .i64 Q.v.p, .int .i64 Q.v.b, .int .u32 (Q.base.1 : Int), .int .u32 (Q.base.2 : Int), (.slice a3 p.log.length k3), .bool Q.known, .bool Q.joined, .bool Q.instep, .int .u32 (Q.acked : Int)] (by rfl) (by rfl) 47 _ bZ (by kernel_rfl) rfl (pr_one _ _ _ _) ?_)))
            exact bodyPost_ret (results_cell_tmp (p := 4) (q := 5) rfl _ _ (w.heap.size + 2) _ _ _ _ (by rfl) b9 Tryd.underlying47 rfl (by kernel_rfl)) rfl ⟨ix, .inr ⟨HE.out, .slice a3 p.log.length k3, u3, by rw [ENT.out]; rfl, il⟩⟩
          | true =>
            have HM := Lib.hid hm
            clear hm
            obtain ⟨K, hK⟩ : ∃ K, ({ Q with base := (v.n, Q.base.2) } : Pr) = K := ⟨_, rfl⟩
            have ENT := Lib.hid (show enterP p v = K by unfold enterP; rw [HQ.out, HP.out, show p.base = Q.base by rw [← HQ.out]; rfl, HM.out, ← hK]; rfl)
            have HK := Lib.hid hK
            clear hK
            go_wp2_with fail
            refine (bkPrimary _ _ Q).mono ?_
            rintro e w4 ⟨rfl, y⟩
            rw [HP.out]
            have bZ := y.keeps bZ
            have bV := y.keeps bV
            have b7 := y.keeps b7
            have HX := Lib.hid (HX.out.trans y)
            have il := il.ext y
            have h7 := block_all b7
            have hd := block_all bV
            have ff := fun i => block_free b7 i
            have hm := HM.out
            clear y
            go_upto_region 9 with fail
            have b8 := block_setCell b7 (i := 4) (.int .u32 (v.n : Int))
            have b8 : (w4.setCell ⟨w3.heap.size, 4, none⟩ (.int .u32 (v.n : Int))).heap[w3.heap.size]? = some (.cells #[.int .i64 K.me, .int .u32 (K.v.n : Int), .int .i64 K.v.p, .int .i64 K.v.b, .int .u32 (K.base.1 : Int), .int .u32 (K.base.2 : Int), (.slice a3 p.log.length k3), .bool K.known, .bool K.joined, .bool K.instep, .int .u32 (K.acked : Int)] 47 (0, 0)) := by
              rw [← HK.out]
              simpa using b8
            have gr := grown_setCell w4 w3.heap.size 4 (.int .u32 (v.n : Int))
            have il := il.grown gr b7 (by decide) (by decide)
            have HX := Lib.hid (HX.out.grown gr (fun k hk => by cases hk; omega))
            have bZ := grown_other gr bZ (by omega)
            generalize w4.setCell ⟨w3.heap.size, 4, none⟩ (.int .u32 (v.n : Int)) = W5 at *
            clear hd h7 ff gr b7
            have h7 := block_all b8
            have b9 := setRow_heap _ (w.heap.size + 2) _ #[.int .i64 K.me, .int .u32 (K.v.n : Int), .int .i64 K.v.p, .int .i64 K.v.b, .int .u32 (K.base.1 : Int), .int .u32 (K.base.2 : Int), (.slice a3 p.log.length k3), .bool K.known, .bool K.joined, .bool K.instep, .int .u32 (K.acked : Int)] _ _ bZ
            have g9 := grown_setRow (w := W5) (g := w.heap.size + 2) (c := #[.int .i64 K.me, .int .u32 (K.v.n : Int), .int .i64 K.v.p, .int .i64 K.v.b, .int .u32 (K.base.1 : Int), .int .u32 (K.base.2 : Int), (.slice a3 p.log.length k3), .bool K.known, .bool K.joined, .bool K.instep, .int .u32 (K.acked : Int)])
            have il := il.grown g9 bZ (by decide) (by decide)
            have ix := HX.out.grown g9 (fun k hk => by cases hk; omega)
            clear g9
            go_wp2_with (((with_reducible refine at_store 47 (.tmp 4) (.tmp 45) ?_); go_must (refine wpl_store rfl 47 (.tmp 4) (.tmp 45) rfl (w.heap.size + 2) #[.int .i64 K.me, .int .u32 (K.v.n : Int), .int .i64 K.v.p, .int .i64 K.v.b, .int .u32 (K.base.1 : Int), .int .u32 (K.base.2 : Int), (.slice a3 p.log.length k3), .bool K.known, .bool K.joined, .bool K.instep, .int .u32 (K.acked : Int)] (by rfl) (by rfl) 47 _ bZ (by kernel_rfl) rfl (pr_one _ _ _ _) ?_)))
            exact bodyPost_ret (results_cell_tmp (p := 4) (q := 5) rfl _ _ (w.heap.size + 2) _ _ _ _ (by rfl) b9 Tryd.underlying47 rfl (by kernel_rfl)) rfl ⟨ix, .inr ⟨HE.out, .slice a3 p.log.length k3, u3, by rw [ENT.out]; rfl, il⟩⟩
end Go.Proofs.YtkcddcomjbihgaaDoor
