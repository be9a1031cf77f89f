/- Backup: the document's server, RightView, Right. -/
import Derived.Test.YtkcddcomjbihgaaDoorBkS
namespace Go.Proofs.YtkcddcomjbihgaaDoor
open Go.RowKit
set_option linter.unusedVariables false
set_option linter.unusedSimpArgs false

set_option maxHeartbeats 400000 in
theorem rbServer (w : World) (n : Int) :
    Calls Tryd.prog 63 #[.int .i64 n] w fun e w' => e = .returned (.bool (serverB n)) ∧ w = w' := by
  generalize hR : serverB n = R
  have HR := Lib.hid hR
  clear hR
  go_enter Tryd.func63, Tryd.ntmps63
  go_wp2
  all_goals
    go_ret
    exact ⟨ret_bool (by rw [← HR.out]; simp [serverB, *]; try omega), rfl⟩
theorem viewed_alt (v : Vw) : viewedB v = (decide (1 ≤ v.n) && (serverB v.p && ((v.b == 0 || serverB v.b) && v.b != v.p))) := by
  unfold viewedB serverB
  rw [Bool.eq_iff_iff]
  simp
  omega
set_option maxHeartbeats 1000000 in
theorem rbRightView (w : World) (v : Vw) :
    Calls Tryd.prog 64 #[.agg #[.int .u32 (v.n : Int), .int .i64 v.p, .int .i64 v.b]] w fun e w' => e = .returned (.bool (viewedB v)) ∧ Ext w w' := by
  generalize hR : viewedB v = R
  rw [viewed_alt] at hR
  have HR := Lib.hid hR
  clear hR
  go_enter Tryd.func64, Tryd.ntmps64
  go_wp2_with (first | (go_at_call 63; refine (rbServer _ _).mono ?_; rintro e w1 ⟨rfl, rfl⟩))
  all_goals
    go_ret
    exact ⟨ret_bool (by rw [← HR.out]; simp [*]; try omega), (Ext.refl w).alloc _⟩
theorem right_split (p : Pr) : rightB p = ((serverB p.me && (viewedB p.v || veq p.v v0)) && (!((!meq p.base m0 && (decide (p.base.1 < 1) || decide (p.v.n < p.base.1))) || (meq p.base m0 && decide (0 < p.log.length)) || decide (16 < p.log.length)) && (enB p.v.n p.base p.log
    && (!((!(p.me == p.v.p && p.v.b != 0) && p.known) || (!p.known && !decide (p.acked = 0)) || (p.joined && !(p.me == p.v.b)) || (p.instep && !p.joined)) && decide (p.acked ≤ (lastM p).2))))) := by
  unfold rightB
  have hb : ((meq p.base m0 && decide (p.log.length = 0) || decide (0 < p.base.1) && decide (p.base.1 ≤ p.v.n)) && decide (p.log.length ≤ 16)) = (!((!meq p.base m0 && (decide (p.base.1 < 1) || decide (p.v.n < p.base.1))) || (meq p.base m0 && decide (0 < p.log.length)) || decide (16 < p.log.length))) := by
    cases hm : meq p.base m0 with
    | true =>
      have h0 : p.base.1 = 0 := by rw [meq_iff.1 hm]; rfl
      rw [Bool.eq_iff_iff]
      simp [h0]
    | false =>
      rw [Bool.eq_iff_iff]
      simp
      omega
  rw [← hb]
  generalize (meq p.base m0 && decide (p.log.length = 0) || decide (0 < p.base.1) && decide (p.base.1 ≤ p.v.n)) = k
  generalize decide (p.log.length ≤ 16) = g
  generalize (serverB p.me) = a
  generalize (viewedB p.v || veq p.v v0) = b
  generalize enB p.v.n p.base p.log = e
  generalize decide (p.acked ≤ (lastM p).2) = f
  have hn : (p.v.b != 0) = !(p.v.b == 0) := rfl
  rw [hn]
  generalize (p.me == p.v.p) = x
  generalize (p.v.b == 0) = y
  generalize (p.me == p.v.b) = z
  generalize decide (p.acked = 0) = d
  generalize p.known = l
  generalize p.joined = m
  generalize p.instep = n
  clear hb hn
  revert a b e f g k x y z d l m n
  decide
def okE (vn : Nat) (m : Mk) (e : LgE) : Bool := decide (e.m.2 = m.2 + 1) && (decide (m.1 ≤ e.m.1) && (decide (e.m.1 ≤ vn) && decide (e.b.length ≤ 40000)))
theorem prevM_last (p : Pr) : prevM p.base p.log p.log.length = lastM p := by
  by_cases h : p.log.length = 0
  · rw [last_nil h, h]
    rfl
  · have hp : 0 < p.log.length := by omega
    rw [last_at hp]
    unfold prevM
    rw [if_neg h, List.getElem?_eq_getElem (by omega)]
    rfl
theorem enB_drop (vn : Nat) (b : Mk) (l : List LgE) (k : Nat) (h : k < l.length) : enB vn (prevM b l k) (l.drop k) = (okE vn (prevM b l k) l[k] && enB vn l[k].m (l.drop (k + 1))) := by
  rw [List.drop_eq_getElem_cons h, enB]
  rfl
set_option maxHeartbeats 4000000 in
set_option maxRecDepth 100000 in
theorem rbRight (w : World) (vl : Value) (p : Pr) (h : IsLg w vl p.log) (hp : PrOk p) :
    Calls Tryd.prog 21 #[.agg #[.int .i64 p.me, .int .u32 (p.v.n : Int), .int .i64 p.v.p, .int .i64 p.v.b, .int .u32 (p.base.1 : Int), .int .u32 (p.base.2 : Int), vl, .bool p.known, .bool p.joined, .bool p.instep, .int .u32 (p.acked : Int)]] w fun e w' => e = .returned (.bool (rightB p)) ∧ Ext w w' := by
  obtain ⟨R, hR⟩ : ∃ R, rightB p = R := ⟨_, rfl⟩
  rw [hR]
  rw [right_split] at hR
  have HR := Lib.hid hR
  have H := Lib.hid h
  clear hR
  obtain ⟨ao, cap, rfl, b1, m1, z1, g1⟩ := h.opened
  have G1 := Lib.hid g1
  have HOK := Lib.hid h.ok
  clear g1 z1 h
  go_enter Tryd.func21, Tryd.ntmps21
  go_upto_region 1 with fail
  refine wp_forget (fun W => Ext w W ∧ W.heap[w.heap.size]? = some (.cells #[.int .i64 p.me, .int .u32 (p.v.n : Int), .int .i64 p.v.p, .int .i64 p.v.b, .int .u32 (p.base.1 : Int), .int .u32 (p.base.2 : Int), (.slice ao p.log.length cap), .bool p.known, .bool p.joined, .bool p.instep, .int .u32 (p.acked : Int)] 47 (0, 0))) ⟨(Ext.refl w).alloc _, heap_alloc_new w _⟩ ?_
  rintro W ⟨X, bP⟩
  have HX := Lib.hid X
  have hc := block_all bP
  clear X
  obtain ⟨A, hA⟩ : ∃ A, (serverB p.me && (viewedB p.v || veq p.v v0)) = A := ⟨_, rfl⟩
  obtain ⟨NB, hNB⟩ : ∃ NB, ((!meq p.base m0 && (decide (p.base.1 < 1) || decide (p.v.n < p.base.1))) || (meq p.base m0 && decide (0 < p.log.length)) || decide (16 < p.log.length)) = NB := ⟨_, rfl⟩
  have hr := HR.out
  rw [hA, hNB] at hr
  have HA := Lib.hid hA
  have HNB := Lib.hid hNB
  have HR := Lib.hid hr
  clear hr hA hNB
  go_upto_region 1 with fail
  go_cut [22] from 7 to 22 (fun t22 wx => t22 = .bool (!A) ∧ Ext W wx)
  case first =>
    have hvn := vwNeq0
    cases hs : serverB p.me with
    | false =>
      have HS := Lib.hid hs
      have hAf : A = false := by rw [← HA.out, hs]; rfl
      clear hs
      go_wp2_with fail
      refine (rbServer _ p.me).mono ?_
      rintro e w1 ⟨rfl, rfl⟩
      rw [HS.out]
      go_wp2_with fail
      go_meet
      exact ⟨by rw [hAf]; rfl, Ext.refl _⟩
    | true =>
      have HS := Lib.hid hs
      clear hs
      go_wp2_with fail
      refine (rbServer _ p.me).mono ?_
      rintro e w1 ⟨rfl, rfl⟩
      rw [HS.out]
      go_wp2_with fail
      refine (rbRightView _ p.v).mono ?_
      rintro e w1 ⟨rfl, y⟩
      have bP := y.keeps bP
      clear hc
      have hc := block_all bP
      cases hv1 : viewedB p.v with
      | true =>
        have hAf : A = true := by rw [← HA.out, hv1, HS.out]; rfl
        clear hv1
        go_wp2_with fail
        go_meet
        exact ⟨by rw [hAf]; rfl, y⟩
      | false =>
        cases hv2 : veq p.v v0 with
        | false =>
          have hAf : A = false := by rw [← HA.out, hv1, hv2, HS.out]; rfl
          clear hv1
          go_wp2_with fail
          go_meet
          exact ⟨by rw [hAf]; rfl, y⟩
        | true =>
          have hAf : A = true := by rw [← HA.out, hv1, hv2, HS.out]; rfl
          clear hv1
          go_wp2_with fail
          go_meet
          exact ⟨by rw [hAf]; rfl, y⟩
  case rest =>
    obtain ⟨rfl, y⟩ := hcut
    obtain ⟨W2, rfl⟩ : ∃ x, x = wc := ⟨_, rfl⟩
    have bP := y.keeps bP
    have HX := Lib.hid (HX.out.trans y)
    clear y hc
    have hc := block_all bP
    cases hA : A with
    | false =>
      subst hA
      go_wp2_with fail
      go_ret
      exact ⟨ret_bool (by rw [← HR.out]; rfl), HX.out⟩
    | true =>
      subst hA
      have hr := HR.out
      rw [Bool.true_and] at hr
      have HR := Lib.hid hr
      have hmn := mkNeq0
      have hme := mkEql0
      clear hr
      go_upto_region 3 with fail
      go_cut [59] from 23 to 59 (fun t59 wx => t59 = .bool NB ∧ Ext W2 wx)
      case first =>
        go_wp2_with fail
        all_goals clear hmn hme
        all_goals
          go_meet
          refine ⟨congrArg Value.bool ?_, Ext.refl _⟩
          rw [← HNB.out, Bool.eq_iff_iff]
          simp [*]
          try omega
      case rest =>
        obtain ⟨rfl, y⟩ := hcut
        obtain ⟨W3, rfl⟩ : ∃ x, x = wc := ⟨_, rfl⟩
        have bP := y.keeps bP
        have HX := Lib.hid (HX.out.trans y)
        clear y hc hmn hme
        have hc := block_all bP
        cases hB : NB with
        | true =>
          subst hB
          go_wp2_with fail
          go_ret
          exact ⟨ret_bool (by rw [← HR.out]; rfl), HX.out⟩
        | false =>
          subst hB
          have hr := HR.out
          rw [Bool.not_false, Bool.true_and] at hr
          have HR := Lib.hid hr
          have hl16 : p.log.length ≤ 16 := by
            have := HNB.out
            simp only [Bool.or_eq_false_iff, decide_eq_false_iff_not] at this
            omega
          clear hr
          go_upto_region 6 with (((with_reducible refine at_store 27 (.tmp 3) (.tmp 61) ?_); go_must (refine wpl_store rfl 27 (.tmp 3) (.tmp 61) rfl W3.heap.size #[.int .u32 (p.base.1 : Int), .int .u32 (p.base.2 : Int)] (by rfl) (by rfl) 27 _ (heap_alloc_new W3 _) (by kernel_rfl) rfl (by kernel_rfl) ?_)))
          have hz3 := block_lt bP
          have hX3 := HX.out.size
          refine wp_forget (fun W => Ext W3 W ∧ W.heap[W3.heap.size]? = some (.cells #[.int .u32 (p.base.1 : Int), .int .u32 (p.base.2 : Int)] 27 (0, 0))) ⟨((Ext.refl W3).alloc _).grown grown_setRow (fun k hk => by cases hk; exact Nat.le_refl _), setRow_heap _ _ _ _ _ _ (heap_alloc_new W3 _)⟩ ?_
          rintro W4 ⟨y, bM⟩
          obtain ⟨BM, hBM⟩ : ∃ x, x = W3.heap.size := ⟨_, rfl⟩
          rw [← hBM] at bM hz3 hX3
          rw [← hBM]
          have bP := y.keeps bP
          have HX := Lib.hid (HX.out.trans y)
          clear y hc hBM
          have hc := block_all bP
          go_wp2_with fail
          go_loopg [5, 65] p.log.length (fun g s5 s65 wr => ∃ k : Nat, k ≤ p.log.length ∧ p.log.length - k ≤ g ∧ s65 = .int .i64 (k : Int) ∧ Ext w wr ∧ wr.heap[w.heap.size]? = some (.cells #[.int .i64 p.me, .int .u32 (p.v.n : Int), .int .i64 p.v.p, .int .i64 p.v.b, .int .u32 (p.base.1 : Int), .int .u32 (p.base.2 : Int), (.slice ao p.log.length cap), .bool p.known, .bool p.joined, .bool p.instep, .int .u32 (p.acked : Int)] 47 (0, 0)) ∧ wr.heap[BM]? = some (.cells #[.int .u32 ((prevM p.base p.log k).1 : Int), .int .u32 ((prevM p.base p.log k).2 : Int)] 27 (0, 0)) ∧ enB p.v.n p.base p.log = enB p.v.n (prevM p.base p.log k) (p.log.drop k))
          case atStart => exact ⟨0, by omega, by omega, rfl, HX.out, bP, bM, rfl⟩
          case round =>
            clear bP bM hc HX
            obtain ⟨k, hk, hg, rfl, xr, bP, bM, hen⟩ := hrel
            have HX := Lib.hid xr
            by_cases hlt : k < p.log.length
            · obtain ⟨pb, o, u, rfl, e0, e1, e2, e3⟩ := G1.out k hlt
              have e0 := xr.cell e0
              have e1 := xr.cell e1
              have e2 := xr.cell e2
              have hEN := hen.trans (enB_drop p.v.n p.base p.log k hlt)
              have hsu := prevM_succ p.base p.log k hlt
              have hmk := prevM_ok (b := p.base) (l := p.log) (k := k) hp.base HOK.out
              have hxk := HOK.out _ (List.getElem_mem hlt)
              generalize p.log[k] = x at *
              generalize prevM p.base p.log k = m at *
              obtain ⟨xa, xc, rfl, -⟩ := e3.opened
              have HEN := Lib.hid hEN
              have HSU := Lib.hid hsu
              have hlp : pb < wr.heap.size := World.block_lt_of_cell? _ _ e0
              have hmb := hmk.2
              have hxb := hxk.1.2
              have hmb1 := hmk.1
              have hxb1 := hxk.1.1
              clear xr hen hEN hsu e3 hmk hxk
              go_upto_region 9 with (((with_reducible refine at_store 108 (.tmp 5) (.tmp 68) ?_); go_must (refine wpl_store rfl 108 (.tmp 5) (.tmp 68) rfl wr.heap.size #[.int .u32 (x.m.1 : Int), .int .u32 (x.m.2 : Int), (.slice xa x.b.length xc)] (by rfl) (by rfl) 108 _ (heap_alloc_new wr _) (by kernel_rfl) rfl (by simp [Value.oneCell']) ?_)))
              have hzP := block_lt bP
              have hzM := block_lt bM
              refine wp_forget (fun W => Ext wr W ∧ W.heap[wr.heap.size]? = some (.cells #[.int .u32 (x.m.1 : Int), .int .u32 (x.m.2 : Int), (.slice xa x.b.length xc)] 108 (0, 0))) ⟨((Ext.refl wr).alloc _).grown grown_setRow (fun k hk => by cases hk; exact Nat.le_refl _), setRow_heap _ _ _ _ _ _ (heap_alloc_new wr _)⟩ ?_
              rintro W5 ⟨y, bE⟩
              have bP := y.keeps bP
              have bM := y.keeps bM
              have HX := Lib.hid (HX.out.trans y)
              obtain ⟨BE, hBE⟩ : ∃ x, x = wr.heap.size := ⟨_, rfl⟩
              rw [← hBE] at bE hzP hzM
              rw [← hBE]
              clear y e0 e1 e2 hlp hBE
              have cP := block_all bP
              have cM := block_all bM
              have cE := block_all bE
              have fM := fun i => block_free bM i
              cases hok : okE p.v.n m x with
              | false =>
                have hRf : R = false := by rw [← HR.out, HEN.out, hok]; rfl
                have HOKE := Lib.hid hok
                clear hok
                go_wp2_with fail
                all_goals
                  first
                    | (go_ret; exact ⟨ret_bool hRf.symm, HX.out⟩)
                    | (exfalso; have hh := HOKE.out; unfold okE at hh; simp only [Bool.and_eq_false_iff, decide_eq_false_iff_not] at hh; omega)
              | true =>
                have hh := hok
                unfold okE at hh
                simp only [Bool.and_eq_true, decide_eq_true_eq] at hh
                obtain ⟨q1, q2, q3, q4⟩ := hh
                have HQ := Lib.hid (And.intro q1 (And.intro q2 (And.intro q3 q4)))
                have HOKE := Lib.hid hok
                have d1 : ((x.m.2 : Int) != (m.2 : Int) + 1) = false := by simp; omega
                have d2 : ¬ (x.m.1 : Int) < (m.1 : Int) := by omega
                have d3 : ¬ (p.v.n : Int) < (x.m.1 : Int) := by omega
                have d4 : ¬ (40000 : Int) < (x.b.length : Int) := by omega
                clear q1 q2 q3 q4 hok
                have gr := grown_trans (grown_setCell W5 BM 0 (.int .u32 (x.m.1 : Int))) (grown_setCell _ BM 1 (.int .u32 (x.m.2 : Int)))
                have bM2 : ((W5.setCell ⟨BM, 0, none⟩ (.int .u32 (x.m.1 : Int))).setCell ⟨BM, 1, none⟩ (.int .u32 (x.m.2 : Int))).heap[BM]? = some (.cells #[.int .u32 ((x.m).1 : Int), .int .u32 ((x.m).2 : Int)] 27 (0, 0)) := by
                  have := block_setCell (block_setCell bM (i := 0) (.int .u32 (x.m.1 : Int))) (i := 1) (.int .u32 (x.m.2 : Int))
                  simpa using this
                go_wp2_with fail
                go_roundg (p.log.length - (k + 1))
                case measure => omega
                case rel =>
                  refine ⟨k + 1, by omega, by omega, by go_num, HX.out.grown gr (fun q hq => by cases hq; omega), grown_other gr bP (by omega), by rw [HSU.out]; exact bM2, ?_⟩
                  rw [HEN.out, HOKE.out, Bool.true_and, HSU.out]
            · obtain rfl : k = p.log.length := by omega
              rw [List.drop_length, enB] at hen
              rw [prevM_last] at bM
              obtain ⟨M, hM⟩ : ∃ M, lastM p = M := ⟨_, rfl⟩
              have hr := HR.out
              rw [hen, hM, Bool.true_and] at hr
              rw [hM] at bM
              have HR := Lib.hid hr
              clear hen hr hM
              have cP := block_all bP
              have cM := block_all bM
              go_wp2_with fail
              all_goals
                go_ret
                refine ⟨ret_bool ?_, HX.out⟩
                rw [← HR.out]
                simp [*]
                try omega
end Go.Proofs.YtkcddcomjbihgaaDoor
