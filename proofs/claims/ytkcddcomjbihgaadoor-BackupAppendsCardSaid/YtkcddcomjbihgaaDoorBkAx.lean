/- Backup: the walk of BackupAppends. -/
import Derived.Test.YtkcddcomjbihgaaDoorBkAw
import Derived.Test.YtkcddcomjbihgaaDoorBkX
import Derived.Deep.CutBlock
namespace Go.Proofs.YtkcddcomjbihgaaDoor
open Go.RowKit
set_option linter.unusedVariables false
set_option linter.unusedSimpArgs false

theorem new2 (w : World) (z1 z2 c1 c2 : Array Value) (t1 t2 : TypeId) : Ext w ((((w.alloc (.cells z1 t1)).alloc (.cells z2 t2)).setRow w.heap.size c1).setRow (w.heap.size + 1) c2) ∧ ((((w.alloc (.cells z1 t1)).alloc (.cells z2 t2)).setRow w.heap.size c1).setRow (w.heap.size + 1) c2).heap[w.heap.size]? = some (.cells c1 t1 (0, 0)) ∧ ((((w.alloc (.cells z1 t1)).alloc (.cells z2 t2)).setRow w.heap.size c1).setRow (w.heap.size + 1) c2).heap[w.heap.size + 1]? = some (.cells c2 t2 (0, 0)) := by
  have h1 := blk_old (o := .cells z2 t2) (heap_alloc_new w (.cells z1 t1))
  have h2 := blk_new (w := w.alloc (.cells z1 t1)) (b := w.heap.size + 1) (o := .cells z2 t2) (by simp)
  have g1 := grown_setRow (w := (w.alloc (.cells z1 t1)).alloc (.cells z2 t2)) (g := w.heap.size) (c := c1)
  have k1 := setRow_heap _ w.heap.size _ c1 _ _ h1
  have k2 := grown_other g1 h2 (by omega)
  have g2 := grown_setRow (w := ((w.alloc (.cells z1 t1)).alloc (.cells z2 t2)).setRow w.heap.size c1) (g := w.heap.size + 1) (c := c2)
  exact ⟨((((Ext.refl w).alloc _).alloc _).grown g1 (fun k hk => by cases hk; exact Nat.le_refl _)).grown g2 (fun k hk => by cases hk; omega), grown_other g2 k1 (by omega), setRow_heap _ _ _ c2 _ _ k2⟩
theorem lawShortS (w : World) (vl : Value) (S : Pr) (h : IsLg w vl S.log) (hS : shortP S = S) :
    Calls Tryd.prog 17 #[.agg #[.int .i64 S.me, .int .u32 (S.v.n : Int), .int .i64 S.v.p, .int .i64 S.v.b, .int .u32 (S.base.1 : Int), .int .u32 (S.base.2 : Int), vl, .bool S.known, .bool S.joined, .bool S.instep, .int .u32 (S.acked : Int)]] w fun e w' => ∃ v us, e = .returned (.agg #[.int .i64 S.me, .int .u32 (S.v.n : Int), .int .i64 S.v.p, .int .i64 S.v.b, .int .u32 (S.base.1 : Int), .int .u32 (S.base.2 : Int), v, .bool S.known, .bool S.joined, .bool S.instep, .int .u32 (S.acked : Int)]) ∧ LgOwn w' w.heap.size v S.log us ∧ Ext w w' := by
  refine (lawShort w vl S h).mono ?_
  rintro e w' ⟨v, us, e1, l, x⟩
  rw [hS] at e1 l
  exact ⟨v, us, e1, l, x⟩
set_option maxHeartbeats 16000000 in
set_option maxRecDepth 100000 in
theorem walkBackupAppends (w : World) (v0' : Value) (p : Pr) (h0 : ArgPeer w v0' p) (vb : Value) (b : List UInt8) (hb : IsB w vb b) (vv : Value) (v : Vw) (hv : ArgView w vv v) (hK : Tabs w) :
    Calls Tryd.prog 5 #[v0', vb, vv] w fun e w' => e = .returned (.bool true) ∧ Ext w w' := by
  obtain ⟨vq, rfl, hpr⟩ := h0
  obtain ⟨rfl, hvn, hvp, hvb⟩ := hv
  have hl0 := hpr.lg
  obtain ⟨aq, cq, rfl, -⟩ := hl0.opened
  obtain ⟨ab, cb, rfl, hbc, hbm0, -⟩ := hb.opened
  have HL0 := Lib.hid hl0
  have HB := Lib.hid hb
  obtain ⟨S, hS⟩ : ∃ S, shortP p = S := ⟨_, rfl⟩
  have OKS := Lib.hid (show PrOk S by rw [← hS]; exact shortP_ok hpr.1)
  have LGS := Lib.hid (show ∀ e ∈ S.log, lgOk e by rw [← hS]; exact shortP_lg hpr.2.1)
  have BLS := Lib.hid (show ∀ e ∈ S.log, e.b.length ≤ 50000 by rw [← hS]; exact shortP_bl p)
  have hSl : S.log.length ≤ 17 := by rw [← hS]; exact shortP_len p
  have HS := Lib.hid (show shortP S = S by rw [← hS]; exact shortP_idem p)
  clear hl0 hb hpr
  go_enter Tryd.func5, Tryd.ntmps5
  go_upto_region 1 with fail
  refine wp_forget (fun W => Ext w W ∧ W.heap[w.heap.size]? = some (.cells #[.int .i64 p.me, .int .u32 (p.v.n : Int), .int .i64 p.v.p, .int .i64 p.v.b, .int .u32 (p.base.1 : Int), .int .u32 (p.base.2 : Int), (.slice aq p.log.length cq), .bool p.known, .bool p.joined, .bool p.instep, .int .u32 (p.acked : Int)] 47 (0, 0)) ∧ W.heap[w.heap.size + 1]? = some (.cells #[.int .u32 (v.n : Int), .int .i64 v.p, .int .i64 v.b] 44 (0, 0))) ⟨((Ext.refl w).alloc _).alloc _, blk_old (heap_alloc_new w _), blk_new (by simp)⟩ ?_
  rintro W ⟨X, bP, bV⟩
  have HX := Lib.hid X
  clear X
  have hPV : w.heap.size ≠ w.heap.size + 1 := by omega
  obtain ⟨BP, hBP⟩ : ∃ x, x = w.heap.size := ⟨_, rfl⟩
  obtain ⟨BV, hBV⟩ : ∃ x, x = w.heap.size + 1 := ⟨_, rfl⟩
  rw [← hBV] at bV ⊢
  rw [← hBP] at bP ⊢
  have hVP : BV ≠ BP := by omega
  have hwP : w.heap.size ≤ BP := by omega
  clear hPV hBP hBV
  have HK := Lib.hid hK
  clear hK
  have cP := block_all bP
  go_wp2_with fail
  refine (lawWakes _ (HK.out.ext HX.out)).mono ?_
  rintro e w1 ⟨rfl, y⟩
  clear cP
  have bP := y.keeps bP
  have bV := y.keeps bV
  have HX := Lib.hid (HX.out.trans y)
  clear y
  have cP := block_all bP
  go_wp2_with fail
  refine (lawShort _ _ p (HL0.out.ext HX.out)).mono ?_
  rintro e w2 ⟨v2, u2, rfl, i2, y⟩
  obtain ⟨aP, cP', rfl⟩ := own_shape i2.own
  rw [hS] at i2 ⊢
  clear cP
  have bP := y.keeps bP
  have bV := y.keeps bV
  have HX := Lib.hid (HX.out.trans y)
  clear y
  have i2 := i2
  go_upto_region 4 with (((with_reducible refine at_store 47 (.tmp 3) (.tmp 27) ?_); go_must (refine wpl_store rfl 47 (.tmp 3) (.tmp 27) rfl BP #[.int .i64 S.me, .int .u32 (S.v.n : Int), .int .i64 S.v.p, .int .i64 S.v.b, .int .u32 (S.base.1 : Int), .int .u32 (S.base.2 : Int), (.slice aP S.log.length cP'), .bool S.known, .bool S.joined, .bool S.instep, .int .u32 (S.acked : Int)] (by rfl) (by rfl) 47 _ bP (by kernel_rfl) rfl (pr_one _ _ _ _) ?_)))
  have gr := grown_setRow (w := w2) (g := BP) (c := #[.int .i64 S.me, .int .u32 (S.v.n : Int), .int .i64 S.v.p, .int .i64 S.v.b, .int .u32 (S.base.1 : Int), .int .u32 (S.base.2 : Int), (.slice aP S.log.length cP'), .bool S.known, .bool S.joined, .bool S.instep, .int .u32 (S.acked : Int)])
  have bnew := setRow_heap _ BP _ #[.int .i64 S.me, .int .u32 (S.v.n : Int), .int .i64 S.v.p, .int .i64 S.v.b, .int .u32 (S.base.1 : Int), .int .u32 (S.base.2 : Int), (.slice aP S.log.length cP'), .bool S.known, .bool S.joined, .bool S.instep, .int .u32 (S.acked : Int)] _ _ bP
  have bV := grown_other gr bV (by omega)
  have i2 := i2.grown gr bP (by decide) (by decide)
  have HX := Lib.hid (HX.out.grown gr (fun k hk => by cases hk; omega))
  clear gr bP
  generalize w2.setRow BP #[.int .i64 S.me, .int .u32 (S.v.n : Int), .int .i64 S.v.p, .int .i64 S.v.b, .int .u32 (S.base.1 : Int), .int .u32 (S.base.2 : Int), (.slice aP S.log.length cP'), .bool S.known, .bool S.joined, .bool S.instep, .int .u32 (S.acked : Int)] = W11 at *
  have bP := bnew
  clear bnew
  have cP := block_all bP
  go_wp2_with fail
  refine (lawShortS _ _ S (i2.lg LGS.out) HS.out).mono ?_
  rintro e w3 ⟨v3, u3, rfl, i3, y⟩
  obtain ⟨aW, cW, rfl⟩ := own_shape i3.own
  clear cP
  have bP := y.keeps bP
  have bV := y.keeps bV
  have i2 := i2.ext y
  have HX := Lib.hid (HX.out.trans y)
  clear y
  go_upto_region 5 with (((with_reducible refine at_store 47 (.tmp 7) (.tmp 29) ?_); go_must (refine wpl_store rfl 47 (.tmp 7) (.tmp 29) rfl w3.heap.size #[.int .i64 S.me, .int .u32 (S.v.n : Int), .int .i64 S.v.p, .int .i64 S.v.b, .int .u32 (S.base.1 : Int), .int .u32 (S.base.2 : Int), (.slice aW S.log.length cW), .bool S.known, .bool S.joined, .bool S.instep, .int .u32 (S.acked : Int)] (by rfl) (by rfl) 47 _ (heap_alloc_new w3 _) (by kernel_rfl) rfl (pr_one _ _ _ _) ?_)))
  have l_P_W := block_lt bP
  have l_V_W := block_lt bV
  have hsW := HX.out.size
  refine wp_forget (fun W => Ext w3 W ∧ W.heap[w3.heap.size]? = some (.cells #[.int .i64 S.me, .int .u32 (S.v.n : Int), .int .i64 S.v.p, .int .i64 S.v.b, .int .u32 (S.base.1 : Int), .int .u32 (S.base.2 : Int), (.slice aW S.log.length cW), .bool S.known, .bool S.joined, .bool S.instep, .int .u32 (S.acked : Int)] 47 (0, 0))) ⟨ext_new _ _ _, new_row _ _ _ _⟩ ?_
  rintro W12 ⟨y, bW⟩
  obtain ⟨BW, hB⟩ : ∃ x, x = w3.heap.size := ⟨_, rfl⟩
  rw [← hB] at bW hsW l_P_W l_V_W
  rw [← hB]
  clear hB
  have bP := y.keeps bP
  have bV := y.keeps bV
  have i2 := i2.ext y
  have i3 := i3.ext y
  have HX := Lib.hid (HX.out.trans y)
  clear y
  have o0 := World.ownsRow_made (base := W12.heap.size) (e := 5) (size := 1) W12 #[] 0 (Nat.le_refl _) (by decide) rfl
  obtain ⟨M, hM⟩ : ∃ M, min b.length 40001 = M := ⟨_, rfl⟩
  have hMl : M ≤ b.length := by omega
  have hM3 : M ≤ 40001 := by omega
  have hmi : (if (40001 : Int) < (b.length : Int) then (40001 : Int) else (b.length : Int)) = (M : Int) := by split <;> omega
  have hMc : M ≤ cb := by omega
  have hMc' : (M : Int) ≤ (cb : Int) := by omega
  have hM0 : (0 : Int) ≤ (M : Int) := by omega
  have hq := isB_upto (HB.out.ext HX.out) M hMl
  have hql : (b.take M).length = M := by rw [List.length_take]; omega
  have HQ := Lib.hid (show IsSl W12 (.slice ab M cb) 1 M ((b.take M).map bc) by unfold IsB at hq; rw [hql] at hq; exact hq)
  obtain ⟨b1, hb1⟩ : ∃ b1, b.take M = b1 := ⟨_, rfl⟩
  rw [hb1] at hql HQ
  have HQL := Lib.hid hql
  clear hM hq hql hb1
  go_upto_region 6 with (at_builtin; go_must (refine wp_app tyB rfl _ _ rfl W12.heap.size _ 0 [] o0 (by rfl) _ M (b1.map bc) (HQ.out.ext ((Ext.refl _).alloc _)) (by rfl) (bc_one _) (by omega) (by omega) (by simp) ?_); intro v4 w4 own4 gr4; rw [Nat.zero_add, List.nil_append] at own4; obtain ⟨a4, c4, rfl⟩ := own_shape own4; have y := own_base o0 gr4 ((Ext.refl W12).alloc _) (Nat.le_refl _))
  clear gr4 o0 hmi hMc hMc' hM0 HQ
  have bP := y.keeps bP
  have bV := y.keeps bV
  have bW := y.keeps bW
  have i2 := i2.ext y
  have i3 := i3.ext y
  have HX := Lib.hid (HX.out.trans y)
  clear y
  have o0 := World.ownsRow_made (base := w4.heap.size) (e := 5) (size := 1) w4 #[] 0 (Nat.le_refl _) (by decide) rfl
  have HOW := Lib.hid own4
  go_upto_region 7 with (at_builtin; go_must (refine wp_app tyB rfl _ _ rfl w4.heap.size _ 0 [] o0 (by rfl) _ M (b1.map bc) ((IsSl.of_owns HOW.out).ext ((Ext.refl _).alloc _)) (by rfl) (bc_one _) (by omega) (by omega) (by simp) ?_); intro v5 w5 own5 gr5; rw [Nat.zero_add, List.nil_append] at own5; obtain ⟨a5, c5, rfl⟩ := own_shape own5; have y := own_base o0 gr5 ((Ext.refl w4).alloc _) (Nat.le_refl _))
  have own4 := ownsRow_ext own4 y
  clear gr5 o0 HOW
  have bP := y.keeps bP
  have bV := y.keeps bV
  have bW := y.keeps bW
  have i2 := i2.ext y
  have i3 := i3.ext y
  have HX := Lib.hid (HX.out.trans y)
  clear y
  have hbl : b1.length = M := HQL.out
  have ob : IsB w5 (.slice a4 b1.length c4) b1 := by have h := IsSl.of_owns own4; rw [← hbl] at h; exact h
  have oc : IsB w5 (.slice a5 b1.length c5) b1 := by have h := IsSl.of_owns own5; rw [← hbl] at h; exact h
  rw [← hbl]
  have hbm : b1.length ≤ 40001 := by omega
  clear hbl hM3 hMl own4 own5
  obtain ⟨Wb, hWb⟩ : ∃ x, x = w5 := ⟨_, rfl⟩
  have XB := Ext.refl w5
  clear hWb Wb
  have FP := Lib.hid bP
  have FW := Lib.hid bW
  have F2 := Lib.hid i2
  have F3 := Lib.hid i3
  have FB := Lib.hid ob
  have FC := Lib.hid oc
  have FX := HX
  obtain ⟨K, hKK⟩ : ∃ K, appP S b1 = K := ⟨_, rfl⟩
  obtain ⟨M, hMM⟩ : ∃ M, appM S b1 = M := ⟨_, rfl⟩
  obtain ⟨L, hLL⟩ : ∃ L, appL S b1 = L := ⟨_, rfl⟩
  obtain ⟨z, hzz⟩ : ∃ z, appErr S b1 = z := ⟨_, rfl⟩
  have LGK := Lib.hid (show ∀ e ∈ K.log, lgOk e by rw [← hKK]; exact appP_lg OKS.out LGS.out (by omega))
  have C7 := fun v (h : Ext w5 v) => (bkAppend v (.slice aP S.log.length cP') (.slice a4 b1.length c4) S u2 b1 LGS.out (F2.out.ext h).fr.u OKS.out (FB.out.ext h) (HK.out.ext (FX.out.trans h))).mono (R' := U3 v K M L z) (fun e w' h => by have := app_u h; rw [hKK, hMM, hLL, hzz] at this; exact this)
  have HKK := Lib.hid hKK
  have HMM := Lib.hid hMM
  have HLL := Lib.hid hLL
  have HZZ := Lib.hid hzz
  have C7 := Lib.hid C7
  clear hKK hMM hLL hzz
  have cP := block_all bP
  go_wp2_with fail
  refine (C7.out _ (Ext.refl _)).mono ?_
  rintro e w6 ⟨y, al, cl, ul, ao, co, uo, rfl, iq, lq⟩
  have h56 := y.size
  clear cP
  have bP := y.keeps bP
  have bV := y.keeps bV
  have bW := y.keeps bW
  have i2 := i2.ext y
  have i3 := i3.ext y
  have ob := ob.ext y
  have oc := oc.ext y
  have XB := XB.trans y
  have HX := Lib.hid (HX.out.trans y)
  clear y
  have QG := Lib.hid (show SpLg w6 (fun g => w5.heap.size ≤ g ∧ g < w6.heap.size) al K.log.length cl from SpLg.of iq fun g h1 h2 => ⟨h1, h2⟩)
  have QT := Lib.hid (show SpLt w6 (fun g => w5.heap.size ≤ g ∧ g < w6.heap.size) ao L.length co from SpLt.of lq fun g h1 h2 => ⟨h1, h2⟩)
  have X6 := Ext.refl w6
  go_upto_region 8 with (first | ((with_reducible refine at_store 47 (.tmp 9) (.tmp 44) ?_); go_must (refine wpl_store rfl 47 (.tmp 9) (.tmp 44) rfl w6.heap.size #[.int .i64 K.me, .int .u32 (K.v.n : Int), .int .i64 K.v.p, .int .i64 K.v.b, .int .u32 (K.base.1 : Int), .int .u32 (K.base.2 : Int), (.slice al K.log.length cl), .bool K.known, .bool K.joined, .bool K.instep, .int .u32 (K.acked : Int)] (by rfl) (by rfl) 47 _ (blk_old (heap_alloc_new w6 _)) (by kernel_rfl) rfl (pr_one _ _ _ _) ?_)) | ((with_reducible refine at_store 27 (.tmp 11) (.tmp 46) ?_); go_must (refine wpl_store rfl 27 (.tmp 11) (.tmp 46) rfl (w6.heap.size + 1) #[.int .u32 (M.1 : Int), .int .u32 (M.2 : Int)] (by rfl) (by rfl) 27 _ (grown_other grown_setRow (blk_new (by simp)) (by omega)) (by kernel_rfl) rfl (by kernel_rfl) ?_)))
  have l_P_Q := block_lt bP
  have l_V_Q := block_lt bV
  have l_W_Q := block_lt bW
  refine wp_forget (fun W => Ext w6 W ∧ W.heap[w6.heap.size]? = some (.cells #[.int .i64 K.me, .int .u32 (K.v.n : Int), .int .i64 K.v.p, .int .i64 K.v.b, .int .u32 (K.base.1 : Int), .int .u32 (K.base.2 : Int), (.slice al K.log.length cl), .bool K.known, .bool K.joined, .bool K.instep, .int .u32 (K.acked : Int)] 47 (0, 0)) ∧ W.heap[w6.heap.size + 1]? = some (.cells #[.int .u32 (M.1 : Int), .int .u32 (M.2 : Int)] 27 (0, 0))) (new2 _ _ _ _ _ _ _) ?_
  rintro W13 ⟨y, bQ, bM⟩
  obtain ⟨BQ, hB⟩ : ∃ x, x = w6.heap.size := ⟨_, rfl⟩
  obtain ⟨BM, hB2⟩ : ∃ x, x = w6.heap.size + 1 := ⟨_, rfl⟩
  rw [← hB2] at bM
  rw [← hB2]
  rw [← hB] at bQ l_P_Q l_V_Q l_W_Q
  rw [← hB]
  clear hB hB2
  have bP := y.keeps bP
  have bV := y.keeps bV
  have bW := y.keeps bW
  have i2 := i2.ext y
  have i3 := i3.ext y
  have ob := ob.ext y
  have oc := oc.ext y
  have XB := XB.trans y
  have iq := iq.ext y
  have lq := lq.ext y
  have X6 := X6.trans y
  have HX := Lib.hid (HX.out.trans y)
  clear y l_P_Q l_V_Q l_W_Q
  obtain ⟨E, hEE⟩ : ∃ E, entX S v = E := ⟨_, rfl⟩
  obtain ⟨z2, hz2⟩ : ∃ z, entErr S v = z := ⟨_, rfl⟩
  have LGE := Lib.hid (show ∀ e ∈ E.log, lgOk e by rw [← hEE]; exact entX_lg LGS.out)
  have C8 := fun u (h : Ext w5 u) => (bkEnter u (.slice aP S.log.length cP') S u2 v LGS.out (F2.out.ext h).fr.u OKS.out hvn).mono (R' := U2 u E (.int .i64 z2)) (fun e w' h => by have := ent_u h; rw [hEE, hz2] at this; exact this)
  have HEE := Lib.hid hEE
  have HZ2 := Lib.hid hz2
  have C8 := Lib.hid C8
  clear hEE hz2
  have WE := XB
  have hE5 := XB.size
  have h6e := X6.size
  have cP := block_all bP
  have cV := block_all bV
  go_wp2_with fail
  refine (C8.out _ XB).mono ?_
  rintro e w7 ⟨y, ae, ce, ue, rfl, ie⟩
  clear cP cV
  have bP := y.keeps bP
  have bV := y.keeps bV
  have bW := y.keeps bW
  have bQ := y.keeps bQ
  have bM := y.keeps bM
  have i2 := i2.ext y
  have i3 := i3.ext y
  have ob := ob.ext y
  have oc := oc.ext y
  have XB := XB.trans y
  have iq := iq.ext y
  have lq := lq.ext y
  have X6 := X6.trans y
  have HX := Lib.hid (HX.out.trans y)
  clear y
  skip
  have h6E := X6.size
  go_upto_region 9 with (((with_reducible refine at_store 47 (.tmp 13) (.tmp 52) ?_); go_must (refine wpl_store rfl 47 (.tmp 13) (.tmp 52) rfl w7.heap.size #[.int .i64 E.me, .int .u32 (E.v.n : Int), .int .i64 E.v.p, .int .i64 E.v.b, .int .u32 (E.base.1 : Int), .int .u32 (E.base.2 : Int), (.slice ae E.log.length ce), .bool E.known, .bool E.joined, .bool E.instep, .int .u32 (E.acked : Int)] (by rfl) (by rfl) 47 _ (heap_alloc_new w7 _) (by kernel_rfl) rfl (pr_one _ _ _ _) ?_)))
  have l_P_E := block_lt bP
  have l_V_E := block_lt bV
  have l_W_E := block_lt bW
  have l_Q_E := block_lt bQ
  have l_M_E := block_lt bM
  have hsE := HX.out.size
  refine wp_forget (fun W => Ext w7 W ∧ W.heap[w7.heap.size]? = some (.cells #[.int .i64 E.me, .int .u32 (E.v.n : Int), .int .i64 E.v.p, .int .i64 E.v.b, .int .u32 (E.base.1 : Int), .int .u32 (E.base.2 : Int), (.slice ae E.log.length ce), .bool E.known, .bool E.joined, .bool E.instep, .int .u32 (E.acked : Int)] 47 (0, 0))) ⟨ext_new _ _ _, new_row _ _ _ _⟩ ?_
  rintro W14 ⟨y, bE⟩
  obtain ⟨BE, hB⟩ : ∃ x, x = w7.heap.size := ⟨_, rfl⟩
  rw [← hB] at bE hsE h6E l_P_E l_V_E l_W_E l_Q_E l_M_E
  rw [← hB]
  clear hB
  have bP := y.keeps bP
  have bV := y.keeps bV
  have bW := y.keeps bW
  have bQ := y.keeps bQ
  have bM := y.keeps bM
  have i2 := i2.ext y
  have i3 := i3.ext y
  have ob := ob.ext y
  have oc := oc.ext y
  have XB := XB.trans y
  have iq := iq.ext y
  have lq := lq.ext y
  have X6 := X6.trans y
  have ie := ie.ext y
  have HX := Lib.hid (HX.out.trans y)
  clear y
  obtain ⟨T, hTT⟩ : ∃ T, tickL S u2 = T := ⟨_, rfl⟩
  obtain ⟨z3, hz3⟩ : ∃ z, tickErr S = z := ⟨_, rfl⟩
  have C9 := fun u (h : Ext w5 u) => (bkTick u (.slice aP S.log.length cP') S u2 LGS.out BLS.out (F2.out.ext h).fr.u OKS.out (HK.out.ext (FX.out.trans h))).mono (R' := fun e w' => U1 u T e w' (fun v => .tuple #[v, .int .i64 z3])) (fun e w' h => by have := tick_u h; rw [hTT, hz3] at this; exact this)
  have HTT := Lib.hid hTT
  have HZ3 := Lib.hid hz3
  have C9 := Lib.hid C9
  clear hTT hz3
  have h6t := X6.size
  have cP := block_all bP
  go_wp2_with fail
  refine (C9.out _ XB).mono ?_
  rintro e w8 ⟨y, at_, ct, ut, rfl, lt_⟩
  clear cP
  have bP := y.keeps bP
  have bV := y.keeps bV
  have bW := y.keeps bW
  have bQ := y.keeps bQ
  have bM := y.keeps bM
  have bE := y.keeps bE
  have i2 := i2.ext y
  have i3 := i3.ext y
  have ob := ob.ext y
  have oc := oc.ext y
  have XB := XB.trans y
  have iq := iq.ext y
  have lq := lq.ext y
  have X6 := X6.trans y
  have ie := ie.ext y
  have HX := Lib.hid (HX.out.trans y)
  clear y
  skip
  have cW := block_all bW
  go_wp2_with fail
  refine (rbRight _ _ S (i3.lg LGS.out) OKS.out).mono ?_
  rintro e w9 ⟨rfl, y⟩
  clear cW
  have bP := y.keeps bP
  have bV := y.keeps bV
  have bW := y.keeps bW
  have bQ := y.keeps bQ
  have bM := y.keeps bM
  have bE := y.keeps bE
  have i2 := i2.ext y
  have i3 := i3.ext y
  have ob := ob.ext y
  have oc := oc.ext y
  have XB := XB.trans y
  have iq := iq.ext y
  have lq := lq.ext y
  have X6 := X6.trans y
  have ie := ie.ext y
  have lt_ := lt_.ext y
  have HX := Lib.hid (HX.out.trans y)
  clear y
  cases hr : rightB S with
  | false =>
    have HR := Lib.hid hr
    have eK : newP 0 = K := by rw [← HKK.out]; unfold appP; rw [if_neg (by unfold appErr; rw [if_pos hr]; decide)]
    have eM : m0 = M := by rw [← HMM.out]; unfold appM; rw [if_neg (by unfold appErr; rw [if_pos hr]; decide)]
    have eL : [] = L := by rw [← HLL.out]; unfold appL; rw [if_neg (by unfold appErr; rw [if_pos hr]; decide)]
    have ez : 360 = z := by rw [← HZZ.out]; unfold appErr; rw [if_pos hr]
    have eE : newP 0 = E := by rw [← HEE.out]; unfold entX; rw [if_neg (by unfold entErr; rw [if_pos hr]; decide)]
    have ez2 : 360 = z2 := by rw [← HZ2.out]; unfold entErr; rw [if_pos hr]
    have eT : [] = T := by rw [← HTT.out]; unfold tickL; rw [if_pos hr]
    have ez3 : 360 = z3 := by rw [← HZ3.out]; unfold tickErr; rw [if_pos hr]
    have HlR := Lib.hid (show lastR S = m0 by unfold lastR; rw [if_neg (by rw [hr]; decide)])
    have HsN := Lib.hid (show sureN S = 0 by unfold sureN; rw [hr]; rfl)
    have HrB := Lib.hid (show readyB S = false by unfold readyB; rw [hr]; rfl)
    clear hr
    subst eK
    subst eM
    subst eL
    subst ez
    subst eE
    subst ez2
    subst eT
    subst ez3
    have hme := mkEql0
    have hmt : meq m0 m0 = true := by decide
    have cQ := block_all bQ
    go_wp2_with fail
    refine (rbSame _ _ _ (newP 0) (newP 0) (iq.lg LGK.out) (lgNil _ _ rfl)).mono ?_
    rintro e wa ⟨rfl, y⟩
    rw [sameP_self]
    clear cQ
    have bP := y.keeps bP
    have bV := y.keeps bV
    have bW := y.keeps bW
    have bQ := y.keeps bQ
    have bM := y.keeps bM
    have bE := y.keeps bE
    have i2 := i2.ext y
    have i3 := i3.ext y
    have ob := ob.ext y
    have oc := oc.ext y
    have XB := XB.trans y
    have iq := iq.ext y
    have lq := lq.ext y
    have X6 := X6.trans y
    have ie := ie.ext y
    have lt_ := lt_.ext y
    have HX := Lib.hid (HX.out.trans y)
    clear y
    have cE := block_all bE
    have cM := block_all bM
    go_wp2_with fail
    refine (rbSame _ _ _ (newP 0) (newP 0) (ie.lg LGE.out) (lgNil _ _ rfl)).mono ?_
    rintro e wc ⟨rfl, y⟩
    rw [sameP_self]
    clear cE cM
    have bP := y.keeps bP
    have bV := y.keeps bV
    have bW := y.keeps bW
    have bQ := y.keeps bQ
    have bM := y.keeps bM
    have bE := y.keeps bE
    have i2 := i2.ext y
    have i3 := i3.ext y
    have ob := ob.ext y
    have oc := oc.ext y
    have XB := XB.trans y
    have iq := iq.ext y
    have lq := lq.ext y
    have X6 := X6.trans y
    have ie := ie.ext y
    have lt_ := lt_.ext y
    have HX := Lib.hid (HX.out.trans y)
    clear y
    have cM := block_all bM
    have cP := block_all bP
    go_wp2_with fail
    refine (bkCheckF _ _ S (i2.lg LGS.out) OKS.out HR.out).mono ?_
    rintro e wd ⟨rfl, y⟩
    clear cP
    have bP := y.keeps bP
    have bV := y.keeps bV
    have bW := y.keeps bW
    have bQ := y.keeps bQ
    have bM := y.keeps bM
    have bE := y.keeps bE
    have i2 := i2.ext y
    have i3 := i3.ext y
    have ob := ob.ext y
    have oc := oc.ext y
    have XB := XB.trans y
    have iq := iq.ext y
    have lq := lq.ext y
    have X6 := X6.trans y
    have ie := ie.ext y
    have lt_ := lt_.ext y
    have HX := Lib.hid (HX.out.trans y)
    clear y
    clear cM
    have cP := block_all bP
    go_wp2_with fail
    refine (bkLastP _ _ S (i2.lg LGS.out) OKS.out).mono ?_
    rintro e we ⟨rfl, y⟩
    rw [HlR.out]
    clear cP
    have bP := y.keeps bP
    have bV := y.keeps bV
    have bW := y.keeps bW
    have bQ := y.keeps bQ
    have bM := y.keeps bM
    have bE := y.keeps bE
    have i2 := i2.ext y
    have i3 := i3.ext y
    have ob := ob.ext y
    have oc := oc.ext y
    have XB := XB.trans y
    have iq := iq.ext y
    have lq := lq.ext y
    have X6 := X6.trans y
    have ie := ie.ext y
    have lt_ := lt_.ext y
    have HX := Lib.hid (HX.out.trans y)
    clear y
    have cP := block_all bP
    go_wp2_with fail
    refine (bkSure _ _ S (i2.lg LGS.out) OKS.out).mono ?_
    rintro e wf ⟨rfl, y⟩
    rw [HsN.out]
    clear cP
    have bP := y.keeps bP
    have bV := y.keeps bV
    have bW := y.keeps bW
    have bQ := y.keeps bQ
    have bM := y.keeps bM
    have bE := y.keeps bE
    have i2 := i2.ext y
    have i3 := i3.ext y
    have ob := ob.ext y
    have oc := oc.ext y
    have XB := XB.trans y
    have iq := iq.ext y
    have lq := lq.ext y
    have X6 := X6.trans y
    have ie := ie.ext y
    have lt_ := lt_.ext y
    have HX := Lib.hid (HX.out.trans y)
    clear y
    have cP := block_all bP
    go_wp2_with fail
    refine (bkReady _ _ S (i2.lg LGS.out) OKS.out).mono ?_
    rintro e wg ⟨rfl, y⟩
    rw [HrB.out]
    clear cP
    have bP := y.keeps bP
    have bV := y.keeps bV
    have bW := y.keeps bW
    have bQ := y.keeps bQ
    have bM := y.keeps bM
    have bE := y.keeps bE
    have i2 := i2.ext y
    have i3 := i3.ext y
    have ob := ob.ext y
    have oc := oc.ext y
    have XB := XB.trans y
    have iq := iq.ext y
    have lq := lq.ext y
    have X6 := X6.trans y
    have ie := ie.ext y
    have lt_ := lt_.ext y
    have HX := Lib.hid (HX.out.trans y)
    clear y
    go_wp2_with fail
    go_ret
    exact ⟨rfl, HX.out⟩
  | true =>
    have HR := Lib.hid hr
    have ez3 : 0 = z3 := by rw [← HZ3.out]; unfold tickErr; rw [if_neg (by rw [hr]; decide)]
    have HE1 := Lib.hid (ent_361 (v := v) hr)
    have hLm := lastM_ok OKS.out LGS.out
    have hll : S.log.length ≤ 16 := (right_all hr).2.2.1
    have HsQ := Lib.hid (sur_eq hr)
    have HrQ := Lib.hid (rdy_eq hr)
    have HlQ := Lib.hid (show lastR S = lastM S by unfold lastR; rw [if_pos hr])
    have C13 := fun u (h : Ext w5 u) => (rbAppend u (.slice aW S.log.length cW) (.slice a5 b1.length c5) S b1 ((F3.out.ext h).lg LGS.out) OKS.out (FC.out.ext h) hll).mono (R' := U3 u K M L z) (fun e w' h => by have := rapp_u hr hLm h; rw [HKK.out, HMM.out, HLL.out, HZZ.out] at this; exact this)
    have C16 := fun u (h : Ext w5 u) => (rbEnter u (.slice aW S.log.length cW) S v ((F3.out.ext h).lg LGS.out) (by omega)).mono (R' := U2 u E (.bool (decide (z2 = 0)))) (fun e w' h => by have := rent_u hr h; rw [HEE.out, HZ2.out] at this; exact this)
    have C19 := fun u (h : Ext w5 u) => (rbTick u (.slice aW S.log.length cW) S ((F3.out.ext h).lg LGS.out) OKS.out (by omega) BLS.out).mono (R' := fun e w' => U1 u T e w' (fun v => v)) (fun e w' h => by have := rtick_u hr F2.out.len h; rw [HTT.out] at this; exact this)
    have C13 := Lib.hid C13
    have C16 := Lib.hid C16
    have C19 := Lib.hid C19
    clear hr hLm
    subst ez3
    have cW := block_all bW
    go_wp2_with fail
    refine (C13.out _ XB).mono ?_
    rintro e wa ⟨y, ar, cr, ur, ap, cp, up, rfl, iw, lw⟩
    clear cW
    have bP := y.keeps bP
    have bV := y.keeps bV
    have bW := y.keeps bW
    have bQ := y.keeps bQ
    have bM := y.keeps bM
    have bE := y.keeps bE
    have i2 := i2.ext y
    have i3 := i3.ext y
    have ob := ob.ext y
    have oc := oc.ext y
    have XB := XB.trans y
    have iq := iq.ext y
    have lq := lq.ext y
    have X6 := X6.trans y
    have ie := ie.ext y
    have lt_ := lt_.ext y
    have HX := Lib.hid (HX.out.trans y)
    clear y
    go_upto_region 14 with (first | ((with_reducible refine at_store 47 (.tmp 18) (.tmp 121) ?_); go_must (refine wpl_store rfl 47 (.tmp 18) (.tmp 121) rfl wa.heap.size #[.int .i64 K.me, .int .u32 (K.v.n : Int), .int .i64 K.v.p, .int .i64 K.v.b, .int .u32 (K.base.1 : Int), .int .u32 (K.base.2 : Int), (.slice ar K.log.length cr), .bool K.known, .bool K.joined, .bool K.instep, .int .u32 (K.acked : Int)] (by rfl) (by rfl) 47 _ (blk_old (heap_alloc_new wa _)) (by kernel_rfl) rfl (pr_one _ _ _ _) ?_)) | ((with_reducible refine at_store 27 (.tmp 20) (.tmp 123) ?_); go_must (refine wpl_store rfl 27 (.tmp 20) (.tmp 123) rfl (wa.heap.size + 1) #[.int .u32 (M.1 : Int), .int .u32 (M.2 : Int)] (by rfl) (by rfl) 27 _ (grown_other grown_setRow (blk_new (by simp)) (by omega)) (by kernel_rfl) rfl (by kernel_rfl) ?_)))
    have l_P_R := block_lt bP
    have l_V_R := block_lt bV
    have l_W_R := block_lt bW
    have l_Q_R := block_lt bQ
    have l_M_R := block_lt bM
    have l_E_R := block_lt bE
    refine wp_forget (fun W => Ext wa W ∧ W.heap[wa.heap.size]? = some (.cells #[.int .i64 K.me, .int .u32 (K.v.n : Int), .int .i64 K.v.p, .int .i64 K.v.b, .int .u32 (K.base.1 : Int), .int .u32 (K.base.2 : Int), (.slice ar K.log.length cr), .bool K.known, .bool K.joined, .bool K.instep, .int .u32 (K.acked : Int)] 47 (0, 0)) ∧ W.heap[wa.heap.size + 1]? = some (.cells #[.int .u32 (M.1 : Int), .int .u32 (M.2 : Int)] 27 (0, 0))) (new2 _ _ _ _ _ _ _) ?_
    rintro W15 ⟨y, bR, bN⟩
    obtain ⟨BR, hB⟩ : ∃ x, x = wa.heap.size := ⟨_, rfl⟩
    obtain ⟨BN, hB2⟩ : ∃ x, x = wa.heap.size + 1 := ⟨_, rfl⟩
    rw [← hB2] at bN
    rw [← hB2]
    rw [← hB] at bR l_P_R l_V_R l_W_R l_Q_R l_M_R l_E_R
    rw [← hB]
    clear hB hB2
    have bP := y.keeps bP
    have bV := y.keeps bV
    have bW := y.keeps bW
    have bQ := y.keeps bQ
    have bM := y.keeps bM
    have bE := y.keeps bE
    have i2 := i2.ext y
    have i3 := i3.ext y
    have ob := ob.ext y
    have oc := oc.ext y
    have XB := XB.trans y
    have iq := iq.ext y
    have lq := lq.ext y
    have X6 := X6.trans y
    have ie := ie.ext y
    have lt_ := lt_.ext y
    have iw := iw.ext y
    have lw := lw.ext y
    have HX := Lib.hid (HX.out.trans y)
    clear y l_P_R l_V_R l_W_R l_Q_R l_M_R l_E_R
    have hmn : ∀ w, (binOp .neq 27 (.agg #[.int .u32 (M.1 : Int), .int .u32 (M.2 : Int)]) (.agg #[.int .u32 (M.1 : Int), .int .u32 (M.2 : Int)])).run Tryd.prog w = .ok (.bool false) w := fun w => by rw [mkNeq]; simp [meq]
    have hzn : (z != z) = false := by simp
    have cM := block_all bM
    have cN := block_all bN
    have cQ := block_all bQ
    have cR := block_all bR
    go_wp2_with fail
    refine (rbSame _ _ _ K K (iq.lg LGK.out) (iw.lg LGK.out)).mono ?_
    rintro e wc ⟨rfl, y⟩
    rw [sameP_self]
    clear cQ cR
    have bP := y.keeps bP
    have bV := y.keeps bV
    have bW := y.keeps bW
    have bQ := y.keeps bQ
    have bM := y.keeps bM
    have bE := y.keeps bE
    have bR := y.keeps bR
    have bN := y.keeps bN
    have i2 := i2.ext y
    have i3 := i3.ext y
    have ob := ob.ext y
    have oc := oc.ext y
    have XB := XB.trans y
    have iq := iq.ext y
    have lq := lq.ext y
    have X6 := X6.trans y
    have ie := ie.ext y
    have lt_ := lt_.ext y
    have iw := iw.ext y
    have lw := lw.ext y
    have HX := Lib.hid (HX.out.trans y)
    clear y
    clear cM cN
    go_wp2_with fail
    refine (lawSameLetters _ _ _ L lq.at lw.at).mono ?_
    rintro e wd ⟨rfl, y⟩
    have bP := y.keeps bP
    have bV := y.keeps bV
    have bW := y.keeps bW
    have bQ := y.keeps bQ
    have bM := y.keeps bM
    have bE := y.keeps bE
    have bR := y.keeps bR
    have bN := y.keeps bN
    have i2 := i2.ext y
    have i3 := i3.ext y
    have ob := ob.ext y
    have oc := oc.ext y
    have XB := XB.trans y
    have iq := iq.ext y
    have lq := lq.ext y
    have X6 := X6.trans y
    have ie := ie.ext y
    have lt_ := lt_.ext y
    have iw := iw.ext y
    have lw := lw.ext y
    have HX := Lib.hid (HX.out.trans y)
    clear y
    have cP := block_all bP
    go_wp2_with fail
    refine (bkCheckT _ _ S (i2.lg LGS.out) OKS.out HR.out).mono ?_
    rintro e we ⟨rfl, y⟩
    clear cP
    have bP := y.keeps bP
    have bV := y.keeps bV
    have bW := y.keeps bW
    have bQ := y.keeps bQ
    have bM := y.keeps bM
    have bE := y.keeps bE
    have bR := y.keeps bR
    have bN := y.keeps bN
    have i2 := i2.ext y
    have i3 := i3.ext y
    have ob := ob.ext y
    have oc := oc.ext y
    have XB := XB.trans y
    have iq := iq.ext y
    have lq := lq.ext y
    have X6 := X6.trans y
    have ie := ie.ext y
    have lt_ := lt_.ext y
    have iw := iw.ext y
    have lw := lw.ext y
    have HX := Lib.hid (HX.out.trans y)
    clear y
    clear hmn hzn
    have cW := block_all bW
    have cV := block_all bV
    go_wp2_with fail
    refine (C16.out _ XB).mono ?_
    rintro e wf ⟨y, ax, cx, ux, rfl, ix⟩
    clear cW cV
    have bP := y.keeps bP
    have bV := y.keeps bV
    have bW := y.keeps bW
    have bQ := y.keeps bQ
    have bM := y.keeps bM
    have bE := y.keeps bE
    have bR := y.keeps bR
    have bN := y.keeps bN
    have i2 := i2.ext y
    have i3 := i3.ext y
    have ob := ob.ext y
    have oc := oc.ext y
    have XB := XB.trans y
    have iq := iq.ext y
    have lq := lq.ext y
    have X6 := X6.trans y
    have ie := ie.ext y
    have lt_ := lt_.ext y
    have iw := iw.ext y
    have lw := lw.ext y
    have HX := Lib.hid (HX.out.trans y)
    clear y
    go_upto_region 17 with (((with_reducible refine at_store 47 (.tmp 22) (.tmp 154) ?_); go_must (refine wpl_store rfl 47 (.tmp 22) (.tmp 154) rfl wf.heap.size #[.int .i64 E.me, .int .u32 (E.v.n : Int), .int .i64 E.v.p, .int .i64 E.v.b, .int .u32 (E.base.1 : Int), .int .u32 (E.base.2 : Int), (.slice ax E.log.length cx), .bool E.known, .bool E.joined, .bool E.instep, .int .u32 (E.acked : Int)] (by rfl) (by rfl) 47 _ (heap_alloc_new wf _) (by kernel_rfl) rfl (pr_one _ _ _ _) ?_)))
    have l_P_X := block_lt bP
    have l_V_X := block_lt bV
    have l_W_X := block_lt bW
    have l_Q_X := block_lt bQ
    have l_M_X := block_lt bM
    have l_E_X := block_lt bE
    have l_R_X := block_lt bR
    have l_N_X := block_lt bN
    have hsX := HX.out.size
    refine wp_forget (fun W => Ext wf W ∧ W.heap[wf.heap.size]? = some (.cells #[.int .i64 E.me, .int .u32 (E.v.n : Int), .int .i64 E.v.p, .int .i64 E.v.b, .int .u32 (E.base.1 : Int), .int .u32 (E.base.2 : Int), (.slice ax E.log.length cx), .bool E.known, .bool E.joined, .bool E.instep, .int .u32 (E.acked : Int)] 47 (0, 0))) ⟨ext_new _ _ _, new_row _ _ _ _⟩ ?_
    rintro W16 ⟨y, bX⟩
    obtain ⟨BX, hB⟩ : ∃ x, x = wf.heap.size := ⟨_, rfl⟩
    rw [← hB] at bX hsX l_P_X l_V_X l_W_X l_Q_X l_M_X l_E_X l_R_X l_N_X
    rw [← hB]
    clear hB
    have bP := y.keeps bP
    have bV := y.keeps bV
    have bW := y.keeps bW
    have bQ := y.keeps bQ
    have bM := y.keeps bM
    have bE := y.keeps bE
    have bR := y.keeps bR
    have bN := y.keeps bN
    have i2 := i2.ext y
    have i3 := i3.ext y
    have ob := ob.ext y
    have oc := oc.ext y
    have XB := XB.trans y
    have iq := iq.ext y
    have lq := lq.ext y
    have X6 := X6.trans y
    have ie := ie.ext y
    have lt_ := lt_.ext y
    have iw := iw.ext y
    have lw := lw.ext y
    have ix := ix.ext y
    have HX := Lib.hid (HX.out.trans y)
    clear y
    go_cut [173] from 156 to 173 (fun t173 wx => t173 = .bool false ∧ Ext W16 wx)
    case first =>
      have cE := block_all bE
      have cX := block_all bX
      have HCE := Lib.hid bE
      by_cases hz0 : z2 = 0
      · have hd : decide (z2 = 0) = true := decide_eq_true hz0
        rw [hd]
        subst hz0
        go_wp2_with fail
        refine (rbSame _ _ _ E E (ie.lg LGE.out) (ix.lg LGE.out)).mono ?_
        rintro e wq ⟨rfl, y⟩
        rw [sameP_self]
        go_wp2_with fail
        go_meet
        exact ⟨rfl, y⟩
      · have hd : decide (z2 = 0) = false := decide_eq_false hz0
        obtain rfl : z2 = 361 := by have := HE1.out (by rw [HZ2.out]; exact hz0); rw [HZ2.out] at this; exact this
        rw [hd]
        go_wp2_with fail
        refine (rbSame _ _ _ E E (ie.lg LGE.out) (ix.lg LGE.out)).mono ?_
        rintro e wq ⟨rfl, y⟩
        rw [sameP_self]
        go_wp2_with fail
        go_meet
        exact ⟨rfl, y⟩
    case rest =>
      obtain ⟨rfl, y⟩ := hcut
      obtain ⟨wz, rfl⟩ : ∃ q, q = wc := ⟨_, rfl⟩
      have bP := y.keeps bP
      have bV := y.keeps bV
      have bW := y.keeps bW
      have bQ := y.keeps bQ
      have bM := y.keeps bM
      have bE := y.keeps bE
      have bR := y.keeps bR
      have bN := y.keeps bN
      have bX := y.keeps bX
      have i2 := i2.ext y
      have i3 := i3.ext y
      have ob := ob.ext y
      have oc := oc.ext y
      have XB := XB.trans y
      have iq := iq.ext y
      have lq := lq.ext y
      have X6 := X6.trans y
      have ie := ie.ext y
      have lt_ := lt_.ext y
      have iw := iw.ext y
      have lw := lw.ext y
      have ix := ix.ext y
      have HX := Lib.hid (HX.out.trans y)
      clear y
      go_upto_region 19 with fail
      have KP := fun v (h : Ext wz v) => block_all (h.keeps bP)
      have KW := fun v (h : Ext wz v) => block_all (h.keeps bW)
      have hmn : ∀ w, (binOp .neq 27 (.agg #[.int .u32 ((lastM S).1 : Int), .int .u32 ((lastM S).2 : Int)]) (.agg #[.int .u32 ((lastM S).1 : Int), .int .u32 ((lastM S).2 : Int)])).run Tryd.prog w = .ok (.bool false) w := fun w => by rw [mkNeq]; simp [meq]
      have BQ := Lib.hid bQ
      have BEE := Lib.hid bE
      have BPP := Lib.hid bP
      have BWW := Lib.hid bW
      clear bQ bE bP bW bM bV bR bN bX
      refine wp_region_S (fun v => Ext wz v) (by kernel_rfl) (fun w' h => h) fun wd hqd xd hHeld => ?_
      refine wpAnyH_take (i := 0) (v := ?vc0) rfl (by kernel_rfl) (by kernel_rfl) (by kernel_rfl) (fun _ _ _ h => h) (Or.inl ⟨by rfl, ?hyc0⟩) hHeld ?_
      case hyc0 => (intro w hSw; go_simp; try with_reducible rfl)
      simp only [Act.put, List.setIfInBounds_toArray, List.set_cons_zero, List.set_cons_succ, List.getElem_toArray, List.getElem_cons_zero, List.getElem_cons_succ]
      refine wpAnyH_take (i := 1) (v := ?vc1) rfl (by kernel_rfl) (by kernel_rfl) (by kernel_rfl) (fun _ _ _ h => h) (Or.inl ⟨by rfl, ?hyc1⟩) hHeld ?_
      case hyc1 => (intro w hSw; go_simp; try with_reducible rfl)
      simp only [Act.put, List.setIfInBounds_toArray, List.set_cons_zero, List.set_cons_succ, List.getElem_toArray, List.getElem_cons_zero, List.getElem_cons_succ]
      refine wpAnyH_take (i := 2) (v := ?vc2) rfl (by kernel_rfl) (by kernel_rfl) (by kernel_rfl) (fun _ _ _ h => h) (Or.inl ⟨by rfl, ?hyc2⟩) hHeld ?_
      case hyc2 => (intro w hSw; go_simp; try with_reducible rfl)
      simp only [Act.put, List.setIfInBounds_toArray, List.set_cons_zero, List.set_cons_succ, List.getElem_toArray, List.getElem_cons_zero, List.getElem_cons_succ]
      refine wpAnyH_take (i := 3) (v := ?vc3) rfl (by kernel_rfl) (by kernel_rfl) (by kernel_rfl) (fun _ _ _ h => h) (Or.inl ⟨by rfl, ?hyc3⟩) hHeld ?_
      case hyc3 => (intro w hSw; go_simp; try with_reducible rfl)
      simp only [Act.put, List.setIfInBounds_toArray, List.set_cons_zero, List.set_cons_succ, List.getElem_toArray, List.getElem_cons_zero, List.getElem_cons_succ]
      refine wpAnyH_take (i := 4) (v := ?vc4) rfl (by kernel_rfl) (by kernel_rfl) (by kernel_rfl) (fun _ _ _ h => h) (Or.inl ⟨by rfl, ?hyc4⟩) hHeld ?_
      case hyc4 => (intro w hSw; have kk := KW _ hSw; go_simp; try with_reducible rfl)
      simp only [Act.put, List.setIfInBounds_toArray, List.set_cons_zero, List.set_cons_succ, List.getElem_toArray, List.getElem_cons_zero, List.getElem_cons_succ]
      refine wpAnyH_all (rs := [5]) (by kernel_rfl) (by simp) ?_
      intro i hi; obtain rfl : i = 5 := by simpa using hi
      refine wpOp_run rfl (by rfl) ?_
      go_simp
      refine Calls.mono (C19.out _ (XB.trans hHeld)) ?_
      rintro e wa5 ⟨xa, a9, c9, u9, rfl, l9⟩
      have hHeld := hHeld.trans xa
      first | refine ⟨fun _ => hHeld, ?_⟩ | refine ⟨hHeld, ?_⟩
      try simp only [Act.put, List.setIfInBounds_toArray, List.set_cons_zero, List.set_cons_succ, List.getElem_toArray, List.getElem_cons_zero, List.getElem_cons_succ]
      refine wpAnyH_all (rs := [6]) (by kernel_rfl) (by simp) ?_
      intro i hi; obtain rfl : i = 6 := by simpa using hi
      refine wpOp_run rfl (by rfl) ?_
      go_simp
      refine Calls.mono (lawSameLetters _ _ _ T (lt_.ext hHeld).at l9.at) ?_
      rintro e wa6 ⟨rfl, xa⟩
      have hHeld := hHeld.trans xa
      first | refine ⟨fun _ => hHeld, ?_⟩ | refine ⟨hHeld, ?_⟩
      try simp only [Act.put, List.setIfInBounds_toArray, List.set_cons_zero, List.set_cons_succ, List.getElem_toArray, List.getElem_cons_zero, List.getElem_cons_succ]
      refine wpAnyH_take (i := 7) (v := ?vc7) rfl (by kernel_rfl) (by kernel_rfl) (by kernel_rfl) (fun _ _ _ h => h) (Or.inl ⟨by rfl, ?hyc7⟩) hHeld ?_
      case hyc7 => (intro w hSw; go_simp; try with_reducible rfl)
      simp only [Act.put, List.setIfInBounds_toArray, List.set_cons_zero, List.set_cons_succ, List.getElem_toArray, List.getElem_cons_zero, List.getElem_cons_succ]
      refine wpAnyH_take (i := 8) (v := ?vc8) rfl (by kernel_rfl) (by kernel_rfl) (by kernel_rfl) (fun _ _ _ h => h) (Or.inl ⟨by rfl, ?hyc8⟩) hHeld ?_
      case hyc8 => (intro w hSw; go_simp; try with_reducible rfl)
      simp only [Act.put, List.setIfInBounds_toArray, List.set_cons_zero, List.set_cons_succ, List.getElem_toArray, List.getElem_cons_zero, List.getElem_cons_succ]
      refine wpAnyH_take (i := 9) (v := ?vc9) rfl (by kernel_rfl) (by kernel_rfl) (by kernel_rfl) (fun _ _ _ h => h) (Or.inl ⟨by rfl, ?hyc9⟩) hHeld ?_
      case hyc9 => (intro w hSw; go_simp; try with_reducible rfl)
      simp only [Act.put, List.setIfInBounds_toArray, List.set_cons_zero, List.set_cons_succ, List.getElem_toArray, List.getElem_cons_zero, List.getElem_cons_succ]
      refine wpAnyH_take (i := 10) (v := ?vc10) rfl (by kernel_rfl) (by kernel_rfl) (by kernel_rfl) (fun _ _ _ h => h) (Or.inl ⟨by rfl, ?hyc10⟩) hHeld ?_
      case hyc10 => (intro w hSw; have kk := KP _ hSw; go_simp; try with_reducible rfl)
      simp only [Act.put, List.setIfInBounds_toArray, List.set_cons_zero, List.set_cons_succ, List.getElem_toArray, List.getElem_cons_zero, List.getElem_cons_succ]
      refine wpAnyH_take (i := 12) (v := ?vc12) rfl (by kernel_rfl) (by kernel_rfl) (by kernel_rfl) (fun _ _ _ h => h) (Or.inl ⟨by rfl, ?hyc12⟩) hHeld ?_
      case hyc12 => (intro w hSw; have kk := KW _ hSw; go_simp; try with_reducible rfl)
      simp only [Act.put, List.setIfInBounds_toArray, List.set_cons_zero, List.set_cons_succ, List.getElem_toArray, List.getElem_cons_zero, List.getElem_cons_succ]
      refine wpAnyH_all (rs := [11]) (by kernel_rfl) (by simp) ?_
      intro i hi; obtain rfl : i = 11 := by simpa using hi
      refine wpOp_run rfl (by rfl) ?_
      go_simp
      refine Calls.mono (bkLastP _ _ S ((i2.ext hHeld).lg LGS.out) OKS.out) ?_
      rintro e wa7 ⟨rfl, xa⟩
      rw [HlQ.out]
      have hHeld := hHeld.trans xa
      first | refine ⟨fun _ => hHeld, ?_⟩ | refine ⟨hHeld, ?_⟩
      try simp only [Act.put, List.setIfInBounds_toArray, List.set_cons_zero, List.set_cons_succ, List.getElem_toArray, List.getElem_cons_zero, List.getElem_cons_succ]
      refine wpAnyH_all (rs := [13]) (by kernel_rfl) (by simp) ?_
      intro i hi; obtain rfl : i = 13 := by simpa using hi
      refine wpOp_run rfl (by rfl) ?_
      go_simp
      refine Calls.mono (rbLast _ _ S ((i3.ext hHeld).lg LGS.out)) ?_
      rintro e wa8 ⟨rfl, xa⟩
      have hHeld := hHeld.trans xa
      first | refine ⟨fun _ => hHeld, ?_⟩ | refine ⟨hHeld, ?_⟩
      try simp only [Act.put, List.setIfInBounds_toArray, List.set_cons_zero, List.set_cons_succ, List.getElem_toArray, List.getElem_cons_zero, List.getElem_cons_succ]
      refine wpAnyH_take (i := 14) (v := ?vc14) rfl (by kernel_rfl) (by kernel_rfl) (by kernel_rfl) (fun _ _ _ h => h) (Or.inl ⟨by rfl, ?hyc14⟩) hHeld ?_
      case hyc14 => (intro w hSw; go_simp; try with_reducible rfl)
      simp only [Act.put, List.setIfInBounds_toArray, List.set_cons_zero, List.set_cons_succ, List.getElem_toArray, List.getElem_cons_zero, List.getElem_cons_succ]
      refine wpAnyH_take (i := 15) (v := ?vc15) rfl (by kernel_rfl) (by kernel_rfl) (by kernel_rfl) (fun _ _ _ h => h) (Or.inl ⟨by rfl, ?hyc15⟩) hHeld ?_
      case hyc15 => (intro w hSw; go_simp; try with_reducible rfl)
      simp only [Act.put, List.setIfInBounds_toArray, List.set_cons_zero, List.set_cons_succ, List.getElem_toArray, List.getElem_cons_zero, List.getElem_cons_succ]
      refine wpAnyH_take (i := 16) (v := ?vc16) rfl (by kernel_rfl) (by kernel_rfl) (by kernel_rfl) (fun _ _ _ h => h) (Or.inl ⟨by rfl, ?hyc16⟩) hHeld ?_
      case hyc16 => (intro w hSw; go_simp; try with_reducible rfl)
      simp only [Act.put, List.setIfInBounds_toArray, List.set_cons_zero, List.set_cons_succ, List.getElem_toArray, List.getElem_cons_zero, List.getElem_cons_succ]
      refine wpAnyH_take (i := 17) (v := ?vc17) rfl (by kernel_rfl) (by kernel_rfl) (by kernel_rfl) (fun _ _ _ h => h) (Or.inl ⟨by rfl, ?hyc17⟩) hHeld ?_
      case hyc17 => (intro w hSw; have kk := KP _ hSw; go_simp; try with_reducible rfl)
      simp only [Act.put, List.setIfInBounds_toArray, List.set_cons_zero, List.set_cons_succ, List.getElem_toArray, List.getElem_cons_zero, List.getElem_cons_succ]
      refine wpAnyH_take (i := 19) (v := ?vc19) rfl (by kernel_rfl) (by kernel_rfl) (by kernel_rfl) (fun _ _ _ h => h) (Or.inl ⟨by rfl, ?hyc19⟩) hHeld ?_
      case hyc19 => (intro w hSw; have kk := KW _ hSw; go_simp; try with_reducible rfl)
      simp only [Act.put, List.setIfInBounds_toArray, List.set_cons_zero, List.set_cons_succ, List.getElem_toArray, List.getElem_cons_zero, List.getElem_cons_succ]
      refine wpAnyH_all (rs := [18]) (by kernel_rfl) (by simp) ?_
      intro i hi; obtain rfl : i = 18 := by simpa using hi
      refine wpOp_run rfl (by rfl) ?_
      go_simp
      refine Calls.mono (bkSure _ _ S ((i2.ext hHeld).lg LGS.out) OKS.out) ?_
      rintro e wa9 ⟨rfl, xa⟩
      rw [HsQ.out]
      have hHeld := hHeld.trans xa
      first | refine ⟨fun _ => hHeld, ?_⟩ | refine ⟨hHeld, ?_⟩
      try simp only [Act.put, List.setIfInBounds_toArray, List.set_cons_zero, List.set_cons_succ, List.getElem_toArray, List.getElem_cons_zero, List.getElem_cons_succ]
      refine wpAnyH_all (rs := [20]) (by kernel_rfl) (by simp) ?_
      intro i hi; obtain rfl : i = 20 := by simpa using hi
      refine wpOp_run rfl (by rfl) ?_
      go_simp
      refine Calls.mono (rbSure _ _ S ((i3.ext hHeld).lg LGS.out)) ?_
      rintro e wa10 ⟨rfl, xa⟩
      have hHeld := hHeld.trans xa
      first | refine ⟨fun _ => hHeld, ?_⟩ | refine ⟨hHeld, ?_⟩
      try simp only [Act.put, List.setIfInBounds_toArray, List.set_cons_zero, List.set_cons_succ, List.getElem_toArray, List.getElem_cons_zero, List.getElem_cons_succ]
      refine wpAnyH_take (i := 21) (v := ?vc21) rfl (by kernel_rfl) (by kernel_rfl) (by kernel_rfl) (fun _ _ _ h => h) (Or.inl ⟨by rfl, ?hyc21⟩) hHeld ?_
      case hyc21 => (intro w hSw; go_simp; try with_reducible rfl)
      simp only [Act.put, List.setIfInBounds_toArray, List.set_cons_zero, List.set_cons_succ, List.getElem_toArray, List.getElem_cons_zero, List.getElem_cons_succ]
      refine wpAnyH_take (i := 22) (v := ?vc22) rfl (by kernel_rfl) (by kernel_rfl) (by kernel_rfl) (fun _ _ _ h => h) (Or.inl ⟨by rfl, ?hyc22⟩) hHeld ?_
      case hyc22 => (intro w hSw; go_simp; try with_reducible rfl)
      simp only [Act.put, List.setIfInBounds_toArray, List.set_cons_zero, List.set_cons_succ, List.getElem_toArray, List.getElem_cons_zero, List.getElem_cons_succ]
      refine wpAnyH_take (i := 23) (v := ?vc23) rfl (by kernel_rfl) (by kernel_rfl) (by kernel_rfl) (fun _ _ _ h => h) (Or.inl ⟨by rfl, ?hyc23⟩) hHeld ?_
      case hyc23 => (intro w hSw; go_simp; try with_reducible rfl)
      simp only [Act.put, List.setIfInBounds_toArray, List.set_cons_zero, List.set_cons_succ, List.getElem_toArray, List.getElem_cons_zero, List.getElem_cons_succ]
      refine wpAnyH_take (i := 24) (v := ?vc24) rfl (by kernel_rfl) (by kernel_rfl) (by kernel_rfl) (fun _ _ _ h => h) (Or.inl ⟨by rfl, ?hyc24⟩) hHeld ?_
      case hyc24 => (intro w hSw; have kk := KP _ hSw; go_simp; try with_reducible rfl)
      simp only [Act.put, List.setIfInBounds_toArray, List.set_cons_zero, List.set_cons_succ, List.getElem_toArray, List.getElem_cons_zero, List.getElem_cons_succ]
      refine wpAnyH_take (i := 26) (v := ?vc26) rfl (by kernel_rfl) (by kernel_rfl) (by kernel_rfl) (fun _ _ _ h => h) (Or.inl ⟨by rfl, ?hyc26⟩) hHeld ?_
      case hyc26 => (intro w hSw; have kk := KW _ hSw; go_simp; try with_reducible rfl)
      simp only [Act.put, List.setIfInBounds_toArray, List.set_cons_zero, List.set_cons_succ, List.getElem_toArray, List.getElem_cons_zero, List.getElem_cons_succ]
      refine wpAnyH_all (rs := [25]) (by kernel_rfl) (by simp) ?_
      intro i hi; obtain rfl : i = 25 := by simpa using hi
      refine wpOp_run rfl (by rfl) ?_
      go_simp
      refine Calls.mono (bkReady _ _ S ((i2.ext hHeld).lg LGS.out) OKS.out) ?_
      rintro e wa11 ⟨rfl, xa⟩
      rw [HrQ.out]
      have hHeld := hHeld.trans xa
      first | refine ⟨fun _ => hHeld, ?_⟩ | refine ⟨hHeld, ?_⟩
      try simp only [Act.put, List.setIfInBounds_toArray, List.set_cons_zero, List.set_cons_succ, List.getElem_toArray, List.getElem_cons_zero, List.getElem_cons_succ]
      refine wpAnyH_all (rs := [27]) (by kernel_rfl) (by simp) ?_
      intro i hi; obtain rfl : i = 27 := by simpa using hi
      refine wpOp_run rfl (by rfl) ?_
      go_simp
      refine Calls.mono (rbReady _ _ S) ?_
      rintro e wa12 ⟨rfl, xa⟩
      have hHeld := hHeld.trans xa
      first | refine ⟨fun _ => hHeld, ?_⟩ | refine ⟨hHeld, ?_⟩
      try simp only [Act.put, List.setIfInBounds_toArray, List.set_cons_zero, List.set_cons_succ, List.getElem_toArray, List.getElem_cons_zero, List.getElem_cons_succ]
      refine wpAnyH_take (i := 28) (v := ?vc28) rfl (by kernel_rfl) (by kernel_rfl) (by kernel_rfl) (fun _ _ _ h => h) (Or.inl ⟨by rfl, ?hyc28⟩) hHeld ?_
      case hyc28 => (intro w hSw; go_simp; try with_reducible rfl)
      simp only [Act.put, List.setIfInBounds_toArray, List.set_cons_zero, List.set_cons_succ, List.getElem_toArray, List.getElem_cons_zero, List.getElem_cons_succ]
      refine wpAnyH_take (i := 29) (v := ?vc29) rfl (by kernel_rfl) (by kernel_rfl) (by kernel_rfl) (fun _ _ _ h => h) (Or.inl ⟨by rfl, ?hyc29⟩) hHeld ?_
      case hyc29 => (intro w hSw; go_simp; try with_reducible rfl)
      simp only [Act.put, List.setIfInBounds_toArray, List.set_cons_zero, List.set_cons_succ, List.getElem_toArray, List.getElem_cons_zero, List.getElem_cons_succ]
      refine wpAnyH_done (by kernel_rfl) ?_ _
      refine NoPanic.normal ?_
      have bQ := hHeld.keeps BQ.out
      have bE := hHeld.keeps BEE.out
      have X6 := X6.trans hHeld
      have XB := XB.trans hHeld
      have ie := ie.ext hHeld
      have lt_ := lt_.ext hHeld
      clear KP KW hmn
      have cQ := block_all bQ
      go_wp2_with fail
      have D1 := Lib.hid (show ∀ g, (w5.heap.size ≤ g ∧ g < w6.heap.size) → w5.heap.size ≤ g from fun g h => h.1)
      refine (lawSpoil _ (fun g => w5.heap.size ≤ g ∧ g < w6.heap.size) K al ao K.log.length cl L.length co (QG.out.ext X6) (QT.out.ext X6)).mono ?_
      rintro e wm ⟨⟨vv, rfl⟩, o1⟩
      have XB1 := o1.toExt XB D1.out
      skip
      have bE1 := o1.keeps bE (by omega)
      have EG := (SpLg.of (D := fun g => w6.heap.size ≤ g) (ie.base h6e) (fun g h _ => h)).off o1 (fun g h h2 => by omega)
      have ET := (SpLt.of (D := fun g => w6.heap.size ≤ g) (lt_.base h6t) (fun g h _ => h)).off o1 (fun g h h2 => by omega)
      have cE := block_all bE1
      clear cQ bQ bE o1
      go_wp2_with fail
      refine (lawSpoil _ (fun g => w6.heap.size ≤ g) E ae at_ E.log.length ce T.length ct EG ET).mono ?_
      rintro e wn ⟨⟨vw, rfl⟩, o2⟩
      have XB2 := o2.toExt XB1 (fun g h => Nat.le_trans h56 h)
      have HXX := Lib.hid (FX.out.trans XB2)
      have cP := block_all (XB2.keeps FP.out)
      have cW := block_all (XB2.keeps FW.out)
      clear cE bE1 o2
      go_wp2_with fail
      refine (rbSame _ _ _ S S ((F2.out.ext XB2).lg LGS.out) ((F3.out.ext XB2).lg LGS.out)).mono ?_
      rintro e wo ⟨rfl, y⟩
      rw [sameP_self]
      have hee : (b1 == b1) = true := by simp
      go_wp2_with fail
      refine (bytesEqual _ _ _ b1 b1 ((FB.out.ext XB2).ext y) ((FC.out.ext XB2).ext y)).mono ?_
      rintro e w' ⟨rfl, rfl⟩
      rw [hee]
      go_wp2_with fail
      go_ret
      exact ⟨rfl, HXX.out.trans y⟩
end Go.Proofs.YtkcddcomjbihgaaDoor
