/- The walk of the reference's Block. -/
import Derived.Test.YtpadfabjihaapaaGreatDoorShB
namespace Go.Proofs.YtpadfabjihaapaaGreatDoor
open Go.RowKit
set_option linter.unusedVariables false

theorem quiet_same {P : Program} {f : FuncId} {args : Array Value} {w : World} {n : Nat} {v : Value} (h : Calls P f args (w.drewN n) fun e w' => e = .returned v ∧ w' = w.drewN n) : Calls P f args (w.drewN n) fun e w'' => e = .returned v ∧ ∃ m, w'' = w.drewN m :=
  Calls.mono h fun _ _ ⟨he, hm⟩ => ⟨he, n, hm⟩

set_option maxHeartbeats 4000000 in
set_option maxRecDepth 100000 in
theorem refBlock (w : World) (p0 p1 p2 p3 p4 p5 p6 p7 : Int) (v : Value) (l : List UInt8) (hl : l.length = 64) (hv : IsB w v l) :
    Calls Tryz.prog 116 #[.agg (a8 p0 p1 p2 p3 p4 p5 p6 p7), v, .agg (kTab.map uc32).toArray] w fun e w' => e = .returned (.agg (blockS ⟨p0, p1, p2, p3, p4, p5, p6, p7⟩ l).cs) ∧ Ext w w' := by
  generalize hB : blockS ⟨p0, p1, p2, p3, p4, p5, p6, p7⟩ l = BB
  have HBB := Lib.hid hB
  clear hB
  obtain ⟨K, hK⟩ : ∃ K, K = kTab := ⟨_, rfl⟩
  have hKl : K.length = 64 := by rw [hK]; rfl
  rw [← hK]
  have HK := Lib.hid hK
  clear hK
  obtain ⟨ao, cap, rfl, b1, m1, z1, g1⟩ := hv.opened
  rw [hl] at hv b1 ⊢
  clear z1 g1
  unfold a8
  go_enter Tryz.func116, Tryz.ntmps116
  go_wp2_with fail
  have b0 := blk_old (o := .cells (((List.replicate 64 (0 : Int)).map uc32).toArray) 156) (blk_old (o := .cells (a8 0 0 0 0 0 0 0 0) 158) (blk_old (o := .cells (K.map uc32).toArray 156) (blk_new (w := w) (o := .cells (a8 p0 p1 p2 p3 p4 p5 p6 p7) 158) rfl)))
  have b1 := blk_old (o := .cells (((List.replicate 64 (0 : Int)).map uc32).toArray) 156) (blk_old (o := .cells (a8 0 0 0 0 0 0 0 0) 158) (blk_new (w := w.alloc (.cells (a8 p0 p1 p2 p3 p4 p5 p6 p7) 158)) (b := w.heap.size + 1) (o := .cells (K.map uc32).toArray 156) (by simp)))
  have b2 := blk_old (o := .cells (((List.replicate 64 (0 : Int)).map uc32).toArray) 156) (blk_new (w := (w.alloc (.cells (a8 p0 p1 p2 p3 p4 p5 p6 p7) 158)).alloc (.cells (K.map uc32).toArray 156)) (b := w.heap.size + 1 + 1) (o := .cells (a8 0 0 0 0 0 0 0 0) 158) (by simp))
  have b3 := blk_new (w := ((w.alloc (.cells (a8 p0 p1 p2 p3 p4 p5 p6 p7) 158)).alloc (.cells (K.map uc32).toArray 156)).alloc (.cells (a8 0 0 0 0 0 0 0 0) 158)) (b := w.heap.size + 1 + 1 + 1) (o := .cells (((List.replicate 64 (0 : Int)).map uc32).toArray) 156) (by simp)
  have X1 : Ext w ((((w.alloc (.cells (a8 p0 p1 p2 p3 p4 p5 p6 p7) 158)).alloc (.cells (K.map uc32).toArray 156)).alloc (.cells (a8 0 0 0 0 0 0 0 0) 158)).alloc (.cells (((List.replicate 64 (0 : Int)).map uc32).toArray) 156)) := ((((Ext.refl w).alloc _).alloc _).alloc _).alloc _
  generalize hG : w.heap.size = G at *
  go_loopg [8] 64 (fun g s8 wr => ∃ (t : Nat) (ws : List Int), t ≤ 16 ∧ 64 - t ≤ g ∧ s8 = .int .i64 t ∧ ws.length = 64 ∧ ws.take t = sched l t ∧ wr.heap[G + 1 + 1 + 1]? = some (.cells (ws.map uc32).toArray 156 (0, 0)) ∧
    wr.heap[G]? = some (.cells (a8 p0 p1 p2 p3 p4 p5 p6 p7) 158 (0, 0)) ∧ wr.heap[G + 1]? = some (.cells (K.map uc32).toArray 156 (0, 0)) ∧ wr.heap[G + 1 + 1]? = some (.cells (a8 0 0 0 0 0 0 0 0) 158 (0, 0)) ∧ Ext w wr)
  case atStart => exact ⟨0, List.replicate 64 0, Nat.zero_le _, by omega, rfl, rfl, rfl, b3, b0, b1, b2, X1⟩
  case round =>
    obtain ⟨t, ws, ht, hg, rfl, hwl, hws, hgw, hb0, hb1, hb2, xr⟩ := hrel
    by_cases hlt : t < 16
    · --DEV<
      obtain ⟨o, ho⟩ : ∃ o : Nat, o = 4 * t := ⟨_, rfl⟩
      have h4 : (4 : Int) * (t : Int) = (o : Int) := by omega
      have hcut := (hv.ext xr).cut o (o + 4) (by omega) (by omega)
      rw [if_neg (by omega), show o + 4 - o = 4 from by omega, Nat.mul_one] at hcut
      have hnb : (num ((l.drop o).take 4) : Int) < 4294967296 := by have := num_small ((l.drop o).take 4) 4 (by rw [List.length_take]; omega); omega
      have HCUT := Lib.hid hcut
      have ho64 : o + 4 ≤ 64 := by omega
      have HO := Lib.hid ho
      clear hcut ho
      have c1 := cell_uc hgw (i := t) (by omega)
      have f1 := block_free hgw t
      generalize ws.getD t 0 = x0 at *
      have HWS := Lib.hid hws
      have HGW := Lib.hid hgw
      have HB0 := Lib.hid hb0
      have HB1 := Lib.hid hb1
      have HB2 := Lib.hid hb2
      have HV := Lib.hid hv
      clear hws hgw hb0 hb1 hb2 b0 b1 b2 b3 hv
      have HNB := Lib.hid hnb
      clear hnb
      have hlt' : ((t : Int) < 16) := by omega
      go_wp2_with fail
      refine Calls.mono (refNumber _ _ _ HCUT.out (by rw [List.length_take]; omega)) ?_
      rintro e w5 ⟨rfl, rfl⟩
      have hnb := HNB.out
      clear HNB
      generalize hz : num ((l.drop o).take 4) = z at *
      have HZ := Lib.hid hz
      clear hz
      go_wp2_with fail
      go_roundg (64 - (t + 1))
      case measure => omega
      case rel =>
        have hst : (ws.set t (z : Int)).take (t + 1) = sched l (t + 1) := by
          rw [sched, if_pos hlt, ← HWS.out, List.take_add_one, List.getElem?_set_self (by omega), List.take_set_of_le (Nat.le_refl t), ← HO.out, HZ.out]
          rfl
        have hg3 := block_setCell HGW.out (i := t) (uc32 (z : Int))
        rw [map_set] at hg3
        have XS := xr.size
        exact ⟨t + 1, ws.set t (z : Int), by omega, by omega, by go_num, by simp [hwl], hst, hg3, set_other HB0.out (by omega), set_other HB1.out (by omega), set_other HB2.out (by omega), xr.setCell (p := ⟨_, _, none⟩) (by simp only; omega) _⟩
    --DEV>
    · have : t = 16 := by omega
      subst this
      have HV := Lib.hid hv
      clear hv b0 b1 b2 b3 X1
      go_wp2_with fail
      go_loopg [9] 64 (fun g s9 wr => ∃ (k : Nat) (ws : List Int), k ≤ 48 ∧ 64 - k ≤ g ∧ s9 = .int .i64 ((k + 16 : Nat) : Int) ∧ ws.length = 64 ∧ ws.take (k + 16) = sched l (k + 16) ∧ wr.heap[G + 1 + 1 + 1]? = some (.cells (ws.map uc32).toArray 156 (0, 0)) ∧
        wr.heap[G]? = some (.cells (a8 p0 p1 p2 p3 p4 p5 p6 p7) 158 (0, 0)) ∧ wr.heap[G + 1]? = some (.cells (K.map uc32).toArray 156 (0, 0)) ∧ wr.heap[G + 1 + 1]? = some (.cells (a8 0 0 0 0 0 0 0 0) 158 (0, 0)) ∧ Ext w wr)
      case atStart => exact ⟨0, ws, Nat.zero_le _, by omega, rfl, hwl, hws, hgw, hb0, hb1, hb2, xr⟩
      case round =>
        obtain ⟨k, ws, hk, hg, rfl, hwl, hws, hgw, hb0, hb1, hb2, xr⟩ := hrel
        by_cases hlt : k < 48
        · --DEV<
          have hwst : wstep (ws.take (k + 16)) (k + 16) = (sig1 ws[k + 14] + ws[k + 9] + sig0 ws[k + 1] + ws[k]) % 4294967296 := by
            unfold wstep
            rw [show k + 16 - 2 = k + 14 from by omega, show k + 16 - 7 = k + 9 from by omega, show k + 16 - 15 = k + 1 from by omega, show k + 16 - 16 = k from by omega,
              getD_take (by omega) (by omega), getD_take (by omega) (by omega), getD_take (by omega) (by omega), getD_take (by omega) (by omega)]
          have HST := Lib.hid hwst
          have c15 : wr.cell? ⟨G + 1 + 1 + 1, k + 1, none⟩ = some (.int .u32 ws[k + 1]) := by rw [block_cell hgw]; simp [uc32]
          generalize ws[k + 1] = x15 at *
          clear hwst
          have HWS := Lib.hid hws
          clear hws
          go_wp2_with fail
          go_quiet (first
            | (go_at_call_has 147 (Value.int IntKind.u64 7); exact quiet_same (refRightN _ _ 7 (by omega) (by omega)))
            | (go_at_call_has 147 (Value.int IntKind.u64 18); exact quiet_same (refRightN _ _ 18 (by omega) (by omega))))
          have xa := (Ext.refl wr).drewN nq
          have hgw := xa.keeps hgw
          have hb0 := xa.keeps hb0
          have hb1 := xa.keeps hb1
          have hb2 := xa.keeps hb2
          have xr := xr.trans xa
          generalize wr.drewN nq = wa at *
          clear c15
          have c2 : wa.cell? ⟨G + 1 + 1 + 1, k + 14, none⟩ = some (.int .u32 ws[k + 14]) := by rw [block_cell hgw]; simp [uc32]
          generalize ws[k + 14] = x2 at *
          go_wp2_with fail
          go_quiet (first
            | (go_at_call_has 147 (Value.int IntKind.u64 17); exact quiet_same (refRightN _ _ 17 (by omega) (by omega)))
            | (go_at_call_has 147 (Value.int IntKind.u64 19); exact quiet_same (refRightN _ _ 19 (by omega) (by omega))))
          have xb := (Ext.refl wa).drewN nq
          have hgw := xb.keeps hgw
          have hb0 := xb.keeps hb0
          have hb1 := xb.keeps hb1
          have hb2 := xb.keeps hb2
          have xr := xr.trans xb
          generalize wa.drewN nq = wb at *
          clear c2
          have c7 : wb.cell? ⟨G + 1 + 1 + 1, k + 9, none⟩ = some (.int .u32 ws[k + 9]) := by rw [block_cell hgw]; simp [uc32]
          have c16 : wb.cell? ⟨G + 1 + 1 + 1, k, none⟩ = some (.int .u32 ws[k]) := by rw [block_cell hgw]; simp [uc32]
          have c0 : wb.cell? ⟨G + 1 + 1 + 1, k + 16, none⟩ = some (.int .u32 ws[k + 16]) := by rw [block_cell hgw]; simp [uc32]
          have f0 := block_free hgw (k + 16)
          generalize ws[k + 9] = x7 at *
          generalize ws[k] = x16 at *
          generalize ws[k + 16] = x0 at *
          have HGW := Lib.hid hgw
          have HB0 := Lib.hid hb0
          have HB1 := Lib.hid hb1
          have HB2 := Lib.hid hb2
          clear hgw hb0 hb1 hb2
          go_wp2_with fail
          go_region
          all_goals go_wp2_with fail
          go_roundg (64 - (k + 1))
          case measure => omega
          case rel =>
            have hv : (bits BinOp.xor IntKind.u32 (bits BinOp.xor IntKind.u32 (rotr 17 x2) (rotr 19 x2)) (x2 / 1024) + x7 +
                bits BinOp.xor IntKind.u32 (bits BinOp.xor IntKind.u32 (rotr 7 x15) (rotr 18 x15)) (x15 / 8) + x16) % 4294967296 = wstep (ws.take (k + 16)) (k + 16) := HST.out.symm
            rw [hv]
            generalize hz : wstep (ws.take (k + 16)) (k + 16) = z at *
            have hst : (ws.set (k + 16) z).take (k + 16 + 1) = sched l (k + 16 + 1) := by
              rw [sched, if_neg (by omega), ← HWS.out, hz, List.take_add_one, List.getElem?_set_self (by omega), List.take_set_of_le (Nat.le_refl _)]
              rfl
            rw [show k + 16 + 1 = k + 1 + 16 from by omega] at hst
            have hg3 := block_setCell HGW.out (i := k + 16) (uc32 z)
            rw [map_set] at hg3
            have XS := xr.size
            exact ⟨k + 1, ws.set (k + 16) z, by omega, by omega, by go_num, by simp [hwl], hst, ((Ext.refl _).drew).keeps hg3, ((Ext.refl _).drew).keeps (set_other HB0.out (by omega)), ((Ext.refl _).drew).keeps (set_other HB1.out (by omega)), ((Ext.refl _).drew).keeps (set_other HB2.out (by omega)), (xr.setCell (p := ⟨_, _, none⟩) (by simp only; omega) _).drew⟩
        --DEV>
        · have : k = 48 := by omega
          subst this
          rw [List.take_of_length_le (by omega)] at hws
          obtain ⟨d0, d1, d2, d3, d4, d5, d6, d7⟩ := c8 hb0
          have HWS := Lib.hid hws
          clear hws
          go_wp2_with fail
          go_quiet (fail)
          go_wp2_with fail
          have xq := (Ext.refl wr).drewN nq
          have hgw := xq.keeps hgw
          have hb0 := xq.keeps hb0
          have hb1 := xq.keeps hb1
          have hb2 := xq.keeps hb2
          have xr := xr.trans xq
          generalize wr.drewN nq = wc at *
          clear d0 d1 d2 d3 d4 d5 d6 d7
          go_loopg [19, 18, 17, 16, 15, 14, 13, 12, 20] 64 (fun g s19 s18 s17 s16 s15 s14 s13 s12 s20 wr => ∃ (t : Nat) (q : S8), t ≤ 64 ∧ 64 - t ≤ g ∧ s20 = .int .i64 t ∧ s12 = .int .u32 q.a ∧ s13 = .int .u32 q.b ∧ s14 = .int .u32 q.c ∧ s15 = .int .u32 q.d ∧ s16 = .int .u32 q.e ∧ s17 = .int .u32 q.f ∧ s18 = .int .u32 q.g ∧ s19 = .int .u32 q.h ∧
            q = rounds K ws ⟨p0, p1, p2, p3, p4, p5, p6, p7⟩ t ∧ Ext wc wr)
          case atStart => exact ⟨0, ⟨p0, p1, p2, p3, p4, p5, p6, p7⟩, Nat.zero_le _, by omega, rfl, rfl, rfl, rfl, rfl, rfl, rfl, rfl, rfl, rfl, Ext.refl _⟩
          case round =>
            obtain ⟨t, q, ht, hg, rfl, rfl, rfl, rfl, rfl, rfl, rfl, rfl, rfl, hq, xq⟩ := hrel
            have HQ := Lib.hid hq
            clear hq
            by_cases hlt : t < 64
            · --DEV<
              obtain ⟨q0, q1, q2, q3, q4, q5, q6, q7⟩ := q
              have kt := xq.cell (cell_uc hb1 (i := t) (by omega))
              have wt := xq.cell (cell_uc hgw (i := t) (by omega))
              generalize hkk : K.getD t 0 = kk at *
              generalize hww : ws.getD t 0 = ww at *
              have HKK := Lib.hid hkk.symm
              have HWW := Lib.hid hww.symm
              clear hkk hww
              simp only
              go_wp2_with fail
              go_quiet (first
                | (go_at_call_has 147 (Value.int IntKind.u64 6); exact quiet_same (refRightN _ _ 6 (by omega) (by omega)))
                | (go_at_call_has 147 (Value.int IntKind.u64 11); exact quiet_same (refRightN _ _ 11 (by omega) (by omega)))
                | (go_at_call_has 147 (Value.int IntKind.u64 25); exact quiet_same (refRightN _ _ 25 (by omega) (by omega))))
              have hrn : rnd kk ww ⟨q0, q1, q2, q3, q4, q5, q6, q7⟩ = ⟨(t1of kk ww ⟨q0, q1, q2, q3, q4, q5, q6, q7⟩ + t2of ⟨q0, q1, q2, q3, q4, q5, q6, q7⟩) % 4294967296, q0, q1, q2, (q3 + t1of kk ww ⟨q0, q1, q2, q3, q4, q5, q6, q7⟩) % 4294967296, q4, q5, q6⟩ := rfl
              simp only [t1of, t2of] at hrn
              go_wp2_with fail
              generalize (q7 + bits BinOp.xor IntKind.u32 (bits BinOp.xor IntKind.u32 (rotr 6 q4) (rotr 11 q4)) (rotr 25 q4) +
                bits BinOp.xor IntKind.u32 (bits BinOp.and IntKind.u32 q4 q5) (bits BinOp.and IntKind.u32 (bits BinOp.xor IntKind.u32 IntKind.u32.max q4) q6) + kk + ww) % 4294967296 = T1 at *
              refine Calls.mono (refRightN _ q0 2 (by omega) (by omega)) ?_
              rintro e w6 ⟨rfl, rfl⟩
              go_wp2_with fail
              refine Calls.mono (refRightN _ q0 13 (by omega) (by omega)) ?_
              rintro e w7 ⟨rfl, rfl⟩
              go_wp2_with fail
              refine Calls.mono (refRightN _ q0 22 (by omega) (by omega)) ?_
              rintro e w8 ⟨rfl, rfl⟩
              have HRN := Lib.hid hrn
              clear hrn
              go_wp2_with fail
              go_roundg (64 - (t + 1))
              case measure => omega
              case rel => exact ⟨t + 1, rnd kk ww ⟨q0, q1, q2, q3, q4, q5, q6, q7⟩, by omega, by omega, by go_num, by rw [HRN.out], by rw [HRN.out], by rw [HRN.out], by rw [HRN.out], by rw [HRN.out], by rw [HRN.out], by rw [HRN.out], by rw [HRN.out], rounds_step HQ.out HKK.out HWW.out, xq.drewN _⟩
            --DEV>
            · have : t = 64 := by omega
              subst this
              have hb0 := xq.keeps hb0
              have hb2 := xq.keeps hb2
              have xr := xr.trans xq
              obtain ⟨d0, d1, d2, d3, d4, d5, d6, d7⟩ := c8 hb0
              obtain ⟨f0, f1, f2, f3, f4, f5, f6, f7⟩ := f8 hb2
              obtain ⟨z0, z1, z2, z3, z4, z5, z6, z7⟩ := c8 hb2
              have hres : addS ⟨p0, p1, p2, p3, p4, p5, p6, p7⟩ q = BB := by rw [← HBB.out]; unfold blockS; rw [HQ.out, ← HWS.out, HK.out]
              obtain ⟨q0, q1, q2, q3, q4, q5, q6, q7⟩ := q
              simp only [addS] at hres
              clear HBB HQ
              subst hres
              simp only
              have xg := up8_ext (g := G + 1 + 1) (y0 := .int .u32 ((p0 + q0) % 4294967296)) (y1 := .int .u32 ((p1 + q1) % 4294967296)) (y2 := .int .u32 ((p2 + q2) % 4294967296)) (y3 := .int .u32 ((p3 + q3) % 4294967296)) (y4 := .int .u32 ((p4 + q4) % 4294967296)) (y5 := .int .u32 ((p5 + q5) % 4294967296)) (y6 := .int .u32 ((p6 + q6) % 4294967296)) (y7 := .int .u32 ((p7 + q7) % 4294967296)) xr (by omega)
              have hup := up8 (y0 := (p0 + q0) % 4294967296) (y1 := (p1 + q1) % 4294967296) (y2 := (p2 + q2) % 4294967296) (y3 := (p3 + q3) % 4294967296) (y4 := (p4 + q4) % 4294967296) (y5 := (p5 + q5) % 4294967296) (y6 := (p6 + q6) % 4294967296) (y7 := (p7 + q7) % 4294967296) hb2
              clear hb0 hb1 hb2
              go_wp2
              obtain ⟨k0, k1, k2, k3, k4, k5, k6, k7⟩ := c8 hup
              clear z0 z1 z2 z3 z4 z5 z6 z7 d0 d1 d2 d3 d4 d5 d6 d7 f0 f1 f2 f3 f4 f5 f6 f7 hup
              refine bodyPost_ret (v := .agg (a8 ((p0 + q0) % 4294967296) ((p1 + q1) % 4294967296) ((p2 + q2) % 4294967296) ((p3 + q3) % 4294967296) ((p4 + q4) % 4294967296) ((p5 + q5) % 4294967296) ((p6 + q6) % 4294967296) ((p7 + q7) % 4294967296))) ?_ ?_ ?_
              rotate_left
              · rfl
              · exact ⟨rfl, xg⟩
              simp [results, Tryz.results116, go_sem, k0, k1, k2, k3, k4, k5, k6, k7, a8]
end Go.Proofs.YtpadfabjihaapaaGreatDoor
