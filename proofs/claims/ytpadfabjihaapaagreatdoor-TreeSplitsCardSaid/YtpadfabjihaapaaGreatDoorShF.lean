/- The walk of the reference's Sum. -/
import Derived.Test.YtpadfabjihaapaaGreatDoorShC
import Derived.Test.YtpadfabjihaapaaGreatDoorShE
namespace Go.Proofs.YtpadfabjihaapaaGreatDoor
open Go.RowKit
set_option linter.unusedVariables false
set_option linter.unusedSimpArgs false

theorem flat_getU {α : Type} (c : α → List UInt8) (k : Nat) : ∀ (xs : List α), (∀ x ∈ xs, (c x).length = k) → ∀ (i : Nat) (hi : i < xs.length) (j : Nat), j < k → (xs.flatMap c)[i * k + j]? = (c xs[i])[j]?
  | [], _, i, hi, _, _ => by simp at hi
  | x :: xs, h, i, hi, j, hj => by
    have hx := h x (List.mem_cons_self ..)
    rw [List.flatMap_cons]
    cases i with
    | zero => rw [Nat.zero_mul, Nat.zero_add, List.getElem?_append_left (by omega)]; rfl
    | succ i =>
      rw [List.getElem?_append_right (by rw [hx, Nat.add_mul]; omega), hx, show (i + 1) * k + j - k = i * k + j from by rw [Nat.add_mul]; omega]
      exact flat_getU c k xs (fun y hy => h y (List.mem_cons_of_mem _ hy)) i (by simpa using hi) j hj

set_option maxHeartbeats 4000000 in
set_option maxRecDepth 100000 in
theorem refSum (w : World) (v : Value) (l : List UInt8) (h : IsB w v l) (hl : l.length ≤ 1099511627776) :
    Calls Tryz.prog 75 #[v] w fun e w' => e = .returned (.agg ((shaL l).map bc).toArray) ∧ Ext w w' := by
  have hx := h
  obtain ⟨ao, cap, rfl, b1, m1, z1, g1⟩ := h.opened
  clear z1 g1 h
  have hRD : shaL l = digL (sumS (padL l) ((padL l).length / 64)) := rfl
  generalize shaL l = R at hRD ⊢
  have HRD := Lib.hid hRD
  clear hRD
  go_enter Tryz.func75, Tryz.ntmps75
  go_wp2_with fail
  refine Calls.mono (refTable _) ?_
  rintro e w1 ⟨rfl, x1⟩
  have X1 := ((Ext.refl w).alloc _).trans x1
  obtain ⟨c0, hid, hc0⟩ : ∃ c0 : Array Value, w1.heap[w.heap.size]? = some (.cells c0 31 (0, 0)) ∧ c0.size = 32 := ⟨_, x1.keeps (heap_alloc_new w _), rfl⟩
  obtain ⟨KA, hKA⟩ : ∃ KA, (kTab.map uc32).toArray = KA := ⟨_, rfl⟩
  have hKAs : KA.size = 64 := by rw [← hKA]; kernel_rfl
  have hKAo : KA.all (·.oneCell') = true := by rw [← hKA]; kernel_rfl
  rw [hKA]
  have HKA := Lib.hid hKA
  clear hKA x1
  go_wp2_with (refine wpList_store_row rfl 156 (.tmp 3) (.tmp 9) rfl w1.heap.size KA (by rfl) (by rfl) 156 _ (heap_alloc_new _ _) (by rw [hKAs]; kernel_rfl) (by rw [hKAs]; rfl) hKAo ?_; rw [World.setRow_alloc_new])
  have X2 := ((X1.alloc (.cells KA 156)).alloc (.cells (a8 1779033703 3144134277 1013904242 2773480762 1359893119 2600822924 528734635 1541459225) 158))
  refine Calls.mono (refPad _ _ l (hx.ext X2) hl) ?_
  rintro e w2 ⟨v2, rfl, own2, x2⟩
  have hk := x2.keeps (blk_old (o := .cells (a8 1779033703 3144134277 1013904242 2773480762 1359893119 2600822924 528734635 1541459225) 158) (heap_alloc_new w1 (.cells KA 156)))
  have hh := x2.keeps (blk_new (w := w1.alloc (.cells KA 156)) (b := w1.heap.size + 1) (o := .cells (a8 1779033703 3144134277 1013904242 2773480762 1359893119 2600822924 528734635 1541459225) 158) (by simp))
  have hid := x2.keeps (blk_old (o := .cells (a8 1779033703 3144134277 1013904242 2773480762 1359893119 2600822924 528734635 1541459225) 158) (blk_old (o := .cells KA 156) hid))
  have hp := IsB.of_owns own2
  have X2 := X2.trans x2
  have hb2 : ∀ b o n c, v2 = .slice (some ⟨b, o, none⟩) n c → w1.heap.size + 2 ≤ b := fun b o n c h => by
    have := (own2.lt b (by rw [h]; rfl)).1
    simp at this
    omega
  have hPl : (padL l).length % 64 = 0 ∧ (padL l).length ≤ 2199023255552 := by
    rw [padL_len]; have h1 := padK_end l.length; have h2 := padK_le l.length; omega
  have hR := HRD.out
  generalize padL l = P at *
  obtain ⟨nb, hnb⟩ : ∃ nb, P.length = 64 * nb := ⟨P.length / 64, by omega⟩
  rw [show P.length / 64 = nb from by omega] at hR
  have HR := Lib.hid hR
  clear hR own2 HRD
  obtain ⟨ao2, cap2, rfl, b2, m2, z2, g2⟩ := hp.opened
  clear z2
  obtain ⟨N, hN⟩ : ∃ N, P.length = N := ⟨_, rfl⟩
  rw [hN] at hPl b2 hp hb2 ⊢
  have HN := Lib.hid hN
  have HNB := Lib.hid (show N = 64 * nb from by omega)
  clear hN
  have hlt2 : w.heap.size < w1.heap.size := by have := X1.size; have h := block_lt ‹w1.heap[w.heap.size]? = _›; exact h
  generalize hH : w1.heap.size = H at *
  have G2 := Lib.hid g2
  clear g2 x2 hnb
  have hb3 : ∀ b o n c, Value.slice ao2 N cap2 = .slice (some ⟨b, o, none⟩) n c → H + 1 < b := fun b o n c h => by have := hb2 b o n c h; omega
  clear hb2
  go_wp2_with fail
  generalize hH1 : H + 1 = H1 at *
  have hHH : H < H1 := by omega
  have HH1 := Lib.hid hH1
  clear hH1
  go_loopg [6] nb (fun g s6 wr => ∃ k : Nat, k ≤ nb ∧ nb - k ≤ g ∧ s6 = .int .i64 ((64 * k : Nat) : Int) ∧ wr.heap[H1]? = some (.cells (sumS P k).cs 158 (0, 0)) ∧ wr.heap[H]? = some (.cells KA 156 (0, 0)) ∧ wr.heap[w.heap.size]? = some (.cells c0 31 (0, 0)) ∧ Ext w wr ∧ IsB wr (.slice ao2 N cap2) P)
  case atStart => exact ⟨0, Nat.zero_le _, by omega, rfl, hh, hk, hid, X2, hp⟩
  case round =>
    obtain ⟨k, hkn, hg, rfl, hh, hk, hid, xr, hp⟩ := hrel
    generalize hq : sumS P k = q at *
    obtain ⟨m, hm⟩ : ∃ m, m = 64 * k := ⟨_, rfl⟩
    rw [← hm]
    by_cases hlt : k < nb
    · --DEV<
      have hmn : m + 64 ≤ N := by have := HNB.out; omega
      have hNb := hPl.2
      obtain ⟨pb, o, rfl, -⟩ := G2.out 0 (by rw [HN.out]; omega)
      have hne : H1 < pb := hb3 _ _ _ _ rfl
      obtain ⟨q0, q1, q2, q3, q4, q5, q6, q7⟩ := q
      have hLl : ((P.drop m).take 64).length = 64 := by rw [List.length_take, List.length_drop, HN.out]; omega
      have hcut : IsB wr (.slice (some ⟨pb, o + m, none⟩) 64 (cap2 - m)) ((P.drop m).take 64) := by
        have h := hp.cut m (m + 64) (by omega) hmn
        rw [if_neg (by omega), show m + 64 - m = 64 from by omega, Nat.mul_one] at h
        simpa [Addr.add_lit] using h
      have hstep : sumS P (k + 1) = blockS (sumS P k) ((P.drop (64 * k)).take 64) := rfl
      rw [hq, ← hm] at hstep
      generalize (P.drop m).take 64 = L at *
      have HH := Lib.hid hh
      have HK := Lib.hid hk
      have HID := Lib.hid hid
      have HP := Lib.hid hp
      have HCUT := Lib.hid hcut
      obtain ⟨B, hB⟩ : ∃ B, blockS ⟨q0, q1, q2, q3, q4, q5, q6, q7⟩ L = B := ⟨_, rfl⟩
      rw [hB] at hstep
      have HST := Lib.hid hstep
      obtain ⟨y0, y1, y2, y3, y4, y5, y6, y7⟩ := B
      have HB := Lib.hid hB
      have HM := Lib.hid hm
      have i1 : (0 : Int) ≤ (m : Int) := Int.natCast_nonneg _
      have i2 : (m : Int) + 64 ≤ 9223372036854775807 := by omega
      have i3 : (m : Int) + 64 ≤ (cap2 : Int) := by omega
      have hw : IntKind.i64.wrap ((m : Int) + 64) = (m : Int) + 64 := IntWalk.i64_in _ (by omega)
      have j1 : (0 : Int) ≤ (m : Int) + 64 := by omega
      have j2 : ((m : Int) + 64).toNat = m + 64 := by omega
      have i4 : ¬ cap2 = m := by omega
      have i5 : (m : Int) < (N : Int) := by omega
      have i6 : (N : Int) ≤ (cap2 : Int) := by omega
      clear hh hk hid hp hcut hB hstep hq hm
      go_wp2_with fail
      refine wp_region_noPanic ?_
      refine wp_region_any (by kernel_rfl) ?_
      refine wpAny_take (i := 1) (v := ?v1) rfl (by kernel_rfl) (by kernel_rfl) (by kernel_rfl) (fun _ _ _ h => h) (Or.inl ⟨by rfl, ?hy1⟩) ?_
      case hy1 => intro w; go_simp; try with_reducible rfl
      simp only [Act.put, List.setIfInBounds_toArray, List.set_cons_zero, List.set_cons_succ, List.getElem_toArray, List.getElem_cons_zero, List.getElem_cons_succ]
      refine wpAny_take (i := 2) (v := ?v2) rfl (by kernel_rfl) (by kernel_rfl) (by kernel_rfl) (fun _ _ _ h => h) (Or.inl ⟨by rfl, ?hy2⟩) ?_
      case hy2 => intro w; go_simp; try with_reducible rfl
      simp only [Act.put, List.setIfInBounds_toArray, List.set_cons_zero, List.set_cons_succ, List.getElem_toArray, List.getElem_cons_zero, List.getElem_cons_succ]
      refine wpAny_take (i := 3) (v := ?v3) rfl (by kernel_rfl) (by kernel_rfl) (by kernel_rfl) (fun _ _ _ h => h) (Or.inl ⟨by rfl, ?hy3⟩) ?_
      case hy3 => intro w; go_simp; try with_reducible rfl
      simp only [Act.put, List.setIfInBounds_toArray, List.set_cons_zero, List.set_cons_succ, List.getElem_toArray, List.getElem_cons_zero, List.getElem_cons_succ]
      refine wpAny_take (i := 4) (v := ?v4) rfl (by kernel_rfl) (by kernel_rfl) (by kernel_rfl) (fun _ _ _ h => h) (Or.inl ⟨by rfl, ?hy4⟩) ?_
      case hy4 => intro w; go_simp; try with_reducible rfl
      simp only [Act.put, List.setIfInBounds_toArray, List.set_cons_zero, List.set_cons_succ, List.getElem_toArray, List.getElem_cons_zero, List.getElem_cons_succ]
      refine wpAny_take (i := 5) (v := ?v5) rfl (by kernel_rfl) (by kernel_rfl) (by kernel_rfl) (fun _ _ _ h => h) (Or.inl ⟨by rfl, ?hy5⟩) ?_
      case hy5 => intro w; go_simp; try with_reducible rfl
      simp only [Act.put, List.setIfInBounds_toArray, List.set_cons_zero, List.set_cons_succ, List.getElem_toArray, List.getElem_cons_zero, List.getElem_cons_succ]
      have hiK : (Tryz.prog.info? 156).map (·.size) = some KA.size := by rw [hKAs]; kernel_rfl
      refine wpAny_all (rs := [0, 6]) (by kernel_rfl) (by simp) ?_
      intro i hi03
      have hi03 : i = 0 ∨ i = 6 := by simpa using hi03
      rcases hi03 with rfl | rfl
      rotate_left
      refine wpOp_run (i := 6) rfl ?hw ?_
      case hw => rfl
      refine wp_load_row 156 (.tmp 3) rfl H ?hx 156 KA (0, 0) _ HK.out Tryz.underlying156 rfl hiK ?_
      case hx => rfl
      simp only [Act.put, List.setIfInBounds_toArray, List.set_cons_zero, List.set_cons_succ, List.getElem_toArray, List.getElem_cons_zero, List.getElem_cons_succ]
      refine wpAny_all (rs := [0]) (by kernel_rfl) (by simp) ?_
      intro i hi3
      obtain rfl : i = 0 := by simpa using hi3
      refine wpOp_run (i := 0) rfl ?hw ?_
      case hw => rfl
      refine wp_load_row 158 (.tmp 4) rfl H1 ?hx 158 (a8 q0 q1 q2 q3 q4 q5 q6 q7) (0, 0) _ HH.out Tryz.underlying158 rfl (by kernel_rfl) ?_
      case hx => rfl
      simp only [Act.put, List.setIfInBounds_toArray, List.set_cons_zero, List.set_cons_succ, List.getElem_toArray, List.getElem_cons_zero, List.getElem_cons_succ]
      rotate_left
      refine wpOp_run (i := 0) rfl ?hw ?_
      case hw => rfl
      refine wp_load_row 158 (.tmp 4) rfl H1 ?hx 158 (a8 q0 q1 q2 q3 q4 q5 q6 q7) (0, 0) _ HH.out Tryz.underlying158 rfl (by kernel_rfl) ?_
      case hx => rfl
      simp only [Act.put, List.setIfInBounds_toArray, List.set_cons_zero, List.set_cons_succ, List.getElem_toArray, List.getElem_cons_zero, List.getElem_cons_succ]
      refine wpAny_all (rs := [6]) (by kernel_rfl) (by simp) ?_
      intro i hi3
      obtain rfl : i = 6 := by simpa using hi3
      refine wpOp_run (i := 6) rfl ?hw ?_
      case hw => rfl
      refine wp_load_row 156 (.tmp 3) rfl H ?hx 156 KA (0, 0) _ HK.out Tryz.underlying156 rfl hiK ?_
      case hx => rfl
      simp only [Act.put, List.setIfInBounds_toArray, List.set_cons_zero, List.set_cons_succ, List.getElem_toArray, List.getElem_cons_zero, List.getElem_cons_succ]
      all_goals (
        refine wpAny_all (rs := [7]) (by kernel_rfl) (by simp) ?_
        intro i hi3
        obtain rfl : i = 7 := by simpa using hi3
        refine wpOp_run rfl (by rfl) ?_
        rw [← HKA.out]
        go_simp
        refine Calls.mono (refBlock _ q0 q1 q2 q3 q4 q5 q6 q7 _ L hLl (HCUT.out.ext ((Ext.refl wr).drew))) ?_
        rintro e w5 ⟨rfl, x5⟩
        rw [HKA.out]
        have hh5 := x5.keeps HH.out
        have hk5 := x5.keeps HK.out
        have hid5 := x5.keeps HID.out
        refine wpAny_all (rs := [8]) (by kernel_rfl) (by simp) ?_
        intro i hi3
        obtain rfl : i = 8 := by simpa using hi3
        refine wpOp_run rfl (by rfl) (wp_store_row 158 _ _ rfl H1 (a8 y0 y1 y2 y3 y4 y5 y6 y7) (by rfl) (by rw [HB.out]; rfl) 158 _ hh5 (by kernel_rfl) rfl (by kernel_rfl) ?_)
        refine wpAny_done (by kernel_rfl) ?_ _
        refine NoPanic.normal ?_
        have hsr : (w5.setRow H1 (a8 y0 y1 y2 y3 y4 y5 y6 y7)).heap[H1]? = some (.cells (a8 y0 y1 y2 y3 y4 y5 y6 y7) 158 (0, 0)) := setRow_heap _ _ _ _ _ _ hh5
        have hkr : (w5.setRow H1 (a8 y0 y1 y2 y3 y4 y5 y6 y7)).heap[H]? = some (.cells KA 156 (0, 0)) := by rw [setRow_other _ _ _ _ (by omega)]; exact hk5
        have hidr : (w5.setRow H1 (a8 y0 y1 y2 y3 y4 y5 y6 y7)).heap[w.heap.size]? = some (.cells c0 31 (0, 0)) := by rw [setRow_other _ _ _ _ (by omega)]; exact hid5
        have x6 : Ext w (w5.setRow H1 (a8 y0 y1 y2 y3 y4 y5 y6 y7)) := (xr.drew.trans x5).grown grown_setRow (fun k hk => by cases hk; omega)
        have hp6 : IsB (w5.setRow H1 (a8 y0 y1 y2 y3 y4 y5 y6 y7)) (.slice (some ⟨pb, o, none⟩) N cap2) P := IsSl.setRow (HP.out.ext (((Ext.refl wr).drew).trans x5)) (fun b o' n c h => by simp only [Value.slice.injEq, Option.some.injEq, Addr.mk.injEq] at h; omega)
        generalize w5.setRow H1 (a8 y0 y1 y2 y3 y4 y5 y6 y7) = w6 at *
        go_wp2_with fail
        go_roundg (nb - (k + 1))
        case measure => omega
        case rel => exact ⟨k + 1, by omega, by omega, by have := HM.out; go_num, by rw [HST.out]; exact hsr, hkr, hidr, x6, hp6⟩)
    --DEV>
    · have hk : k = nb := by omega
      obtain rfl : m = N := by have := HNB.out; omega
      have hbd := sumS_bd P nb
      rw [← hk, hq] at hbd
      have hR2 : R = q.l.flatMap b32 := by rw [HR.out, ← hk, hq]; rfl
      have hlR : R.length = 32 := by rw [hR2, flat_lenU b32 4 _ (fun _ _ => be_length _ _)]; rfl
      have HR2 := Lib.hid hR2
      have HKX := Lib.hid hk
      have HMX := Lib.hid hm
      clear hR2 HR hq hk hp hm
      go_wp2_with fail
      have hD := heap_alloc_new wr (.cells ((List.replicate 32 (0 : UInt8)).map bc).toArray 31)
      have hh := blk_old (o := .cells ((List.replicate 32 (0 : UInt8)).map bc).toArray 31) hh
      have hid := blk_old (o := .cells ((List.replicate 32 (0 : UInt8)).map bc).toArray 31) hid
      have xr := xr.alloc (.cells ((List.replicate 32 (0 : UInt8)).map bc).toArray 31)
      have hD1 : H1 < wr.heap.size := block_lt ‹wr.heap[H1]? = _›
      generalize hDD : wr.heap.size = D at *
      go_loopg [8] 32 (fun g s8 wq => ∃ (i : Nat) (cs : List UInt8), i ≤ 32 ∧ 32 - i ≤ g ∧ s8 = .int .i64 i ∧ cs.length = 32 ∧ cs.take i = R.take i ∧ wq.heap[D]? = some (.cells (cs.map bc).toArray 31 (0, 0)) ∧ wq.heap[H1]? = some (.cells q.cs 158 (0, 0)) ∧ wq.heap[w.heap.size]? = some (.cells c0 31 (0, 0)) ∧ Ext w wq)
      case atStart => exact ⟨0, List.replicate 32 0, Nat.zero_le _, by omega, rfl, rfl, rfl, hD, hh, hid, xr⟩
      case round =>
        clear hD hh hid xr
        obtain ⟨i, cs, hi, hgi, rfl, hcl, htk, hD, hh, hid, xq⟩ := hrel
        by_cases hlti : i < 32
        · obtain ⟨a, ha⟩ : ∃ a, a = i / 4 := ⟨_, rfl⟩
          obtain ⟨b, hb⟩ : ∃ b, b = i % 4 := ⟨_, rfl⟩
          have hia : i = a * 4 + b := by omega
          have ha8 : a < 8 := by omega
          have hb4 : b < 4 := by omega
          have hc := cell_uc (ls := q.l) (i := a) hh ha8
          obtain ⟨x, hx⟩ : ∃ x : Nat, q.l.getD a 0 = x := by
            have := hbd (q.l.getD a 0) (by rw [List.getD_eq_getElem?_getD, List.getElem?_eq_getElem (show a < q.l.length from ha8)]; exact List.getElem_mem _)
            exact ⟨(q.l.getD a 0).toNat, by omega⟩
          have hRi : R[i]? = some (UInt8.ofNat (x / 2 ^ (8 * (4 - 1 - b)))) := by
            rw [HR2.out, hia, flat_getU b32 4 _ (fun _ _ => be_length _ _) a (show a < q.l.length from ha8) b hb4]
            have h1 : q.l[a]'(show a < q.l.length from ha8) = (x : Int) := by rw [← hx, List.getD_eq_getElem?_getD, List.getElem?_eq_getElem (show a < q.l.length from ha8)]; rfl
            rw [h1]
            show (be (x : Int).toNat 4)[b]? = _
            rw [Int.toNat_natCast, be_get _ _ _ hb4]
          rw [hx] at hc
          have hcD : wr.cell? ⟨D, i, none⟩ = some (.int .u8 (cs[i].toNat : Int)) := by rw [block_cell hD]; simp [bc, show i < cs.length from by omega]
          have hfD := block_free hD i
          have e1 : ((i : Int)).tdiv 4 = (a : Int) := by rw [Int.tdiv_eq_ediv_of_nonneg (by omega)]; omega
          have e2 : ((i : Int)).tmod 4 = (b : Int) := by rw [Int.tmod_eq_emod_of_nonneg (by omega)]; omega
          have e3 : ((i : Int)) / 4 = (a : Int) := by omega
          have e4 : ((i : Int)) % 4 = (b : Int) := by omega
          have hiR : i < R.length := by omega
          have hval : bc (R[i]) = .int .u8 ((x : Int) / 2 ^ (8 * (4 - 1 - b)) % 256) := by
            rw [List.getElem?_eq_getElem hiR] at hRi
            rw [Option.some.inj hRi, bc_ofNat, Int.natCast_ediv]
            simp
          have HVAL := Lib.hid hval
          have HT := Lib.hid htk
          generalize cs[i] = z at *
          clear hRi htk hx ha hb hia hval
          obtain rfl | rfl | rfl | rfl : b = 0 ∨ b = 1 ∨ b = 2 ∨ b = 3 := by omega
          all_goals (
            go_wp2_with fail
            go_roundg (32 - (i + 1))
            case measure => omega
            case rel =>
              have hval := HVAL.out
              simp only [Nat.reduceSub, Nat.reduceMul, Int.reducePow, Int.ediv_one, Nat.sub_zero, Nat.sub_self, Nat.mul_zero, Int.pow_zero] at hval
              rw [← hval]
              have hg0 := block_setCell hD (i := i) (bc R[i])
              rw [map_set] at hg0
              have e := xq.size
              refine ⟨i + 1, cs.set i R[i], by omega, by omega, by go_num, by simp [hcl], ?_, hg0, set_other hh (by omega), set_other hid (by omega), xq.setCell (p := ⟨_, _, none⟩) (by simp only; omega) _⟩
              rw [List.take_add_one, List.getElem?_set_self (by omega), List.take_set_of_le (Nat.le_refl i), HT.out, List.take_add_one, List.getElem?_eq_getElem hiR])
        · have : i = 32 := by omega
          subst this
          rw [List.take_of_length_le (by omega), List.take_of_length_le (by omega)] at htk
          subst htk
          have hsz : c0.size = (cs.map bc).toArray.size := by simp [hc0, hcl]
          have hiI : (Tryz.prog.info? 31).map (·.size) = some (cs.map bc).toArray.size := by rw [List.size_toArray, List.length_map, hcl]; kernel_rfl
          have hone : (cs.map bc).toArray.all (·.oneCell') = true := by rw [Array.all_eq_true_iff_forall_mem]; intro u hu; exact bc_one cs u (by simpa using hu)
          go_wp2_with (first
            | (refine wpList_load_row rfl 31 (.tmp 7) rfl D (by rfl) 31 (cs.map bc).toArray (0, 0) _ hD Tryz.underlying31 rfl hiI ?_)
            | (refine wpList_store_row rfl 31 (.tmp 2) (.tmp 43) rfl w.heap.size (cs.map bc).toArray (by rfl) (by rfl) 31 c0 hid hiI hsz hone ?_))
          have hfin : (wr.setRow w.heap.size (cs.map bc).toArray).heap[w.heap.size]? = some (.cells (cs.map bc).toArray 31 (0, 0)) := setRow_heap _ _ _ _ _ _ hid
          have xfin : Ext w (wr.setRow w.heap.size (cs.map bc).toArray) := xq.grown grown_setRow (fun k hk => by cases hk; exact Nat.le_refl _)
          exact bodyPost_ret (results_cell_row rfl _ _ w.heap.size _ _ _ _ (by rfl) hfin Tryz.underlying31 rfl hiI) rfl ⟨rfl, xfin⟩
end Go.Proofs.YtpadfabjihaapaaGreatDoor
