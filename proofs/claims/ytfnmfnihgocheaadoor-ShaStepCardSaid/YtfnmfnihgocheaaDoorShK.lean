/- The walk of the statement ShaStep. -/
import Derived.Test.YtfnmfnihgocheaaDoorShI
namespace Go.Proofs.YtfnmfnihgocheaaDoor
open Go.RowKit
set_option linter.unusedVariables false
set_option linter.unusedSimpArgs false

theorem padL_take (l : List UInt8) : (padL l).take l.length = l := by
  unfold padL
  rw [List.append_assoc, List.append_assoc, List.take_left]

set_option maxHeartbeats 4000000 in
set_option maxRecDepth 100000 in
theorem walkShaStep (w : World) (v : Value) (l : List UInt8) (h : IsB w v l) (hK : Tabs w) :
    Calls Tryd.prog 6 #[v] w fun e w' => e = .returned (.bool true) ∧ Below w.heap.size w w' := by
  have hx := h
  obtain ⟨ao, cap, rfl, b1, m1, z1, g1⟩ := h.opened
  clear z1 g1 h
  go_enter Tryd.func6, Tryd.ntmps6
  go_wp2_with fail
  refine Calls.mono (wakes03 _ hK) ?_
  rintro e w1 ⟨rfl, x1⟩
  by_cases hlen : l.length > 3000
  · go_wp2
    go_ret
    exact ⟨rfl, x1⟩
  · go_wp2_with fail
    refine Calls.mono (shaStart _ (hK.ext x1)) ?_
    rintro e w2 ⟨rfl, x2⟩
    have hcs : startS.cs = a8 startS.a startS.b startS.c startS.d startS.e startS.f startS.g startS.h := rfl
    rw [hcs, a8]
    clear hcs
    go_wp2_with fail
    refine Calls.mono (shaPad _ _ l (hx.ext (x1.trans x2)) (by omega)) ?_
    rintro e w3 ⟨v3, rfl, own3, x3⟩
    have X3 := (x1.trans x2).trans x3
    have hp := IsB.of_owns own3
    have hb3 : ∀ b o n c, v3 = .slice (some ⟨b, o, none⟩) n c → b < w3.heap.size := fun b o n c h => (own3.lt b (by rw [h]; rfl)).2
    have hPl : (padL l).length % 64 = 0 ∧ (padL l).length ≤ l.length + 72 ∧ l.length < (padL l).length := by
      rw [padL_len]; have h1 := padK_end l.length; have h2 := padK_le l.length; omega
    have hPt := padL_take l
    obtain ⟨R, hRR⟩ : ∃ R, R = shaL l := ⟨_, rfl⟩
    have hRl : R.length = 32 := by rw [hRR]; exact shaL_len l
    have hR : R = digL (sumS (padL l) ((padL l).length / 64)) := hRR
    have HRR := Lib.hid hRR
    clear hRR
    generalize padL l = P at *
    obtain ⟨nb, hnb⟩ : ∃ nb, P.length = 64 * nb := ⟨P.length / 64, by omega⟩
    rw [show P.length / 64 = nb from by omega] at hR
    have HR := Lib.hid hR
    clear hR own3
    obtain ⟨ao2, cap2, rfl, b2, m2, z2, g2⟩ := hp.opened
    obtain ⟨pb, o, rfl, -⟩ := g2 0 (by omega)
    have hne := hb3 _ _ _ _ rfl
    have G2 := Lib.hid g2
    clear z2 g2 hb3
    obtain ⟨N, hN⟩ : ∃ N, P.length = N := ⟨_, rfl⟩
    rw [hN] at hPl b2 hp ⊢
    have HN := Lib.hid hN
    have HNB := Lib.hid (show N = 64 * nb from by omega)
    clear hnb hN
    obtain ⟨n1, n2, n3⟩ := hPl
    have n4 : ((N : Int) % 64 != 0) = false := by rw [bne_eq_false_iff_eq]; omega
    have hcut := hp.cut 0 l.length (by omega) (by omega)
    rw [List.drop_zero, Nat.sub_zero, hPt] at hcut
    have hcut : IsB w3 (.slice (some ⟨pb, o, none⟩) l.length cap2) l := by
      rw [if_neg (by omega), Nat.sub_zero] at hcut
      simpa [Addr.add_lit] using hcut
    have HC := Lib.hid hcut
    clear hcut hPt
    go_wp2_with fail
    refine Calls.mono (octetEqual _ _ _ l l (HC.out.ext ((Ext.refl w3).alloc (.cells (a8 startS.a startS.b startS.c startS.d startS.e startS.f startS.g startS.h) 29))) (hx.ext (X3.alloc (.cells (a8 startS.a startS.b startS.c startS.d startS.e startS.f startS.g startS.h) 29)))) ?_
    rintro e w4 ⟨rfl, h4⟩
    have x4 := toExt h4
    clear h4
    rw [beq_self_eq_true]
    have hh := x4.keeps (heap_alloc_new w3 (.cells (a8 startS.a startS.b startS.c startS.d startS.e startS.f startS.g startS.h) 29))
    have hp := (hp.ext ((Ext.refl w3).alloc (.cells (a8 startS.a startS.b startS.c startS.d startS.e startS.f startS.g startS.h) 29))).ext x4
    have X4 := (X3.alloc (.cells (a8 startS.a startS.b startS.c startS.d startS.e startS.f startS.g startS.h) 29)).trans x4
    have hH0 : w.heap.size ≤ w3.heap.size := X3.size
    generalize hHH : w3.heap.size = H at *
    go_wp2_with fail
    go_loopg [5] nb (fun g s5 wr => ∃ k : Nat, k ≤ nb ∧ nb - k ≤ g ∧ s5 = .int .i64 ((64 * k : Nat) : Int) ∧ wr.heap[H]? = some (.cells (sumS P k).cs 29 (0, 0)) ∧ Ext w wr ∧ IsB wr (.slice (some ⟨pb, o, none⟩) N cap2) P)
    case atStart => exact ⟨0, Nat.zero_le _, by omega, rfl, hh, X4, hp⟩
    case round =>
      obtain ⟨k, hkn, hg, rfl, hh, xr, hp⟩ := hrel
      generalize hq : sumS P k = q at *
      obtain ⟨m, hm⟩ : ∃ m, m = 64 * k := ⟨_, rfl⟩
      rw [← hm]
      by_cases hlt : k < nb
      · --DEV<
        have hmn : m + 64 ≤ N := by have := HNB.out; omega
        obtain ⟨q0, q1, q2, q3, q4, q5, q6, q7⟩ := q
        have hLl : ((P.drop m).take 64).length = 64 := by rw [List.length_take, List.length_drop, HN.out]; omega
        have hcut : IsB wr (.slice (some ⟨pb, o + m, none⟩) 64 (cap2 - m)) ((P.drop m).take 64) := by
          have h := hp.cut m (m + 64) (by omega) hmn
          rw [if_neg (by omega), show m + 64 - m = 64 from by omega, Nat.mul_one] at h
          simpa [Addr.add_lit] using h
        have hstep : sumS P (k + 1) = blockS (sumS P k) ((P.drop (64 * k)).take 64) := rfl
        rw [hq, ← hm] at hstep
        generalize (P.drop m).take 64 = L at *
        have hr0 : wr.rangeAt pb (o + m) (L.map bc) := by
          intro j v hj
          have hjl : j < L.length := by have := (List.getElem?_eq_some_iff.1 hj).1; simpa using this
          obtain ⟨_, _, e0, _, _, _, g0⟩ := hcut.opened
          simp only [Value.slice.injEq] at e0
          obtain ⟨rfl, _, _⟩ := e0
          obtain ⟨rb', ro', e1, e2⟩ := g0 j hjl
          simp only [Option.some.injEq, Addr.mk.injEq, and_true] at e1
          obtain ⟨rfl, rfl⟩ := e1
          rw [e2, ← hj]
          simp [bc, hjl]
        have HH := Lib.hid hh
        have HP := Lib.hid hp
        obtain ⟨B, hB⟩ : ∃ B, blockS ⟨q0, q1, q2, q3, q4, q5, q6, q7⟩ L = B := ⟨_, rfl⟩
        rw [hB] at hstep
        have HST := Lib.hid hstep
        obtain ⟨y0, y1, y2, y3, y4, y5, y6, y7⟩ := B
        have HB := Lib.hid hB
        have HM := Lib.hid hm
        have hu := Tryd.underlying30
        have hi : (Tryd.prog.info? 30).map (·.size) = some (L.map bc).length := by rw [List.length_map, hLl]; kernel_rfl
        have i1 : (0 : Int) ≤ (m : Int) := Int.natCast_nonneg _
        have i2 : (m : Int) + 64 ≤ 9223372036854775807 := by omega
        have i3 : (m : Int) + 64 ≤ (cap2 : Int) := by omega
        have hw : IntKind.i64.wrap ((m : Int) + 64) = (m : Int) + 64 := IntWalk.i64_in _ (by omega)
        have j1 : (0 : Int) ≤ (m : Int) + 64 := by omega
        have j2 : ((m : Int) + 64).toNat = m + 64 := by omega
        have i4 : ¬ cap2 = m := by omega
        have i5 : (m : Int) < (N : Int) := by omega
        have i6 : (N : Int) ≤ (cap2 : Int) := by omega
        have harr : ∀ W : World, (Instr.arrayAt 30 (.slice (some ⟨pb, o + m, none⟩) 64 (cap2 - m))).run Tryd.prog W = .ok (.pointer (some ⟨pb, o + m, none⟩)) W := fun W => run_arrayAt (w := W) 30 5 64 _ 64 _ Tryd.underlying30 (Nat.le_refl _)
        have hKr := hK.ext xr
        clear hh hp hcut hB hstep hq hm
        go_wp2_with fail
        refine wp_region_noPanic ?_
        refine wp_region_any (by kernel_rfl) ?_
        refine wpAny_take (i := 1) (v := ?v1) rfl (by kernel_rfl) (by kernel_rfl) (by kernel_rfl) (fun _ _ _ h => h) (Or.inl ⟨by rfl, ?hy1⟩) ?_
        case hy1 => intro w; go_simp; try with_reducible rfl
        simp only [Act.put, List.setIfInBounds_toArray, List.set_cons_zero, List.set_cons_succ, List.getElem_toArray, List.getElem_cons_zero, List.getElem_cons_succ]
        refine wpAny_take (i := 2) (v := ?v2) rfl (by kernel_rfl) (by kernel_rfl) (by kernel_rfl) (fun _ _ _ h => h) (Or.inl ⟨by rfl, ?hy2⟩) ?_
        case hy2 => intro w; go_simp; try with_reducible rfl
        simp only [Act.put, List.setIfInBounds_toArray, List.set_cons_zero, List.set_cons_succ, List.getElem_toArray, List.getElem_cons_zero, List.getElem_cons_succ]
        refine wpAny_take (i := 3) (v := ?v3) rfl (by kernel_rfl) (by kernel_rfl) (by kernel_rfl) (fun _ _ _ h => h) (Or.inl ⟨by rfl, ?hy3⟩) ?_
        case hy3 => intro w; go_simp; try with_reducible rfl
        simp only [Act.put, List.setIfInBounds_toArray, List.set_cons_zero, List.set_cons_succ, List.getElem_toArray, List.getElem_cons_zero, List.getElem_cons_succ]
        refine wpAny_take (i := 4) (v := ?v4) rfl (by kernel_rfl) (by kernel_rfl) (by kernel_rfl) (fun _ _ _ h => h) (Or.inl ⟨by rfl, ?hy4⟩) ?_
        case hy4 => intro w; go_simp; try with_reducible rfl
        simp only [Act.put, List.setIfInBounds_toArray, List.set_cons_zero, List.set_cons_succ, List.getElem_toArray, List.getElem_cons_zero, List.getElem_cons_succ]
        refine wpAny_take (i := 5) (v := ?v5) rfl (by kernel_rfl) (by kernel_rfl) (by kernel_rfl) (fun _ _ _ h => h) (Or.inl ⟨by rfl, ?hy5⟩) ?_
        case hy5 => intro w; go_simp; try with_reducible rfl
        simp only [Act.put, List.setIfInBounds_toArray, List.set_cons_zero, List.set_cons_succ, List.getElem_toArray, List.getElem_cons_zero, List.getElem_cons_succ]
        refine wpAny_take (i := 6) (v := ?v6) rfl (by kernel_rfl) (by kernel_rfl) (by kernel_rfl) (fun _ _ _ h => h) (Or.inl ⟨by rfl, ?hy6⟩) ?_
        case hy6 => intro w; go_simp; try with_reducible rfl
        simp only [Act.put, List.setIfInBounds_toArray, List.set_cons_zero, List.set_cons_succ, List.getElem_toArray, List.getElem_cons_zero, List.getElem_cons_succ]
        refine wpAny_all (rs := [0, 7]) (by kernel_rfl) (by simp) ?_
        intro i hi03
        have hi03 : i = 0 ∨ i = 7 := by simpa using hi03
        rcases hi03 with rfl | rfl
        rotate_left
        refine wpOp_run (i := 7) rfl ?hw ?_
        case hw => rfl
        refine wp_load_mid 30 (.tmp 50) rfl pb (o + m) ?hx (L.map bc) _ hr0 hu rfl hi ?_
        case hx => rfl
        simp only [Act.put, List.setIfInBounds_toArray, List.set_cons_zero, List.set_cons_succ, List.getElem_toArray, List.getElem_cons_zero, List.getElem_cons_succ]
        refine wpAny_all (rs := [0]) (by kernel_rfl) (by simp) ?_
        intro i hi3
        obtain rfl : i = 0 := by simpa using hi3
        refine wpOp_run (i := 0) rfl ?hw ?_
        case hw => rfl
        refine wp_load_row 29 (.tmp 3) rfl H ?hx 29 (a8 q0 q1 q2 q3 q4 q5 q6 q7) (0, 0) _ HH.out Tryd.underlying29 rfl (by kernel_rfl) ?_
        case hx => rfl
        simp only [Act.put, List.setIfInBounds_toArray, List.set_cons_zero, List.set_cons_succ, List.getElem_toArray, List.getElem_cons_zero, List.getElem_cons_succ]
        rotate_left
        refine wpOp_run (i := 0) rfl ?hw ?_
        case hw => rfl
        refine wp_load_row 29 (.tmp 3) rfl H ?hx 29 (a8 q0 q1 q2 q3 q4 q5 q6 q7) (0, 0) _ HH.out Tryd.underlying29 rfl (by kernel_rfl) ?_
        case hx => rfl
        simp only [Act.put, List.setIfInBounds_toArray, List.set_cons_zero, List.set_cons_succ, List.getElem_toArray, List.getElem_cons_zero, List.getElem_cons_succ]
        refine wpAny_all (rs := [7]) (by kernel_rfl) (by simp) ?_
        intro i hi3
        obtain rfl : i = 7 := by simpa using hi3
        refine wpOp_run (i := 7) rfl ?hw ?_
        case hw => rfl
        refine wp_load_mid 30 (.tmp 50) rfl pb (o + m) ?hx (L.map bc) _ hr0 hu rfl hi ?_
        case hx => rfl
        simp only [Act.put, List.setIfInBounds_toArray, List.set_cons_zero, List.set_cons_succ, List.getElem_toArray, List.getElem_cons_zero, List.getElem_cons_succ]
        all_goals (
          refine wpAny_all (rs := [8]) (by kernel_rfl) (by simp) ?_
          intro i hi3
          obtain rfl : i = 8 := by simpa using hi3
          refine wpOp_run rfl (by rfl) ?_
          go_simp
          refine Calls.mono (shaBlock _ q0 q1 q2 q3 q4 q5 q6 q7 L hLl ⟨fun i hi => hKr.k i hi, fun i hi => hKr.s i hi⟩) ?_
          rintro e w5 ⟨rfl, x5⟩
          have hh5 := x5.keeps HH.out
          refine wpAny_all (rs := [9]) (by kernel_rfl) (by simp) ?_
          intro i hi3
          obtain rfl : i = 9 := by simpa using hi3
          refine wpOp_run rfl (by rfl) (wp_store_row 29 _ _ rfl H (a8 y0 y1 y2 y3 y4 y5 y6 y7) (by rfl) (by rw [HB.out]; rfl) 29 _ hh5 (by kernel_rfl) rfl (by kernel_rfl) ?_)
          refine wpAny_done (by kernel_rfl) ?_ _
          refine NoPanic.normal ?_
          have hsr : (w5.setRow H (a8 y0 y1 y2 y3 y4 y5 y6 y7)).heap[H]? = some (.cells (a8 y0 y1 y2 y3 y4 y5 y6 y7) 29 (0, 0)) := setRow_heap _ _ _ _ _ _ hh5
          have x6 : Ext w (w5.setRow H (a8 y0 y1 y2 y3 y4 y5 y6 y7)) := (xr.drew.trans x5).grown grown_setRow (fun k hk => by cases hk; omega)
          have hp6 : IsB (w5.setRow H (a8 y0 y1 y2 y3 y4 y5 y6 y7)) (.slice (some ⟨pb, o, none⟩) N cap2) P := IsSl.setRow (HP.out.ext (((Ext.refl wr).drew).trans x5)) (fun b o' n c h => by simp only [Value.slice.injEq, Option.some.injEq, Addr.mk.injEq] at h; omega)
          generalize w5.setRow H (a8 y0 y1 y2 y3 y4 y5 y6 y7) = w6 at *
          go_wp2_with fail
          go_roundg (nb - (k + 1))
          case measure => omega
          case rel => exact ⟨k + 1, by omega, by omega, by have := HM.out; go_num, by rw [HST.out]; exact hsr, x6, hp6⟩)
      --DEV>
      · have hk : k = nb := by omega
        obtain rfl : m = N := by have := HNB.out; omega
        have hbd := sumS_bd P nb
        rw [← hk, hq] at hbd
        have hR2 : R = q.l.flatMap b32 := by rw [HR.out, ← hk, hq]; rfl
        have HR2 := Lib.hid hR2
        have hql : q.l.length = 8 := rfl
        obtain ⟨QA, hQA⟩ : ∃ QA, (q.l.map uc32).toArray = QA := ⟨_, rfl⟩
        have hQi : ∀ i, i < 8 → QA[i]? = some (.int .u32 (q.l.getD i 0)) := by
          intro i hi
          rw [← hQA, List.getD_eq_getElem?_getD, List.getElem?_eq_getElem (show i < q.l.length from hi)]
          simp [uc32, show i < q.l.length from hi]
        obtain ⟨q0, q1, q2, q3, q4, q5, q6, q7⟩ := q
        obtain ⟨d0, d1, d2, d3, d4, d5, d6, d7⟩ := c8 hh
        have hQA2 : #[Value.int .u32 q0, .int .u32 q1, .int .u32 q2, .int .u32 q3, .int .u32 q4, .int .u32 q5, .int .u32 q6, .int .u32 q7] = QA := hQA
        generalize (⟨q0, q1, q2, q3, q4, q5, q6, q7⟩ : S8).l = ql at *
        have HKX := Lib.hid hk
        clear hR2 HR hq hh hQA hk hm hp
        go_wp2_with fail
        clear hQA2 d0 d1 d2 d3 d4 d5 d6 d7
        go_loopg [6, 54] 8 (fun g s6 s54 wq => ∃ i : Nat, i ≤ 8 ∧ 8 - i ≤ g ∧ s54 = .int .i64 i ∧ IsB wq s6 ((ql.take i).flatMap b32) ∧ Ext wr wq)
        case atStart => exact ⟨0, Nat.zero_le _, by omega, rfl, IsB.nil _, Ext.refl _⟩
        case round =>
          obtain ⟨i, hi, hgi, rfl, hB, xq⟩ := hrel
          by_cases hlti : i < 8
          · have hqi := hQi i hlti
            have hbx := hbd (ql.getD i 0) (by rw [List.getD_eq_getElem?_getD, List.getElem?_eq_getElem (by omega)]; exact List.getElem_mem _)
            obtain ⟨x, hx'⟩ : ∃ x : Nat, ql.getD i 0 = x := ⟨(ql.getD i 0).toNat, by omega⟩
            have hxb : x < 4294967296 := by omega
            have hstep : (ql.take (i + 1)).flatMap b32 = (ql.take i).flatMap b32 ++ be x 4 := by
              have h1 : ql[i]? = some (x : Int) := by rw [← hx', List.getD_eq_getElem?_getD, List.getElem?_eq_getElem (by omega)]; rfl
              rw [List.take_add_one, h1, List.flatMap_append]
              simp [b32]
            have hlen4 : ((ql.take i).flatMap b32).length = 4 * i := by
              rw [flat_lenU b32 4 _ (fun _ _ => be_length _ _), List.length_take]; omega
            rw [hx'] at hqi
            have HS := Lib.hid hstep
            clear hstep hx' hbx
            generalize (ql.take i).flatMap b32 = O at *
            have hix := run_index_u32 wr QA i hlti _ hqi
            go_wp2_with fail
            refine Calls.mono (octetPut32 _ _ O x hB hxb (by omega)) ?_
            rintro e w7 ⟨v7, rfl, own7, x7⟩
            go_wp2_with fail
            go_roundg (8 - (i + 1))
            case measure => omega
            case rel => exact ⟨i + 1, by omega, by omega, by go_num, by rw [HS.out]; exact IsB.of_owns own7, xq.trans x7⟩
          · have : i = 8 := by omega
            subst this
            rw [List.take_of_length_le (by omega)] at hB
            have hRB : R = ql.flatMap b32 := HR2.out
            rw [← hRB] at hB
            obtain ⟨ao4, cap4, rfl, b4, m4, z4, g4⟩ := hB.opened
            rw [hRl] at b4 ⊢
            obtain ⟨rb, ro, rfl, -⟩ := g4 0 (by omega)
            have hrm : wr.rangeAt rb ro (R.map bc) := by
              intro j v hj
              have hjl : j < R.length := by have := (List.getElem?_eq_some_iff.1 hj).1; simpa using this
              obtain ⟨rb', ro', e1, e2⟩ := g4 j hjl
              simp only [Option.some.injEq, Addr.mk.injEq, and_true] at e1
              obtain ⟨rfl, rfl⟩ := e1
              rw [e2, ← hj]
              simp [bc, hjl]
            have hiId : (Tryd.prog.info? 25).map (·.size) = some (R.map bc).length := by rw [List.length_map, hRl]; kernel_rfl
            have harr2 : ∀ W : World, (Instr.arrayAt 25 (.slice (some ⟨rb, ro, none⟩) 32 cap4)).run Tryd.prog W = .ok (.pointer (some ⟨rb, ro, none⟩)) W := fun W => run_arrayAt (w := W) 25 5 32 _ 32 cap4 Tryd.underlying25 (Nat.le_refl _)
            clear g4 z4 hB hRB
            go_wp2_with fail
            refine wp_region_noPanic ?_
            refine wp_region_any (by kernel_rfl) ?_
            refine wpAny_take (i := 0) (v := ?u0) rfl (by kernel_rfl) (by kernel_rfl) (by kernel_rfl) (fun _ _ _ h => h) (Or.inl ⟨by rfl, ?ky0⟩) ?_
            case ky0 => intro w; go_simp; try with_reducible rfl
            simp only [Act.put, List.setIfInBounds_toArray, List.set_cons_zero, List.set_cons_succ, List.getElem_toArray, List.getElem_cons_zero, List.getElem_cons_succ]
            refine wpAny_take (i := 1) (v := ?u1) rfl (by kernel_rfl) (by kernel_rfl) (by kernel_rfl) (fun _ _ _ h => h) (Or.inl ⟨by rfl, ?ky1⟩) ?_
            case ky1 => intro w; go_simp; try with_reducible rfl
            simp only [Act.put, List.setIfInBounds_toArray, List.set_cons_zero, List.set_cons_succ, List.getElem_toArray, List.getElem_cons_zero, List.getElem_cons_succ]
            refine wpAny_take (i := 3) (v := ?u3) rfl (by kernel_rfl) (by kernel_rfl) (by kernel_rfl) (fun _ _ _ h => h) (Or.inl ⟨by rfl, ?ky3⟩) ?_
            case ky3 => intro w; go_simp; try with_reducible rfl
            simp only [Act.put, List.setIfInBounds_toArray, List.set_cons_zero, List.set_cons_succ, List.getElem_toArray, List.getElem_cons_zero, List.getElem_cons_succ]
            refine wpAny_all (rs := [2, 4]) (by kernel_rfl) (by simp) ?_
            intro i hi03
            have hi03 : i = 2 ∨ i = 4 := by simpa using hi03
            rcases hi03 with rfl | rfl
            rotate_left
            refine wpOp_run (i := 4) rfl (by rfl) ?_
            go_simp
            refine Calls.mono (shaSum _ _ l ((hx.ext (xr.trans xq)).ext (Ext.refl wr).drew) (by omega) ((hK.ext (xr.trans xq)).ext (Ext.refl wr).drew)) ?_
            rintro e w8 ⟨rfl, x8⟩
            rw [← HRR.out]
            refine wpAny_all (rs := [2]) (by kernel_rfl) (by simp) ?_
            intro i hi3
            obtain rfl : i = 2 := by simpa using hi3
            have hrm8 : w8.rangeAt rb ro (R.map bc) := fun j v hj => x8.cell (hrm j v hj)
            refine wpOp_run (i := 2) rfl ?kw ?_
            case kw => rfl
            refine wp_load_mid 25 (.tmp 62) rfl rb ro ?kx (R.map bc) _ hrm8 Tryd.underlying25 rfl hiId ?_
            case kx => rfl
            simp only [Act.put, List.setIfInBounds_toArray, List.set_cons_zero, List.set_cons_succ, List.getElem_toArray, List.getElem_cons_zero, List.getElem_cons_succ]
            refine wpAny_all (rs := [5]) (by kernel_rfl) (by simp) ?_
            intro i hi3
            obtain rfl : i = 5 := by simpa using hi3
            have heq := equal_id w8 R R hRl hRl
            rw [decide_eq_true rfl] at heq
            refine wpOp_run rfl (by rfl) ?_
            go_simp
            refine wpAny_all (rs := [6]) (by kernel_rfl) (by simp) ?_
            intro i hi3
            obtain rfl : i = 6 := by simpa using hi3
            refine wpOp_run rfl (by rfl) ?_
            go_simp
            refine wpAny_done (by kernel_rfl) ?_ _
            refine NoPanic.normal ?_
            go_wp2
            go_ret
            exact ⟨rfl, ((xr.trans xq).drew).trans x8⟩
            refine wpOp_run (i := 2) rfl ?kw ?_
            case kw => rfl
            refine wp_load_mid 25 (.tmp 62) rfl rb ro ?kx (R.map bc) _ hrm Tryd.underlying25 rfl hiId ?_
            case kx => rfl
            simp only [Act.put, List.setIfInBounds_toArray, List.set_cons_zero, List.set_cons_succ, List.getElem_toArray, List.getElem_cons_zero, List.getElem_cons_succ]
            refine wpAny_all (rs := [4]) (by kernel_rfl) (by simp) ?_
            intro i hi3
            obtain rfl : i = 4 := by simpa using hi3
            refine wpOp_run (i := 4) rfl (by rfl) ?_
            go_simp
            refine Calls.mono (shaSum _ _ l ((hx.ext (xr.trans xq)).ext (Ext.refl wr).drew) (by omega) ((hK.ext (xr.trans xq)).ext (Ext.refl wr).drew)) ?_
            rintro e w8 ⟨rfl, x8⟩
            rw [← HRR.out]
            refine wpAny_all (rs := [5]) (by kernel_rfl) (by simp) ?_
            intro i hi3
            obtain rfl : i = 5 := by simpa using hi3
            have heq := equal_id w8 R R hRl hRl
            rw [decide_eq_true rfl] at heq
            refine wpOp_run rfl (by rfl) ?_
            go_simp
            refine wpAny_all (rs := [6]) (by kernel_rfl) (by simp) ?_
            intro i hi3
            obtain rfl : i = 6 := by simpa using hi3
            refine wpOp_run rfl (by rfl) ?_
            go_simp
            refine wpAny_done (by kernel_rfl) ?_ _
            refine NoPanic.normal ?_
            go_wp2
            go_ret
            exact ⟨rfl, ((xr.trans xq).drew).trans x8⟩
end Go.Proofs.YtfnmfnihgocheaaDoor
