/- The walk of TreeSplits. -/
import Derived.Test.YtpadfabjihaapaaGreatDoorRpD
import Derived.Test.YtpadfabjihaapaaGreatDoorLdE
import Derived.Test.YtpadfabjihaapaaGreatDoorFlE
import Derived.Test.YtpadfabjihaapaaGreatDoorWtB
import Derived.Test.YtpadfabjihaapaaGreatDoorObSs
namespace Go.Proofs.YtpadfabjihaapaaGreatDoor
open Go.RowKit
set_option linter.unusedVariables false
set_option linter.unusedSimpArgs false

theorem new2set {w : World} {N : Nat} (hN : w.heap.size = N) {a1 c1 a2 c2 : Array Value} {t1 t2 : TypeId} : Ext w ((((w.alloc (.cells a1 t1)).alloc (.cells a2 t2)).setRow N c1).setRow (N + 1) c2)
    ∧ ((((w.alloc (.cells a1 t1)).alloc (.cells a2 t2)).setRow N c1).setRow (N + 1) c2).heap[N]? = some (.cells c1 t1 (0, 0)) ∧ ((((w.alloc (.cells a1 t1)).alloc (.cells a2 t2)).setRow N c1).setRow (N + 1) c2).heap[N + 1]? = some (.cells c2 t2 (0, 0)) := by
  obtain ⟨x, b1, b2⟩ := new2s7 hN (.cells a1 t1) (.cells a2 t2)
  have g1 : ((w.alloc (.cells a1 t1)).alloc (.cells a2 t2)).grownBy (((w.alloc (.cells a1 t1)).alloc (.cells a2 t2)).setRow N c1) (some N) := grown_setRow'
  have g2 : (((w.alloc (.cells a1 t1)).alloc (.cells a2 t2)).setRow N c1).grownBy ((((w.alloc (.cells a1 t1)).alloc (.cells a2 t2)).setRow N c1).setRow (N + 1) c2) (some (N + 1)) := grown_setRow'
  refine ⟨(x.grown g1 (fun k hk => by cases hk; omega)).grown g2 (fun k hk => by cases hk; omega), ?_, ?_⟩
  · exact grown_other g2 (setRow_heap _ _ _ _ _ _ b1) (by omega)
  · exact setRow_heap _ _ _ _ _ _ (grown_other g1 b2 (by omega))
/-- What tree.Split answers, by the document's objects. -/
theorem split_join (l : List Fl) (h : repoB l = true) : (Ids (folderR 4 [] l).1 → splitV l = ((folderR 4 [] l).1, (folderR 4 [] l).2, 0)) ∧ (¬ Ids (folderR 4 [] l).1 → splitV l = ([], z32, 151)) := by
  obtain ⟨hr, hi⟩ := RelS.folder 4 l RelS.start
  unfold splitV
  rw [if_pos h]
  cases ht : (folderS 4 ([], false) l).1.2 with
  | false =>
    obtain ⟨e, hids⟩ := hr.1 ht
    refine ⟨fun _ => ?_, fun q => absurd hids q⟩
    rw [if_neg Bool.false_ne_true, ← e, hi]
  | true => exact ⟨fun q => absurd q (hr.2 ht), fun _ => by rw [if_pos rfl]⟩
set_option maxRecDepth 100000 in
theorem zeroId (w : World) : (Instr.build 31 #[]).run Tryz.prog w = .ok (.agg (z32.map bc).toArray) w := by
  rfl
set_option maxHeartbeats 8000000 in
set_option maxRecDepth 100000 in
theorem walkTreeSplitsI (w : World) (hT : Tabs w) (v : Value) (l : List Fl) (h : IsF w v l) :
    Calls Tryz.prog 3 #[.agg #[v]] w fun e w' => e = .returned (.bool true) ∧ Ext w w' := by
  have HT := Lib.hid hT
  have HF := Lib.hid h
  obtain ⟨a0, c0, e0⟩ := sl_len h.sl
  subst e0
  clear h hT
  go_enter Tryz.func3, Tryz.ntmps3
  go_upto_region 1 with fail
  obtain ⟨G, hG⟩ : ∃ G, w.heap.size = G := ⟨_, rfl⟩
  rw [hG]
  refine wp_forgetH (fun W => Ext w W ∧ W.heap[G]? = some (.cells #[.slice a0 l.length c0] 24 (0, 0))) ⟨(Ext.refl w).alloc _, blk_new hG⟩ ?_
  rintro w1 ⟨x1, b1⟩
  go_wp2_with fail
  refine Calls.mono (wakes07 w1 (HT.out.ext x1)) ?_
  rintro e w2 ⟨rfl, x2⟩
  have X2 := x1.trans x2
  have b2 := x2.keeps b1
  go_wp2_with ((with_reducible refine at_load 24 (.tmp 1) ?_); refine wpl_load (by rfl) 24 (.tmp 1) rfl G (by rfl) 24 #[.slice a0 l.length c0] (0, 0) _ b2 Tryz.underlying24 rfl (infoRp _) ?_)
  refine Calls.mono (largeC w2 _ l (HF.out.ext X2)) ?_
  rintro e w3 ⟨b, rfl, hlg, x3⟩
  have X3 := X2.trans x3
  have b3 := x3.keeps b2
  cases b with
  | true =>
    clear hlg
    go_wp2_with fail
    exact bodyPost_ret (results_t rfl _ _) rfl ⟨rfl, X3⟩
  | false =>
    have hl := (hlg (by first | trivial | rfl)).1
    clear hlg
    go_wp2_with ((with_reducible refine at_load 24 (.tmp 1) ?_); refine wpl_load (by rfl) 24 (.tmp 1) rfl G (by rfl) 24 #[.slice a0 l.length c0] (0, 0) _ b3 Tryz.underlying24 rfl (infoRp _) ?_)
    refine Calls.mono (copiedC w3 _ l (HF.out.ext X3) (by omega)) ?_
    rintro e w4 ⟨v4, rfl, h4, x4⟩
    have X4 := X3.trans x4
    go_wp2_with fail
    refine Calls.mono (splitC w4 (HT.out.ext X4) v4 l h4) ?_
    rintro e w5 ⟨v5, rfl, hp5, x5⟩
    obtain ⟨SV, hSV⟩ : ∃ SV, splitV l = SV := ⟨_, rfl⟩
    rw [hSV] at hp5 ⊢
    obtain ⟨L, I, er⟩ := SV
    simp only at hp5 ⊢
    have hIl : I.length = 32 := by
      have h1 : (splitV l).2.1 = I := by rw [hSV]
      rw [← h1]
      unfold splitV
      split
      · split
        · rfl
        · exact folderS_id _ _ _
      · rfl
    obtain ⟨ds5, hd5⟩ := hp5.hds
    obtain ⟨a5, c5, e5⟩ := sl_len hd5.sl
    subst e5
    have HSV := Lib.hid hSV
    have X5 := X4.trans x5
    have b5 := (x4.trans x5).keeps b3
    obtain ⟨N, hN⟩ : ∃ N, w5.heap.size = N := ⟨_, rfl⟩
    have hn2 := new2s7 hN (.cells #[nilS] 29) (.cells (z32.map bc).toArray 31)
    have hn3 := new2set hN (a1 := #[nilS]) (c1 := #[.slice a5 ds5.length c5]) (a2 := (z32.map bc).toArray) (c2 := (I.map bc).toArray) (t1 := 29) (t2 := 31)
    have hs2 : (((w5.alloc (.cells #[nilS] 29)).alloc (.cells (z32.map bc).toArray 31)).setRow N #[.slice a5 ds5.length c5]).heap[N + 1]? = some (.cells (z32.map bc).toArray 31 (0, 0)) := grown_other grown_setRow' hn2.2.2 (by omega)
    clear hSV h4 hp5
    go_upto_region 6 with (first
      | ((with_reducible refine at_store 29 (.tmp 3) (.tmp 17) ?_); refine wpl_store (by rfl) 29 (.tmp 3) (.tmp 17) rfl N #[.slice a5 ds5.length c5] (by first | rfl | simp [hN]) (by rfl) 29 _ hn2.2.1 (infoHp _) rfl (by kernel_rfl) ?_)
      | ((with_reducible refine at_store 31 (.tmp 4) (.tmp 18) ?_); refine wpl_store (by rfl) 31 (.tmp 4) (.tmp 18) rfl (N + 1) (I.map bc).toArray (by first | rfl | simp [hN]) (by rfl) 31 _ hs2 (id_size hIl) (id_same (a := z32) rfl hIl) (id_one _) ?_))
    refine wp_forgetH (fun W => Ext w5 W ∧ W.heap[N]? = some (.cells #[.slice a5 ds5.length c5] 29 (0, 0)) ∧ W.heap[N + 1]? = some (.cells (I.map bc).toArray 31 (0, 0))) hn3 ?_
    rintro w6 ⟨x6, bN, bI⟩
    have b6 := x6.keeps b5
    have HX6 := Lib.hid (X5.trans x6)
    have HD5 := Lib.hid (hd5.ext x6)
    clear hn2 hn3 hs2 X2 X3 X4 X5 x1 x2 x3 x4 x5 b1 b2 b3 b5 hd5 x6 hN
    go_wp2_with ((with_reducible refine at_load 24 (.tmp 1) ?_); refine wpl_load (by rfl) 24 (.tmp 1) rfl G (by rfl) 24 #[.slice a0 l.length c0] (0, 0) _ b6 Tryz.underlying24 rfl (infoRp _) ?_)
    refine Calls.mono (refRight07 w6 _ l (HF.out.ext HX6.out)) ?_
    rintro e w7 ⟨rfl, x7⟩
    have HX7 := Lib.hid (HX6.out.trans x7)
    have HD7 := Lib.hid (HD5.out.ext x7)
    have HBG := Lib.hid (x7.keeps b6)
    have HBN := Lib.hid (x7.keeps bN)
    have HBI := Lib.hid (x7.keeps bI)
    clear b6 bN bI x7
    cases hrb : repoB l with
    | false =>
      have hsv : (L, I, er) = ([], z32, 170) := by rw [← HSV.out]; unfold splitV; rw [hrb]; rfl
      simp only [Prod.mk.injEq] at hsv
      obtain ⟨rfl, rfl, rfl⟩ := hsv
      have hdn : ds5 = [] := List.map_eq_nil_iff.1 HD7.out.os
      subst hdn
      have HRB := Lib.hid hrb
      have kN := block_allH HBN.out
      have b7 := HBG.out
      have bI7 := HBI.out
      have ke : ∀ w : World, (Op.equalIn 10000 31 (.agg (z32.map bc).toArray) (.agg #[.int .u8 0, .int .u8 0, .int .u8 0, .int .u8 0, .int .u8 0, .int .u8 0, .int .u8 0, .int .u8 0, .int .u8 0, .int .u8 0, .int .u8 0, .int .u8 0, .int .u8 0, .int .u8 0, .int .u8 0, .int .u8 0, .int .u8 0, .int .u8 0, .int .u8 0, .int .u8 0, .int .u8 0, .int .u8 0, .int .u8 0, .int .u8 0, .int .u8 0, .int .u8 0, .int .u8 0, .int .u8 0, .int .u8 0, .int .u8 0, .int .u8 0, .int .u8 0])).run Tryz.prog w = .ok true w := fun w => (equal_id w z32 z32 rfl rfl).trans (by rw [decide_eq_true rfl])
      clear hrb
      go_wp2_with (first | ((with_reducible refine at_load 31 (.tmp 4) ?_); refine wpl_load (by rfl) 31 (.tmp 4) rfl (N + 1) (by rfl) 31 (z32.map bc).toArray (0, 0) _ bI7 Tryz.underlying31 rfl (id_size (l := z32) rfl) ?_) | ((with_reducible refine at_load 24 (.tmp 1) ?_); refine wpl_load (by rfl) 24 (.tmp 1) rfl G (by rfl) 24 #[.slice a0 l.length c0] (0, 0) _ b7 Tryz.underlying24 rfl (infoRp _) ?_))
      refine Calls.mono (copiedC w7 _ l (HF.out.ext HX7.out) (by omega)) ?_
      rintro e w8 ⟨v8, rfl, h8, x8⟩
      have HX8 := Lib.hid (HX7.out.trans x8)
      clear kN b7 bI7 ke x8
      go_wp2_with fail
      refine Calls.mono (treeCheck w8 v8 l h8) ?_
      rintro e w9 ⟨rfl, x9⟩
      rw [HRB.out]
      go_wp2_with fail
      exact bodyPost_ret (results_t rfl _ _) rfl ⟨rfl, HX8.out.trans x9⟩
    | true =>
      have HRB := Lib.hid hrb
      have hgood := repoB_files hrb
      have hl16 := hgood.1
      have HGD := Lib.hid hgood.2
      have HJ := Lib.hid (split_join l hrb)
      have hFI : (folderR 4 [] l).2.length = 32 := folderR_id _ _ _
      obtain ⟨W, hW⟩ : ∃ W, folderR 4 [] l = W := ⟨_, rfl⟩
      obtain ⟨WL, WI⟩ := W
      rw [hW] at hFI
      simp only at hFI
      have HW := Lib.hid hW
      have kG := block_allH HBG.out
      clear hrb hgood hW
      go_wp2_with fail
      clear kG
      refine Calls.mono (refFolderAll 4 w7 w7 l (.slice a0 l.length c0) (fun w' _ y => HF.out.ext (HX7.out.trans y)) hl16 HGD.out (fun h => by cases h) w7.heap.size (fun _ => False) (.slice none 0 0) [] ⟨[], rfl, (fun d h => by cases h), World.ownsRow_nil _ _ _ _, Nat.le_refl _⟩ (fun g h => by cases h) (by decide) (Ext.refl _) (Nat.le_refl _)) ?_
      rintro e w8 ⟨ov, rfl, hA, _, x8⟩
      rw [HW.out] at hA ⊢
      simp only at hA
      obtain ⟨ds6, hd6⟩ := hA.hds
      obtain ⟨a6, c6, e6⟩ := sl_len hd6.sl
      subst e6
      obtain ⟨_, k6, m6⟩ := sl_cap hd6.sl
      go_upto_region 9 with ((with_reducible refine at_store 31 (.tmp 7) (.tmp 47) ?_); refine wpl_store (by rfl) 31 (.tmp 7) (.tmp 47) rfl _ (WI.map bc).toArray (by rfl) (by rfl) 31 _ (heap_alloc_new _ _) (id_size hFI) (id_same (a := z32) rfl hFI) (id_one _) ?_; rw [World.setRow_alloc_new])
      obtain ⟨P, hP⟩ : ∃ P, w8.heap.size = P := ⟨_, rfl⟩
      rw [hP]
      refine wp_forgetH (fun W => Ext w8 W ∧ W.heap[P]? = some (.cells (WI.map bc).toArray 31 (0, 0))) ⟨(Ext.refl w8).alloc _, blk_new hP⟩ ?_
      rintro w9 ⟨x9, bP⟩
      have HD6 := Lib.hid (hd6.ext x9)
      have HX9 := Lib.hid (x8.trans x9)
      clear hA hd6 x8 x9 hP
      go_wp2_with fail
      refine Calls.mono (refTwins w9 _ ds6 WL HD6.out) ?_
      rintro e w10 ⟨b, rfl, ht1, ht2, x10⟩
      have HX10 := Lib.hid (HX9.out.trans x10)
      have HX0 := Lib.hid (HX7.out.trans (HX9.out.trans x10))
      have HT1 := Lib.hid ht1
      have HT2 := Lib.hid ht2
      have bP := x10.keeps bP
      have HDA := Lib.hid (HD6.out.ext x10)
      have HDB := Lib.hid (HD7.out.ext HX10.out)
      have bI10 := HX10.out.keeps HBI.out
      have kN := block_allH (HX10.out.keeps HBN.out)
      clear ht1 ht2 x10
      cases b with
      | true =>
        have hsv : (L, I, er) = ([], z32, 151) := by rw [← HSV.out]; exact HJ.out.2 (by rw [HW.out]; exact HT1.out rfl)
        simp only [Prod.mk.injEq] at hsv
        obtain ⟨rfl, rfl, rfl⟩ := hsv
        have hdn : ds5 = [] := List.map_eq_nil_iff.1 HD7.out.os
        subst hdn
        have ke : ∀ w : World, (Op.equalIn 10000 31 (.agg (z32.map bc).toArray) (.agg #[.int .u8 0, .int .u8 0, .int .u8 0, .int .u8 0, .int .u8 0, .int .u8 0, .int .u8 0, .int .u8 0, .int .u8 0, .int .u8 0, .int .u8 0, .int .u8 0, .int .u8 0, .int .u8 0, .int .u8 0, .int .u8 0, .int .u8 0, .int .u8 0, .int .u8 0, .int .u8 0, .int .u8 0, .int .u8 0, .int .u8 0, .int .u8 0, .int .u8 0, .int .u8 0, .int .u8 0, .int .u8 0, .int .u8 0, .int .u8 0, .int .u8 0, .int .u8 0])).run Tryz.prog w = .ok true w := fun w => (equal_id w z32 z32 rfl rfl).trans (by rw [decide_eq_true rfl])
        go_wp2_with ((with_reducible refine at_load 31 (.tmp 4) ?_); refine wpl_load (by rfl) 31 (.tmp 4) rfl (N + 1) (by rfl) 31 (z32.map bc).toArray (0, 0) _ bI10 Tryz.underlying31 rfl (id_size (l := z32) rfl) ?_)
        exact bodyPost_ret (results_t rfl _ _) rfl ⟨rfl, HX0.out⟩
      | false =>
        have hsv : (L, I, er) = (WL, WI, 0) := by
          have := HJ.out.1 (by rw [HW.out]; exact HT2.out rfl)
          rw [HW.out] at this
          rw [← HSV.out]
          exact this
        simp only [Prod.mk.injEq] at hsv
        obtain ⟨rfl, rfl, rfl⟩ := hsv
        have hlen : ds5.length = ds6.length := by
          have h1 := congrArg List.length HD7.out.os
          have h2 := congrArg List.length HD6.out.os
          rw [List.length_map] at h1 h2
          omega
        have b10 := HX10.out.keeps HBG.out
        have kne := fun w => neq_id w I I hIl hIl
        have hlen2 : (ds5.length : Int) = (ds6.length : Int) := by omega
        have HLEN := Lib.hid hlen
        have HIIL := Lib.hid hIl
        clear hlen
        go_wp2_with (first | ((with_reducible refine at_load 31 (.tmp 4) ?_); refine wpl_load (by rfl) 31 (.tmp 4) rfl (N + 1) (by rfl) 31 (I.map bc).toArray (0, 0) _ bI10 Tryz.underlying31 rfl (id_size hIl) ?_) | ((with_reducible refine at_load 31 (.tmp 7) ?_); refine wpl_load (by rfl) 31 (.tmp 7) rfl P (by rfl) 31 (I.map bc).toArray (0, 0) _ bP Tryz.underlying31 rfl (id_size hIl) ?_) | ((with_reducible refine at_load 24 (.tmp 1) ?_); refine wpl_load (by rfl) 24 (.tmp 1) rfl G (by rfl) 24 #[.slice a0 l.length c0] (0, 0) _ b10 Tryz.underlying24 rfl (infoRp _) ?_))
        clear kN kne hlen2
        refine Calls.mono (copiedC w10 _ l (HF.out.ext HX0.out) (by omega)) ?_
        rintro e w11 ⟨v11, rfl, h11, x11⟩
        go_wp2_with fail
        refine Calls.mono (treeCheck w11 v11 l h11) ?_
        rintro e w12 ⟨rfl, x12⟩
        rw [HRB.out]
        have HX12 := Lib.hid (HX0.out.trans (x11.trans x12))
        have HA12 := Lib.hid (HDA.out.ext (x11.trans x12))
        have HB12 := Lib.hid (HDB.out.ext (x11.trans x12))
        have HN12 := Lib.hid ((HX10.out.trans (x11.trans x12)).keeps HBN.out)
        have HOO := Lib.hid (HDB.out.os.trans HDA.out.os.symm)
        clear h11 x11 x12 bI10 bP b10
        go_wp2_with fail
        go_loopg [8, 86] ds6.length (fun g s8 s86 wr => ∃ i : Nat, i ≤ ds6.length ∧ ds6.length - i ≤ g ∧ s86 = .int .i64 (i : Int) ∧ Ext w12 wr)
        case atStart => exact ⟨0, Nat.zero_le _, by omega, rfl, Ext.refl _⟩
        case round =>
        obtain ⟨i, hi, hg, rfl, xr⟩ := hrel
        by_cases hlt : i < ds6.length
        · have hlt5 : i < ds5.length := by rw [HLEN.out]; exact hlt
          obtain ⟨pa, oa, rfl, ha1, ha2, ha3, ha4, ha5⟩ := hds_at (HA12.out.ext xr) i hlt
          obtain ⟨pb, ob, rfl, hb1, hb2, hb3, hb4, hb5⟩ := hds_at (HB12.out.ext xr) i hlt5
          have ho : ds5[i].o = ds6[i].o := by
            have := congrArg (fun z => z[i]?) HOO.out
            simpa [List.getElem?_map, hlt, hlt5] using this
          obtain ⟨da, hda⟩ : ∃ da, ds6[i] = da := ⟨_, rfl⟩
          obtain ⟨db, hdb⟩ : ∃ db, ds5[i] = db := ⟨_, rfl⟩
          rw [hda] at ha1 ha2 ha3 ha4 ha5
          rw [hdb] at hb1 hb2 hb3 hb4 hb5
          rw [hda, hdb] at ho
          have hidd : db.id = da.id := by rw [ha4, hb4, ho]
          have hii := id_info ha3
          have hib := id_info hb3
          have kne : ∀ w : World, (binOp .neq 31 (.agg (db.id.map bc).toArray) (.agg (da.id.map bc).toArray)).run Tryz.prog w = .ok (.bool false) w := fun w => by rw [neq_id w _ _ hb3 ha3, hidd, decide_eq_true rfl]; rfl
          have hia : (Tryz.prog.info? 45).map (·.size) = some (hdV da).obj.length := by have := ha5.obj.info; simpa using this
          have hio : (Tryz.prog.info? 45).map (·.size) = some (hdV db).obj.length := by have := hb5.obj.info; simpa using this
          have KN := fun v (h : Ext wr v) => block_allH ((xr.trans h).keeps HN12.out)
          have i0 : (0 : Int) ≤ (i : Int) := Int.natCast_nonneg _
          have i1 : (i : Int) < (ds6.length : Int) := by omega
          have i2 : (i : Int) < (ds5.length : Int) := by omega
          have HA1 := Lib.hid ha1
          have HA2 := Lib.hid ha2
          have HA5 := Lib.hid ha5
          have HB1 := Lib.hid hb1
          have HB2 := Lib.hid hb2
          have HB5 := Lib.hid hb5
          have HHO := Lib.hid ho
          have HXR := Lib.hid xr
          clear ha1 ha2 ha4 ha5 hb1 hb2 hb4 hb5 ho hda hdb hidd
          go_upto_region 16 with fail
          refine wp_region_S (fun v => Ext wr v) (by kernel_rfl) (fun w' h => h) fun wd hqd xd hHeld => ?_
          refine wpAnyH_take (i := 0) (v := ?vpw0) rfl (by kernel_rfl) (by kernel_rfl) (by kernel_rfl) (fun _ _ _ h => h) (Or.inl ⟨by rfl, ?hypw0⟩) hHeld ?_
          case hypw0 => (intro w hSw; go_simp; try with_reducible rfl)
          simp only [Act.put, List.setIfInBounds_toArray, List.set_cons_zero, List.set_cons_succ, List.getElem_toArray, List.getElem_cons_zero, List.getElem_cons_succ]
          refine wpAnyH_take (i := 1) (v := ?vpw1) rfl (by kernel_rfl) (by kernel_rfl) (by kernel_rfl) (fun _ _ _ h => h) (Or.inl ⟨by rfl, ?hypw1⟩) hHeld ?_
          case hypw1 => (intro w hSw; have kk := KN _ hSw; go_simp; try with_reducible rfl)
          simp only [Act.put, List.setIfInBounds_toArray, List.set_cons_zero, List.set_cons_succ, List.getElem_toArray, List.getElem_cons_zero, List.getElem_cons_succ]
          refine wpAnyH_take (i := 2) (v := ?vpw2) rfl (by kernel_rfl) (by kernel_rfl) (by kernel_rfl) (fun _ _ _ h => h) (Or.inl ⟨by rfl, ?hypw2⟩) hHeld ?_
          case hypw2 => (intro w hSw; go_simp; try with_reducible rfl)
          simp only [Act.put, List.setIfInBounds_toArray, List.set_cons_zero, List.set_cons_succ, List.getElem_toArray, List.getElem_cons_zero, List.getElem_cons_succ]
          refine wpAnyH_take (i := 3) (v := ?vpw3) rfl (by kernel_rfl) (by kernel_rfl) (by kernel_rfl) (fun _ _ _ h => h) (Or.inl ⟨by rfl, ?hypw3⟩) hHeld ?_
          case hypw3 => (intro w hSw; go_simp; try with_reducible rfl)
          simp only [Act.put, List.setIfInBounds_toArray, List.set_cons_zero, List.set_cons_succ, List.getElem_toArray, List.getElem_cons_zero, List.getElem_cons_succ]
          refine wpAnyH_take (i := 4) (v := ?vpw4) rfl (by kernel_rfl) (by kernel_rfl) (by kernel_rfl) (fun _ _ _ h => h) (Or.inl ⟨by rfl, ?hypw4⟩) hHeld ?_
          case hypw4 => (intro w hSw; go_simp; try with_reducible rfl)
          simp only [Act.put, List.setIfInBounds_toArray, List.set_cons_zero, List.set_cons_succ, List.getElem_toArray, List.getElem_cons_zero, List.getElem_cons_succ]
          refine wpAnyH_take (i := 5) (v := _) rfl (by kernel_rfl) (by kernel_rfl) (by kernel_rfl) (fun _ _ _ h => h) (yieldsIf_load_mid (by rfl) _ _ rfl _ _ rfl (db.id.map bc) _ (fun w hSw => rangeAt_ext HB1.out hSw) Tryz.underlying31 rfl hib) hHeld ?_
          simp only [Act.put, List.setIfInBounds_toArray, List.set_cons_zero, List.set_cons_succ, List.getElem_toArray, List.getElem_cons_zero, List.getElem_cons_succ]
          refine wpAnyH_take (i := 6) (v := ?vpw6) rfl (by kernel_rfl) (by kernel_rfl) (by kernel_rfl) (fun _ _ _ h => h) (Or.inl ⟨by rfl, ?hypw6⟩) hHeld ?_
          case hypw6 => (intro w hSw; go_simp; try with_reducible rfl)
          simp only [Act.put, List.setIfInBounds_toArray, List.set_cons_zero, List.set_cons_succ, List.getElem_toArray, List.getElem_cons_zero, List.getElem_cons_succ]
          refine wpAnyH_take (i := 7) (v := ?vpw7) rfl (by kernel_rfl) (by kernel_rfl) (by kernel_rfl) (fun _ _ _ h => h) (Or.inl ⟨by rfl, ?hypw7⟩) hHeld ?_
          case hypw7 => (intro w hSw; go_simp; try with_reducible rfl)
          simp only [Act.put, List.setIfInBounds_toArray, List.set_cons_zero, List.set_cons_succ, List.getElem_toArray, List.getElem_cons_zero, List.getElem_cons_succ]
          refine wpAnyH_take (i := 8) (v := ?vpw8) rfl (by kernel_rfl) (by kernel_rfl) (by kernel_rfl) (fun _ _ _ h => h) (Or.inl ⟨by rfl, ?hypw8⟩) hHeld ?_
          case hypw8 => (intro w hSw; go_simp; try with_reducible rfl)
          simp only [Act.put, List.setIfInBounds_toArray, List.set_cons_zero, List.set_cons_succ, List.getElem_toArray, List.getElem_cons_zero, List.getElem_cons_succ]
          refine wpAnyH_take (i := 9) (v := ?vpw9) rfl (by kernel_rfl) (by kernel_rfl) (by kernel_rfl) (fun _ _ _ h => h) (Or.inl ⟨by rfl, ?hypw9⟩) hHeld ?_
          case hypw9 => (intro w hSw; go_simp; try with_reducible rfl)
          simp only [Act.put, List.setIfInBounds_toArray, List.set_cons_zero, List.set_cons_succ, List.getElem_toArray, List.getElem_cons_zero, List.getElem_cons_succ]
          refine wpAnyH_take (i := 10) (v := _) rfl (by kernel_rfl) (by kernel_rfl) (by kernel_rfl) (fun _ _ _ h => h) (yieldsIf_load_mid (by rfl) _ _ rfl _ _ rfl (da.id.map bc) _ (fun w hSw => rangeAt_ext HA1.out hSw) Tryz.underlying31 rfl hii) hHeld ?_
          simp only [Act.put, List.setIfInBounds_toArray, List.set_cons_zero, List.set_cons_succ, List.getElem_toArray, List.getElem_cons_zero, List.getElem_cons_succ]
          refine wpAnyH_take (i := 11) (v := ?vpw11) rfl (by kernel_rfl) (by kernel_rfl) (by kernel_rfl) (fun _ _ _ h => h) (Or.inl ⟨by rfl, ?hypw11⟩) hHeld ?_
          case hypw11 => (intro w hSw; have kk := kne w; go_simp; try with_reducible rfl)
          simp only [Act.put, List.setIfInBounds_toArray, List.set_cons_zero, List.set_cons_succ, List.getElem_toArray, List.getElem_cons_zero, List.getElem_cons_succ]
          refine wpAnyH_take (i := 12) (v := ?vpw12) rfl (by kernel_rfl) (by kernel_rfl) (by kernel_rfl) (fun _ _ _ h => h) (Or.inl ⟨by rfl, ?hypw12⟩) hHeld ?_
          case hypw12 => (intro w hSw; go_simp; try with_reducible rfl)
          simp only [Act.put, List.setIfInBounds_toArray, List.set_cons_zero, List.set_cons_succ, List.getElem_toArray, List.getElem_cons_zero, List.getElem_cons_succ]
          refine wpAnyH_take (i := 13) (v := ?vpw13) rfl (by kernel_rfl) (by kernel_rfl) (by kernel_rfl) (fun _ _ _ h => h) (Or.inl ⟨by rfl, ?hypw13⟩) hHeld ?_
          case hypw13 => (intro w hSw; go_simp; try with_reducible rfl)
          simp only [Act.put, List.setIfInBounds_toArray, List.set_cons_zero, List.set_cons_succ, List.getElem_toArray, List.getElem_cons_zero, List.getElem_cons_succ]
          refine wpAnyH_take (i := 14) (v := ?vpw14) rfl (by kernel_rfl) (by kernel_rfl) (by kernel_rfl) (fun _ _ _ h => h) (Or.inl ⟨by rfl, ?hypw14⟩) hHeld ?_
          case hypw14 => (intro w hSw; have kk := KN _ hSw; go_simp; try with_reducible rfl)
          simp only [Act.put, List.setIfInBounds_toArray, List.set_cons_zero, List.set_cons_succ, List.getElem_toArray, List.getElem_cons_zero, List.getElem_cons_succ]
          refine wpAnyH_take (i := 15) (v := ?vpw15) rfl (by kernel_rfl) (by kernel_rfl) (by kernel_rfl) (fun _ _ _ h => h) (Or.inl ⟨by rfl, ?hypw15⟩) hHeld ?_
          case hypw15 => (intro w hSw; go_simp; try with_reducible rfl)
          simp only [Act.put, List.setIfInBounds_toArray, List.set_cons_zero, List.set_cons_succ, List.getElem_toArray, List.getElem_cons_zero, List.getElem_cons_succ]
          refine wpAnyH_take (i := 16) (v := ?vpw16) rfl (by kernel_rfl) (by kernel_rfl) (by kernel_rfl) (fun _ _ _ h => h) (Or.inl ⟨by rfl, ?hypw16⟩) hHeld ?_
          case hypw16 => (intro w hSw; go_simp; try with_reducible rfl)
          simp only [Act.put, List.setIfInBounds_toArray, List.set_cons_zero, List.set_cons_succ, List.getElem_toArray, List.getElem_cons_zero, List.getElem_cons_succ]
          refine wpAnyH_take (i := 17) (v := ?vpw17) rfl (by kernel_rfl) (by kernel_rfl) (by kernel_rfl) (fun _ _ _ h => h) (Or.inl ⟨by rfl, ?hypw17⟩) hHeld ?_
          case hypw17 => (intro w hSw; go_simp; try with_reducible rfl)
          simp only [Act.put, List.setIfInBounds_toArray, List.set_cons_zero, List.set_cons_succ, List.getElem_toArray, List.getElem_cons_zero, List.getElem_cons_succ]
          refine wpAnyH_take (i := 18) (v := _) rfl (by kernel_rfl) (by kernel_rfl) (by kernel_rfl) (fun _ _ _ h => h) (yieldsIf_load_mid (by rfl) _ _ rfl _ _ rfl ((hdV db).obj) _ (fun w hSw => rangeAt_ext HB2.out hSw) Tryz.underlying45 rfl hio) hHeld ?_
          simp only [Act.put, List.setIfInBounds_toArray, List.set_cons_zero, List.set_cons_succ, List.getElem_toArray, List.getElem_cons_zero, List.getElem_cons_succ]
          refine wpAnyH_take (i := 19) (v := ?vpw19) rfl (by kernel_rfl) (by kernel_rfl) (by kernel_rfl) (fun _ _ _ h => h) (Or.inl ⟨by rfl, ?hypw19⟩) hHeld ?_
          case hypw19 => (intro w hSw; go_simp; try with_reducible rfl)
          simp only [Act.put, List.setIfInBounds_toArray, List.set_cons_zero, List.set_cons_succ, List.getElem_toArray, List.getElem_cons_zero, List.getElem_cons_succ]
          refine wpAnyH_take (i := 20) (v := ?vpw20) rfl (by kernel_rfl) (by kernel_rfl) (by kernel_rfl) (fun _ _ _ h => h) (Or.inl ⟨by rfl, ?hypw20⟩) hHeld ?_
          case hypw20 => (intro w hSw; go_simp; try with_reducible rfl)
          simp only [Act.put, List.setIfInBounds_toArray, List.set_cons_zero, List.set_cons_succ, List.getElem_toArray, List.getElem_cons_zero, List.getElem_cons_succ]
          refine wpAnyH_take (i := 21) (v := ?vpw21) rfl (by kernel_rfl) (by kernel_rfl) (by kernel_rfl) (fun _ _ _ h => h) (Or.inl ⟨by rfl, ?hypw21⟩) hHeld ?_
          case hypw21 => (intro w hSw; go_simp; try with_reducible rfl)
          simp only [Act.put, List.setIfInBounds_toArray, List.set_cons_zero, List.set_cons_succ, List.getElem_toArray, List.getElem_cons_zero, List.getElem_cons_succ]
          refine wpAnyH_take (i := 22) (v := ?vpw22) rfl (by kernel_rfl) (by kernel_rfl) (by kernel_rfl) (fun _ _ _ h => h) (Or.inl ⟨by rfl, ?hypw22⟩) hHeld ?_
          case hypw22 => (intro w hSw; go_simp; try with_reducible rfl)
          simp only [Act.put, List.setIfInBounds_toArray, List.set_cons_zero, List.set_cons_succ, List.getElem_toArray, List.getElem_cons_zero, List.getElem_cons_succ]
          refine wpAnyH_take (i := 23) (v := _) rfl (by kernel_rfl) (by kernel_rfl) (by kernel_rfl) (fun _ _ _ h => h) (yieldsIf_load_mid (by rfl) _ _ rfl _ _ rfl ((hdV da).obj) _ (fun w hSw => rangeAt_ext HA2.out hSw) Tryz.underlying45 rfl hia) hHeld ?_
          simp only [Act.put, List.setIfInBounds_toArray, List.set_cons_zero, List.set_cons_succ, List.getElem_toArray, List.getElem_cons_zero, List.getElem_cons_succ]
          refine wpAnyH_all (rs := [24]) (by kernel_rfl) (by simp) ?_
          intro i hi; obtain rfl : i = 24 := by simpa using hi
          refine wpOp_run rfl (by rfl) ?_
          go_simp
          refine Calls.mono (refSameO _ (hdV db).obj.toArray (hdV da).obj.toArray db.vb db.ve db.vp da.vb da.ve da.vp db.o da.o ((HB5.out.ext hHeld).obj) ((HA5.out.ext hHeld).obj)) ?_
          rintro e u6 ⟨rfl, xu6⟩
          rw [HHO.out, same_self]
          have hHeld := hHeld.trans xu6
          first | refine ⟨fun _ => hHeld, ?_⟩ | refine ⟨hHeld, ?_⟩
          try simp only [Act.put, List.setIfInBounds_toArray, List.set_cons_zero, List.set_cons_succ, List.getElem_toArray, List.getElem_cons_zero, List.getElem_cons_succ]
          refine wpAnyH_take (i := 25) (v := ?vpw25) rfl (by kernel_rfl) (by kernel_rfl) (by kernel_rfl) (fun _ _ _ h => h) (Or.inl ⟨by rfl, ?hypw25⟩) hHeld ?_
          case hypw25 => (intro w hSw; go_simp; try with_reducible rfl)
          simp only [Act.put, List.setIfInBounds_toArray, List.set_cons_zero, List.set_cons_succ, List.getElem_toArray, List.getElem_cons_zero, List.getElem_cons_succ]
          refine wpAnyH_take (i := 26) (v := ?vpw26) rfl (by kernel_rfl) (by kernel_rfl) (by kernel_rfl) (fun _ _ _ h => h) (Or.inl ⟨by rfl, ?hypw26⟩) hHeld ?_
          case hypw26 => (intro w hSw; go_simp; try with_reducible rfl)
          simp only [Act.put, List.setIfInBounds_toArray, List.set_cons_zero, List.set_cons_succ, List.getElem_toArray, List.getElem_cons_zero, List.getElem_cons_succ]
          refine wpAnyH_done (by kernel_rfl) ?_ _
          refine NoPanic.normal ?_
          have HXU := Lib.hid (HXR.out.trans hHeld)
          go_wp2_with fail
          go_roundg (ds6.length - (i + 1))
          case measure => omega
          case rel => exact ⟨i + 1, by omega, by omega, by go_num, HXU.out⟩
        · have ei : i = ds6.length := by omega
          go_wp2_with fail
          exact bodyPost_ret (results_t rfl _ _) rfl ⟨rfl, HX12.out.trans xr⟩
theorem walkTreeSplits (w : World) (v : Value) (l : List Fl) (h : ArgRepo w v l) (hT : Tabs w) :
    Calls Tryz.prog 3 #[v] w fun e w' => e = .returned (.bool true) ∧ Below w.heap.size w w' := by
  obtain ⟨u, rfl, k⟩ := h
  exact walkTreeSplitsI w hT u l k
end Go.Proofs.YtpadfabjihaapaaGreatDoor
