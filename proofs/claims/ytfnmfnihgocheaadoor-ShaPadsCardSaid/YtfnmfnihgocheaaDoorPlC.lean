/- The walks of the reference's Constants and Start, and of sha's Constants. -/
import Derived.Test.YtfnmfnihgocheaaDoorPlP
import Derived.Test.YtfnmfnihgocheaaDoorPrT
import Derived.Test.YtfnmfnihgocheaaDoorShD
namespace Go.Proofs.YtfnmfnihgocheaaDoor
open Go.RowKit
set_option linter.unusedVariables false
set_option linter.unusedSimpArgs false

theorem fillU (ks zs : List Int) (i : Nat) (h : ks.length = zs.length) (hi : i < ks.length) : ((ks.take i ++ zs.drop i).map uc32).toArray.setIfInBounds i (uc32 ks[i]) = ((ks.take (i + 1) ++ zs.drop (i + 1)).map uc32).toArray := by
  have e : zs.drop i = zs[i]'(by omega) :: zs.drop (i + 1) := List.drop_eq_getElem_cons (by omega)
  have e2 : ks.take (i + 1) = ks.take i ++ [ks[i]] := List.take_succ_eq_append_getElem hi
  have h3 : ((ks.take i).map uc32).length = i := by rw [List.length_map, List.length_take]; omega
  rw [e, e2]
  simp only [List.map_append, List.map_cons, List.map_nil, List.setIfInBounds_toArray]
  congr 1
  rw [List.set_append_right _ _ (by omega), h3, Nat.sub_self, List.set_cons_zero, List.append_assoc]
  rfl
theorem uc_all (l : List Int) : (l.map uc32).toArray.all (·.oneCell') = true := by
  rw [Array.all_eq_true_iff_forall_mem]
  intro u hu
  have hu : u ∈ l.map uc32 := by simpa using hu
  obtain ⟨x, _, rfl⟩ := List.mem_map.1 hu
  rfl

set_option maxHeartbeats 8000000 in
set_option maxRecDepth 100000 in
theorem refConstants (w : World) :
    Calls Tryd.prog 19 #[] w fun e w' => e = .returned (.agg (kTab.map uc32).toArray) ∧ Ext w w' := by
  have a0 := blk_old (o := .cells ((List.replicate 64 (0 : Int)).map uc32).toArray 33) (heap_alloc_new w (.cells ((List.replicate 64 (0 : Int)).map uc32).toArray 33))
  have a1 := blk_new (w := w.alloc (.cells ((List.replicate 64 (0 : Int)).map uc32).toArray 33)) (b := w.heap.size + 1) (o := .cells ((List.replicate 64 (0 : Int)).map uc32).toArray 33) (by simp)
  have X0 : Ext w ((w.alloc (.cells ((List.replicate 64 (0 : Int)).map uc32).toArray 33)).alloc (.cells ((List.replicate 64 (0 : Int)).map uc32).toArray 33)) := ((Ext.refl w).alloc _).alloc _
  have hPl := primes64
  obtain ⟨ks, hks⟩ : ∃ ks, kTab = ks := ⟨_, rfl⟩
  rw [hks]
  have hK : (pl 312).map (fun p => (rootN p 3 : Int)) = ks := by rw [← hks]; exact rootsK
  have hkl : ks.length = 64 := by rw [← hK, List.length_map, hPl]
  have HKS := Lib.hid hks
  clear hks
  go_enter Tryd.func19, Tryd.ntmps19
  go_wp2_with fail
  refine Calls.mono (refPrimes _ 64 312 primes64 (by omega) (by omega)) ?_
  rintro e w1 ⟨v, rfl, own, x1⟩
  have b0 := x1.keeps a0
  have b1 := x1.keeps a1
  have X1 : Ext w w1 := X0.trans x1
  have hlt : ∀ p ∈ pl 312, p < 312 := pl_lt
  clear a0 a1 X0 x1
  generalize pl 312 = P at *
  generalize hG : w.heap.size = G at *
  have e0 : ((List.replicate 64 (0 : Int)).map uc32).toArray = ((ks.take 0 ++ (List.replicate 64 (0 : Int)).drop 0).map uc32).toArray := by simp
  rw [e0] at b1
  rcases own.2 with ⟨_, h0⟩ | ⟨pb, cap, cur, rfl, hge, bp, h1, h2, h3, h4⟩
  · exact absurd h0 (by decide)
  have hgG : G + 1 < pb := by simp at hge; omega
  have hcur : ∀ j (hj : j < P.length), cur[j]? = some (.int .u64 ((P[j] : Nat) : Int)) := by
    intro j hj
    have e1 : (cur.toList.take (64 * 1))[j]? = some (.int .u64 ((P[j] : Nat) : Int)) := by
      rw [h4, List.getElem?_map, List.getElem?_eq_getElem hj]; rfl
    rw [List.getElem?_take, if_pos (by omega)] at e1
    simpa using e1
  have HK := Lib.hid hK
  have HCUR := Lib.hid hcur
  clear hcur hK e0 h4 own h3 hge
  go_wp2_with fail
  go_loopg [3] 64 (fun g s3 wr => ∃ i : Nat, i ≤ 64 ∧ 64 - i ≤ g ∧ s3 = .int .i64 (i : Int) ∧ wr.heap[G + 1]? = some (.cells ((ks.take i ++ (List.replicate 64 (0 : Int)).drop i).map uc32).toArray 33 (0, 0)) ∧ wr.heap[G]? = some (.cells ((List.replicate 64 (0 : Int)).map uc32).toArray 33 (0, 0)) ∧ wr.heap[pb]? = some (.cells cur 54 (0, 0)) ∧ Ext w wr)
  case atStart => exact ⟨0, by omega, by omega, rfl, b1, b0, bp, X1⟩
  case round =>
    clear b0 b1 bp
    obtain ⟨i, hi, hg, rfl, b1, b0, bp, xr⟩ := hrel
    by_cases hlti : i < 64
    · have hc : wr.cell? ⟨pb, i, none⟩ = some (.int .u64 ((P[i]'(by omega) : Nat) : Int)) := by rw [block_cell bp]; exact HCUR.out i (by omega)
      have hpb := hlt _ (List.getElem_mem (l := P) (n := i) (by omega))
      have hki : ks[i]'(by omega) = (rootN (P[i]'(by omega)) 3 : Int) := by simp only [← HK.out, List.getElem_map]
      have hset := fillU ks (List.replicate 64 (0 : Int)) i (by rw [hkl, List.length_replicate]) (by omega)
      rw [hki] at hset
      have HSET := Lib.hid hset
      clear hset hki
      generalize P[i]'(by omega) = p at *
      go_wp2_with fail
      refine Calls.mono (refRoot _ p 3 (by omega) (.inr rfl)) ?_
      rintro e w2 ⟨rfl, x2⟩
      have b0 := x2.keeps b0
      have b1 := x2.keeps b1
      have bp := x2.keeps bp
      have x12 := xr.trans x2
      have hlen2 : ((ks.take i ++ (List.replicate 64 (0 : Int)).drop i).map uc32).length = 64 := by rw [List.length_map, List.length_append, List.length_take, List.length_drop, List.length_replicate]; omega
      obtain ⟨u, cu⟩ : ∃ u, w2.cell? ⟨G + 1, i, none⟩ = some u := by
        rw [block_cell b1]
        exact ⟨_, by rw [List.getElem?_toArray, List.getElem?_eq_getElem (by omega)]⟩
      have fu := block_free b1 i
      have bn := block_setCell b1 (i := i) (uc32 (rootN p 3 : Int))
      rw [HSET.out] at bn
      have bRn := set_other b0 (show G ≠ G + 1 by omega) (i := i) (u := uc32 (rootN p 3 : Int))
      have bpn := set_other bp (show pb ≠ G + 1 by omega) (i := i) (u := uc32 (rootN p 3 : Int))
      have xn := x12.setCell (p := ⟨G + 1, i, none⟩) (by show w.heap.size ≤ G + 1; omega) (uc32 (rootN p 3 : Int))
      have BP := Lib.hid bpn
      have XN := Lib.hid xn
      have BN := Lib.hid bn
      have BR := Lib.hid bRn
      clear b0 b1 bn bRn hlen2 bp bpn xn
      go_wp2_with fail
      go_roundg (64 - (i + 1))
      case measure => omega
      case rel => exact ⟨i + 1, by omega, by omega, by go_num, BN.out, BR.out, BP.out, XN.out⟩
    · obtain rfl : i = 64 := by omega
      have eT : ks.take 64 ++ (List.replicate 64 (0 : Int)).drop 64 = ks := by rw [List.take_of_length_le (by omega)]; simp
      rw [eT] at b1
      have hinf : (Tryd.prog.info? 33).map (·.size) = some (ks.map uc32).toArray.size := by rw [List.size_toArray, List.length_map, hkl]; kernel_rfl
      have hsz : ((List.replicate 64 (0 : Int)).map uc32).toArray.size = (ks.map uc32).toArray.size := by simp [hkl]
      go_wp2_with (first
        | ((with_reducible refine at_load 33 (.tmp 1) ?_); refine wpl_load (by rfl) 33 (.tmp 1) rfl (G + 1) (by rfl) 33 (ks.map uc32).toArray (0, 0) _ b1 Tryd.underlying33 rfl hinf ?_)
        | ((with_reducible refine at_store 33 (.tmp 0) (.tmp 16) ?_); refine wpl_store (by rfl) 33 (.tmp 0) (.tmp 16) rfl G (ks.map uc32).toArray (by rfl) (by rfl) 33 _ b0 hinf hsz (uc_all ks) ?_))
      have hfin : (wr.setRow G (ks.map uc32).toArray).heap[G]? = some (.cells (ks.map uc32).toArray 33 (0, 0)) := setRow_heap _ _ _ _ _ _ b0
      exact bodyPost_ret (results_cell_row rfl _ _ G _ _ _ _ (by rfl) hfin Tryd.underlying33 rfl hinf) rfl ⟨rfl, xr.grown grown_row (fun k hk => by simp at hk; omega)⟩

set_option maxHeartbeats 8000000 in
set_option maxRecDepth 100000 in
theorem refStart (w : World) :
    Calls Tryd.prog 21 #[] w fun e w' => e = .returned (.agg (startS.l.map uc32).toArray) ∧ Ext w w' := by
  have a0 := blk_old (o := .cells ((List.replicate 8 (0 : Int)).map uc32).toArray 29) (heap_alloc_new w (.cells ((List.replicate 8 (0 : Int)).map uc32).toArray 29))
  have a1 := blk_new (w := w.alloc (.cells ((List.replicate 8 (0 : Int)).map uc32).toArray 29)) (b := w.heap.size + 1) (o := .cells ((List.replicate 8 (0 : Int)).map uc32).toArray 29) (by simp)
  have X0 : Ext w ((w.alloc (.cells ((List.replicate 8 (0 : Int)).map uc32).toArray 29)).alloc (.cells ((List.replicate 8 (0 : Int)).map uc32).toArray 29)) := ((Ext.refl w).alloc _).alloc _
  have hPl := primes8
  obtain ⟨ks, hks⟩ : ∃ ks, startS.l = ks := ⟨_, rfl⟩
  rw [hks]
  have hK : (pl 20).map (fun p => (rootN p 2 : Int)) = ks := by rw [← hks]; exact rootsS
  have hkl : ks.length = 8 := by rw [← hK, List.length_map, hPl]
  have HKS := Lib.hid hks
  clear hks
  go_enter Tryd.func21, Tryd.ntmps21
  go_wp2_with fail
  refine Calls.mono (refPrimes _ 8 20 primes8 (by omega) (by omega)) ?_
  rintro e w1 ⟨v, rfl, own, x1⟩
  have b0 := x1.keeps a0
  have b1 := x1.keeps a1
  have X1 : Ext w w1 := X0.trans x1
  have hlt : ∀ p ∈ pl 20, p < 20 := pl_lt
  clear a0 a1 X0 x1
  generalize pl 20 = P at *
  generalize hG : w.heap.size = G at *
  have e0 : ((List.replicate 8 (0 : Int)).map uc32).toArray = ((ks.take 0 ++ (List.replicate 8 (0 : Int)).drop 0).map uc32).toArray := by simp
  rw [e0] at b1
  rcases own.2 with ⟨_, h0⟩ | ⟨pb, cap, cur, rfl, hge, bp, h1, h2, h3, h4⟩
  · exact absurd h0 (by decide)
  have hgG : G + 1 < pb := by simp at hge; omega
  have hcur : ∀ j (hj : j < P.length), cur[j]? = some (.int .u64 ((P[j] : Nat) : Int)) := by
    intro j hj
    have e1 : (cur.toList.take (8 * 1))[j]? = some (.int .u64 ((P[j] : Nat) : Int)) := by
      rw [h4, List.getElem?_map, List.getElem?_eq_getElem hj]; rfl
    rw [List.getElem?_take, if_pos (by omega)] at e1
    simpa using e1
  have HK := Lib.hid hK
  have HCUR := Lib.hid hcur
  clear hcur hK e0 h4 own h3 hge
  go_wp2_with fail
  go_loopg [3] 8 (fun g s3 wr => ∃ i : Nat, i ≤ 8 ∧ 8 - i ≤ g ∧ s3 = .int .i64 (i : Int) ∧ wr.heap[G + 1]? = some (.cells ((ks.take i ++ (List.replicate 8 (0 : Int)).drop i).map uc32).toArray 29 (0, 0)) ∧ wr.heap[G]? = some (.cells ((List.replicate 8 (0 : Int)).map uc32).toArray 29 (0, 0)) ∧ wr.heap[pb]? = some (.cells cur 54 (0, 0)) ∧ Ext w wr)
  case atStart => exact ⟨0, by omega, by omega, rfl, b1, b0, bp, X1⟩
  case round =>
    clear b0 b1 bp
    obtain ⟨i, hi, hg, rfl, b1, b0, bp, xr⟩ := hrel
    by_cases hlti : i < 8
    · have hc : wr.cell? ⟨pb, i, none⟩ = some (.int .u64 ((P[i]'(by omega) : Nat) : Int)) := by rw [block_cell bp]; exact HCUR.out i (by omega)
      have hpb := hlt _ (List.getElem_mem (l := P) (n := i) (by omega))
      have hki : ks[i]'(by omega) = (rootN (P[i]'(by omega)) 2 : Int) := by simp only [← HK.out, List.getElem_map]
      have hset := fillU ks (List.replicate 8 (0 : Int)) i (by rw [hkl, List.length_replicate]) (by omega)
      rw [hki] at hset
      have HSET := Lib.hid hset
      clear hset hki
      generalize P[i]'(by omega) = p at *
      go_wp2_with fail
      refine Calls.mono (refRoot _ p 2 (by omega) (.inl rfl)) ?_
      rintro e w2 ⟨rfl, x2⟩
      have b0 := x2.keeps b0
      have b1 := x2.keeps b1
      have bp := x2.keeps bp
      have x12 := xr.trans x2
      have hlen2 : ((ks.take i ++ (List.replicate 8 (0 : Int)).drop i).map uc32).length = 8 := by rw [List.length_map, List.length_append, List.length_take, List.length_drop, List.length_replicate]; omega
      obtain ⟨u, cu⟩ : ∃ u, w2.cell? ⟨G + 1, i, none⟩ = some u := by
        rw [block_cell b1]
        exact ⟨_, by rw [List.getElem?_toArray, List.getElem?_eq_getElem (by omega)]⟩
      have fu := block_free b1 i
      have bn := block_setCell b1 (i := i) (uc32 (rootN p 2 : Int))
      rw [HSET.out] at bn
      have bRn := set_other b0 (show G ≠ G + 1 by omega) (i := i) (u := uc32 (rootN p 2 : Int))
      have bpn := set_other bp (show pb ≠ G + 1 by omega) (i := i) (u := uc32 (rootN p 2 : Int))
      have xn := x12.setCell (p := ⟨G + 1, i, none⟩) (by show w.heap.size ≤ G + 1; omega) (uc32 (rootN p 2 : Int))
      have BP := Lib.hid bpn
      have XN := Lib.hid xn
      have BN := Lib.hid bn
      have BR := Lib.hid bRn
      clear b0 b1 bn bRn hlen2 bp bpn xn
      go_wp2_with fail
      go_roundg (8 - (i + 1))
      case measure => omega
      case rel => exact ⟨i + 1, by omega, by omega, by go_num, BN.out, BR.out, BP.out, XN.out⟩
    · obtain rfl : i = 8 := by omega
      have eT : ks.take 8 ++ (List.replicate 8 (0 : Int)).drop 8 = ks := by rw [List.take_of_length_le (by omega)]; simp
      rw [eT] at b1
      have hinf : (Tryd.prog.info? 29).map (·.size) = some (ks.map uc32).toArray.size := by rw [List.size_toArray, List.length_map, hkl]; kernel_rfl
      have hsz : ((List.replicate 8 (0 : Int)).map uc32).toArray.size = (ks.map uc32).toArray.size := by simp [hkl]
      go_wp2_with (first
        | ((with_reducible refine at_load 29 (.tmp 1) ?_); refine wpl_load (by rfl) 29 (.tmp 1) rfl (G + 1) (by rfl) 29 (ks.map uc32).toArray (0, 0) _ b1 Tryd.underlying29 rfl hinf ?_)
        | ((with_reducible refine at_store 29 (.tmp 0) (.tmp 16) ?_); refine wpl_store (by rfl) 29 (.tmp 0) (.tmp 16) rfl G (ks.map uc32).toArray (by rfl) (by rfl) 29 _ b0 hinf hsz (uc_all ks) ?_))
      have hfin : (wr.setRow G (ks.map uc32).toArray).heap[G]? = some (.cells (ks.map uc32).toArray 29 (0, 0)) := setRow_heap _ _ _ _ _ _ b0
      exact bodyPost_ret (results_cell_row rfl _ _ G _ _ _ _ (by rfl) hfin Tryd.underlying29 rfl hinf) rfl ⟨rfl, xr.grown grown_row (fun k hk => by simp at hk; omega)⟩

set_option maxHeartbeats 4000000 in
set_option maxRecDepth 100000 in
theorem shaConstants (w : World) (hK : Tabs w) :
    Calls Tryd.prog 18 #[] w fun e w' => e = .returned (.agg (kTab.map uc32).toArray) ∧ Ext w w' := by
  have hr : ∀ W : World, Ext w W → W.rangeAt 0 0 (kTab.map uc32) := by
    intro W x j v hj
    have hjl : j < kTab.length := by have := (List.getElem?_eq_some_iff.1 hj).1; simpa using this
    have hk : kTab.length = 64 := by decide
    rw [Nat.zero_add, x.cell (hK.k j (by omega)), ← hj, List.getElem?_map, List.getElem?_eq_getElem hjl, List.getD_eq_getElem?_getD, List.getElem?_eq_getElem hjl]
    rfl
  have hinf : (Tryd.prog.info? 33).map (·.size) = some (kTab.map uc32).length := by kernel_rfl
  have hinf2 : (Tryd.prog.info? 33).map (·.size) = some (kTab.map uc32).toArray.size := by kernel_rfl
  have hr1 := hr _ ((Ext.refl w).alloc (.cells ((List.replicate 64 (0 : Int)).map uc32).toArray 33))
  go_enter Tryd.func18, Tryd.ntmps18
  go_wp2_with (first
    | ((with_reducible refine at_load 33 (.global 0) ?_); refine wpl_mid (by rfl) 33 (.global 0) rfl 0 0 (by rfl) (kTab.map uc32) _ hr1 Tryd.underlying33 rfl hinf ?_)
    | ((with_reducible refine at_store 33 (.tmp 0) (.tmp 1) ?_); refine wpl_store (by rfl) 33 (.tmp 0) (.tmp 1) rfl w.heap.size (kTab.map uc32).toArray (by rfl) (by rfl) 33 _ (heap_alloc_new _ _) hinf2 (by kernel_rfl) (uc_all _) ?_; rw [World.setRow_alloc_new]))
  exact bodyPost_ret (results_cell_row rfl _ _ w.heap.size _ _ _ _ (by rfl) (heap_alloc_new _ _) Tryd.underlying33 rfl hinf2) rfl ⟨rfl, (Ext.refl _).alloc _⟩
end Go.Proofs.YtfnmfnihgocheaaDoor
