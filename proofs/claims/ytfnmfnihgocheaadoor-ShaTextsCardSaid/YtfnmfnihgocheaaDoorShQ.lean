/- The walk of the statement ShaTexts. -/
import Derived.Test.YtfnmfnihgocheaaDoorShP
import Derived.Deep.RegionHeld3
import Derived.Deep.MidRow
namespace Go.Proofs.YtfnmfnihgocheaaDoor
open Go.RowKit
set_option linter.unusedVariables false
set_option linter.unusedSimpArgs false

theorem rangeAt_of {w : World} {g : Nat} {l : List Value} {t : TypeId} {f : Nat × Nat} (h : w.heap[g]? = some (.cells l.toArray t f)) : w.rangeAt g 0 l := by
  intro j v hj
  rw [Nat.zero_add, block_cell h, ← hj]
  simp

set_option maxHeartbeats 4000000 in
set_option maxRecDepth 100000 in
theorem walkShaTexts (w : World) (l : List UInt8) (hl : l.length = 32) (l2 : List UInt8) (hl2 : l2.length = 32) (s : ByteArray) (hs : s.size ≤ 9223372036854775807) (hK : Tabs w) :
    Calls Tryd.prog 8 #[.agg (l.map bc).toArray, .agg (l2.map bc).toArray, .string s] w fun e w' => e = .returned (.bool true) ∧ Below w.heap.size w w' := by
  go_enter Tryd.func8, Tryd.ntmps8
  go_wp2_with fail
  refine Calls.mono (wakes03 _ (hK.ext (((Ext.refl _).alloc _).alloc _))) ?_
  rintro e w1 ⟨rfl, x1⟩
  have b0 := x1.keeps (blk_old (o := .cells (l2.map bc).toArray 25) (heap_alloc_new w (.cells (l.map bc).toArray 25)))
  have b1 := x1.keeps (blk_new (w := w.alloc (.cells (l.map bc).toArray 25)) (b := w.heap.size + 1) (o := .cells (l2.map bc).toArray 25) (by simp))
  have X1 : Ext w w1 := (((Ext.refl w).alloc _).alloc _).trans x1
  generalize hG : w.heap.size = G at *
  have HG := Lib.hid hG
  clear hG
  by_cases hlen : s.size > 20000
  · have hlI : (20000 : Int) < (s.size : Int) := by omega
    go_wp2
    go_ret
    exact ⟨rfl, X1⟩
  have hlI : ¬ (20000 : Int) < (s.size : Int) := by omega
  go_wp2_with fail
  refine Calls.mono (shaParse _ s hs) ?_
  rintro e w2 ⟨rfl, x2⟩
  have X2 := X1.trans x2
  obtain ⟨y, hyl, hyv⟩ : ∃ y : List UInt8, y.length = 32 ∧ parseV (parseL s) = .agg (y.map bc).toArray := by
    cases hp : parseL s with
    | none => exact ⟨z32, rfl, rfl⟩
    | some y => exact ⟨y, parse_len s y hp, rfl⟩
  rw [hyv]
  have hyo := id_one y
  have hys := id_size hyl
  have hy32 : (y.map bc).toArray.size = 32 := by simp [hyl]
  have hneq := fun w => neq_id w y y hyl hyl
  rw [decide_eq_true rfl] at hneq
  have b0 := x2.keeps b0
  have b1 := x2.keeps b1
  go_wp2_with (refine wpList_store_row rfl 25 (.tmp 7) (.tmp 21) rfl w2.heap.size (y.map bc).toArray (by rfl) (by rfl) 25 _ (heap_alloc_new _ _) hys (by rw [hy32]; rfl) hyo ?_; rw [World.setRow_alloc_new])
  have b0 := blk_old (o := .cells (y.map bc).toArray 25) b0
  have b1 := blk_old (o := .cells (y.map bc).toArray 25) b1
  have b2 := heap_alloc_new w2 (.cells (y.map bc).toArray 25)
  have X3 := X2.alloc (.cells (y.map bc).toArray 25)
  generalize hG2 : w2.heap.size = G2 at *
  generalize w2.alloc (.cells (y.map bc).toArray 25) = w3 at *
  refine Calls.mono (refParse _ s hs) ?_
  rintro e w4 ⟨rfl, x4⟩
  rw [hyv]
  have X4 := X3.trans x4
  have b0 := x4.keeps b0
  have b1 := x4.keeps b1
  have b2 := x4.keeps b2
  go_wp2_with (refine wpList_store_row rfl 25 (.tmp 9) (.tmp 26) rfl w4.heap.size (y.map bc).toArray (by rfl) (by rfl) 25 _ (heap_alloc_new _ _) hys (by rw [hy32]; rfl) hyo ?_; rw [World.setRow_alloc_new])
  have b0 := blk_old (o := .cells (y.map bc).toArray 25) b0
  have b1 := blk_old (o := .cells (y.map bc).toArray 25) b1
  have b2 := blk_old (o := .cells (y.map bc).toArray 25) b2
  have b3 := heap_alloc_new w4 (.cells (y.map bc).toArray 25)
  have X5 := X4.alloc (.cells (y.map bc).toArray 25)
  generalize hG4 : w4.heap.size = G4 at *
  generalize w4.alloc (.cells (y.map bc).toArray 25) = w5 at *
  have hr0 := rangeAt_of b0
  have hr2 := rangeAt_of b2
  have hr3 := rangeAt_of b3
  have hu := Tryd.underlying25
  have hi0 : (Tryd.prog.info? 25).map (·.size) = some (l.map bc).length := by rw [List.length_map, hl]; kernel_rfl
  have hiy : (Tryd.prog.info? 25).map (·.size) = some (y.map bc).length := by rw [List.length_map, hyl]; kernel_rfl
  have HB0 := Lib.hid b0
  have HB1 := Lib.hid b1
  have HB2 := Lib.hid b2
  have HB3 := Lib.hid b3
  clear b0 b1 b2 b3 hG2 hG4 hyo hys hy32 hyv x1 x2 x4 X1 X2 X3 X4
  have hpost : ∀ (w' : World), Ext w5 w' → True := fun _ _ => trivial
  have hbo : parseL s = none ∧ (parseL s).isSome = false ∧ parseE (parseL s) = 130 ∨ (parseL s).isSome = true ∧ parseE (parseL s) = 0 := by
    cases hp : parseL s with
    | none => exact .inl ⟨rfl, rfl, rfl⟩
    | some y => exact .inr ⟨rfl, rfl⟩
  rcases hbo with ⟨_, ho, he⟩ | ⟨ho, he⟩
  · rw [ho, he]
    clear ho he
    go_wp2_with fail
    refine wp_region_noPanic ?_
    refine wp_region_held_drew (S := fun w' => w'.rangeAt G 0 (l.map bc) ∧ w'.rangeAt G2 0 (y.map bc) ∧ w'.rangeAt G4 0 (y.map bc)) (by kernel_rfl) ?_ (fun hHeld => ?_)
    · exact ⟨rangeAt_of (((Ext.refl w5).drew).keeps HB0.out), rangeAt_of (((Ext.refl w5).drew).keeps HB2.out), rangeAt_of (((Ext.refl w5).drew).keeps HB3.out)⟩
    refine wpAnyH_take (i := 0) rfl (by kernel_rfl) (by kernel_rfl) (by kernel_rfl) (fun _ _ _ h => h) (yieldsIf_load_mid (by rfl) _ _ rfl _ _ rfl (y.map bc) _ (fun w h => h.2.1) hu rfl hiy) hHeld ?_
    simp only [Act.put, List.setIfInBounds_toArray, List.set_cons_zero, List.set_cons_succ, List.getElem_toArray, List.getElem_cons_zero, List.getElem_cons_succ]
    refine wpAnyH_take (i := 1) rfl (by kernel_rfl) (by kernel_rfl) (by kernel_rfl) (fun _ _ _ h => h) (yieldsIf_load_mid (by rfl) _ _ rfl _ _ rfl (y.map bc) _ (fun w h => h.2.2) hu rfl hiy) hHeld ?_
    simp only [Act.put, List.setIfInBounds_toArray, List.set_cons_zero, List.set_cons_succ, List.getElem_toArray, List.getElem_cons_zero, List.getElem_cons_succ]
    refine wpAnyH_take (i := 2) (v := ?va2) rfl (by kernel_rfl) (by kernel_rfl) (by kernel_rfl) (fun _ _ _ h => h) (Or.inl ⟨by rfl, ?hya2⟩) hHeld ?_
    case hya2 => intro w hSw; go_simp; try with_reducible rfl
    simp only [Act.put, List.setIfInBounds_toArray, List.set_cons_zero, List.set_cons_succ, List.getElem_toArray, List.getElem_cons_zero, List.getElem_cons_succ]
    refine wpAnyH_take (i := 3) (v := ?va3) rfl (by kernel_rfl) (by kernel_rfl) (by kernel_rfl) (fun _ _ _ h => h) (Or.inl ⟨by rfl, ?hya3⟩) hHeld ?_
    case hya3 => intro w hSw; go_simp; try with_reducible rfl
    simp only [Act.put, List.setIfInBounds_toArray, List.set_cons_zero, List.set_cons_succ, List.getElem_toArray, List.getElem_cons_zero, List.getElem_cons_succ]
    refine wpAnyH_take (i := 4) (v := ?va4) rfl (by kernel_rfl) (by kernel_rfl) (by kernel_rfl) (fun _ _ _ h => h) (Or.inl ⟨by rfl, ?hya4⟩) hHeld ?_
    case hya4 => intro w hSw; go_simp; try with_reducible rfl
    simp only [Act.put, List.setIfInBounds_toArray, List.set_cons_zero, List.set_cons_succ, List.getElem_toArray, List.getElem_cons_zero, List.getElem_cons_succ]
    refine wpAnyH_take (i := 5) (v := ?va5) rfl (by kernel_rfl) (by kernel_rfl) (by kernel_rfl) (fun _ _ _ h => h) (Or.inl ⟨by rfl, ?hya5⟩) hHeld ?_
    case hya5 => intro w hSw; go_simp; try with_reducible rfl
    simp only [Act.put, List.setIfInBounds_toArray, List.set_cons_zero, List.set_cons_succ, List.getElem_toArray, List.getElem_cons_zero, List.getElem_cons_succ]
    refine wpAnyH_take (i := 6) (v := ?va6) rfl (by kernel_rfl) (by kernel_rfl) (by kernel_rfl) (fun _ _ _ h => h) (Or.inl ⟨by rfl, ?hya6⟩) hHeld ?_
    case hya6 => intro w hSw; go_simp; try with_reducible rfl
    simp only [Act.put, List.setIfInBounds_toArray, List.set_cons_zero, List.set_cons_succ, List.getElem_toArray, List.getElem_cons_zero, List.getElem_cons_succ]
    refine wpAnyH_take (i := 7) (v := ?va7) rfl (by kernel_rfl) (by kernel_rfl) (by kernel_rfl) (fun _ _ _ h => h) (Or.inl ⟨by rfl, ?hya7⟩) hHeld ?_
    case hya7 => intro w hSw; go_simp; try with_reducible rfl
    simp only [Act.put, List.setIfInBounds_toArray, List.set_cons_zero, List.set_cons_succ, List.getElem_toArray, List.getElem_cons_zero, List.getElem_cons_succ]
    refine wpAnyH_take (i := 8) (v := ?va8) rfl (by kernel_rfl) (by kernel_rfl) (by kernel_rfl) (fun _ _ _ h => h) (Or.inl ⟨by rfl, ?hya8⟩) hHeld ?_
    case hya8 => intro w hSw; go_simp; try with_reducible rfl
    simp only [Act.put, List.setIfInBounds_toArray, List.set_cons_zero, List.set_cons_succ, List.getElem_toArray, List.getElem_cons_zero, List.getElem_cons_succ]
    refine wpAnyH_take (i := 9) (v := ?va9) rfl (by kernel_rfl) (by kernel_rfl) (by kernel_rfl) (fun _ _ _ h => h) (Or.inl ⟨by rfl, ?hya9⟩) hHeld ?_
    case hya9 => intro w hSw; go_simp; try with_reducible rfl
    simp only [Act.put, List.setIfInBounds_toArray, List.set_cons_zero, List.set_cons_succ, List.getElem_toArray, List.getElem_cons_zero, List.getElem_cons_succ]
    refine wpAnyH_take (i := 10) (v := ?va10) rfl (by kernel_rfl) (by kernel_rfl) (by kernel_rfl) (fun _ _ _ h => h) (Or.inl ⟨by rfl, ?hya10⟩) hHeld ?_
    case hya10 => intro w hSw; go_simp; try with_reducible rfl
    simp only [Act.put, List.setIfInBounds_toArray, List.set_cons_zero, List.set_cons_succ, List.getElem_toArray, List.getElem_cons_zero, List.getElem_cons_succ]
    refine wpAnyH_take (i := 11) (v := ?va11) rfl (by kernel_rfl) (by kernel_rfl) (by kernel_rfl) (fun _ _ _ h => h) (Or.inl ⟨by rfl, ?hya11⟩) hHeld ?_
    case hya11 => intro w hSw; go_simp; try with_reducible rfl
    simp only [Act.put, List.setIfInBounds_toArray, List.set_cons_zero, List.set_cons_succ, List.getElem_toArray, List.getElem_cons_zero, List.getElem_cons_succ]
    refine wpAnyH_take (i := 12) (v := ?va12) rfl (by kernel_rfl) (by kernel_rfl) (by kernel_rfl) (fun _ _ _ h => h) (Or.inl ⟨by rfl, ?hya12⟩) hHeld ?_
    case hya12 => intro w hSw; go_simp; try with_reducible rfl
    simp only [Act.put, List.setIfInBounds_toArray, List.set_cons_zero, List.set_cons_succ, List.getElem_toArray, List.getElem_cons_zero, List.getElem_cons_succ]
    refine wpAnyH_take (i := 13) (v := ?va13) rfl (by kernel_rfl) (by kernel_rfl) (by kernel_rfl) (fun _ _ _ h => h) (Or.inl ⟨by rfl, ?hya13⟩) hHeld ?_
    case hya13 => intro w hSw; go_simp; try with_reducible rfl
    simp only [Act.put, List.setIfInBounds_toArray, List.set_cons_zero, List.set_cons_succ, List.getElem_toArray, List.getElem_cons_zero, List.getElem_cons_succ]
    refine wpAnyH_take (i := 14) (v := ?va14) rfl (by kernel_rfl) (by kernel_rfl) (by kernel_rfl) (fun _ _ _ h => h) (Or.inl ⟨by rfl, ?hya14⟩) hHeld ?_
    case hya14 => intro w hSw; go_simp; try with_reducible rfl
    simp only [Act.put, List.setIfInBounds_toArray, List.set_cons_zero, List.set_cons_succ, List.getElem_toArray, List.getElem_cons_zero, List.getElem_cons_succ]
    refine wpAnyH_take (i := 15) (v := ?va15) rfl (by kernel_rfl) (by kernel_rfl) (by kernel_rfl) (fun _ _ _ h => h) (Or.inl ⟨by rfl, ?hya15⟩) hHeld ?_
    case hya15 => intro w hSw; go_simp; try with_reducible rfl
    simp only [Act.put, List.setIfInBounds_toArray, List.set_cons_zero, List.set_cons_succ, List.getElem_toArray, List.getElem_cons_zero, List.getElem_cons_succ]
    refine wpAnyH_take (i := 16) (v := ?va16) rfl (by kernel_rfl) (by kernel_rfl) (by kernel_rfl) (fun _ _ _ h => h) (Or.inl ⟨by rfl, ?hya16⟩) hHeld ?_
    case hya16 => intro w hSw; go_simp; try with_reducible rfl
    simp only [Act.put, List.setIfInBounds_toArray, List.set_cons_zero, List.set_cons_succ, List.getElem_toArray, List.getElem_cons_zero, List.getElem_cons_succ]
    refine wpAnyH_take (i := 17) (v := ?va17) rfl (by kernel_rfl) (by kernel_rfl) (by kernel_rfl) (fun _ _ _ h => h) (Or.inl ⟨by rfl, ?hya17⟩) hHeld ?_
    case hya17 => intro w hSw; go_simp; try with_reducible rfl
    simp only [Act.put, List.setIfInBounds_toArray, List.set_cons_zero, List.set_cons_succ, List.getElem_toArray, List.getElem_cons_zero, List.getElem_cons_succ]
    refine wpAnyH_take (i := 18) rfl (by kernel_rfl) (by kernel_rfl) (by kernel_rfl) (fun _ _ _ h => h) (yieldsIf_load_mid (by rfl) _ _ rfl _ _ rfl (l.map bc) _ (fun w h => h.1) hu rfl hi0) hHeld ?_
    simp only [Act.put, List.setIfInBounds_toArray, List.set_cons_zero, List.set_cons_succ, List.getElem_toArray, List.getElem_cons_zero, List.getElem_cons_succ]
    refine wpAnyH_take (i := 20) rfl (by kernel_rfl) (by kernel_rfl) (by kernel_rfl) (fun _ _ _ h => h) (yieldsIf_load_mid (by rfl) _ _ rfl _ _ rfl (l.map bc) _ (fun w h => h.1) hu rfl hi0) hHeld ?_
    simp only [Act.put, List.setIfInBounds_toArray, List.set_cons_zero, List.set_cons_succ, List.getElem_toArray, List.getElem_cons_zero, List.getElem_cons_succ]
    refine wpAnyH_all (rs := [19]) (by kernel_rfl) (by simp) ?_
    intro i hi; obtain rfl : i = 19 := by simpa using hi
    refine wpOp_run rfl (by rfl) ?_
    go_simp
    refine Calls.mono (shaText _ l hl) ?_
    rintro e w6 ⟨rfl, x6⟩
    have hHeld : w6.rangeAt G 0 (l.map bc) ∧ w6.rangeAt G2 0 (y.map bc) ∧ w6.rangeAt G4 0 (y.map bc) := ⟨rangeAt_of (((Ext.refl w5).drew.trans x6).keeps HB0.out), rangeAt_of (((Ext.refl w5).drew.trans x6).keeps HB2.out), rangeAt_of (((Ext.refl w5).drew.trans x6).keeps HB3.out)⟩
    refine ⟨hHeld, ?_⟩
    try simp only [Act.put, List.setIfInBounds_toArray, List.set_cons_zero, List.set_cons_succ, List.getElem_toArray, List.getElem_cons_zero, List.getElem_cons_succ]
    refine wpAnyH_all (rs := [21]) (by kernel_rfl) (by simp) ?_
    intro i hi; obtain rfl : i = 21 := by simpa using hi
    refine wpOp_run rfl (by rfl) ?_
    go_simp
    refine Calls.mono (refText _ l hl) ?_
    rintro e w7 ⟨rfl, x7⟩
    have hHeld : w7.rangeAt G 0 (l.map bc) ∧ w7.rangeAt G2 0 (y.map bc) ∧ w7.rangeAt G4 0 (y.map bc) := ⟨rangeAt_of ((((Ext.refl w5).drew.trans x6).trans x7).keeps HB0.out), rangeAt_of ((((Ext.refl w5).drew.trans x6).trans x7).keeps HB2.out), rangeAt_of ((((Ext.refl w5).drew.trans x6).trans x7).keeps HB3.out)⟩
    refine ⟨hHeld, ?_⟩
    try simp only [Act.put, List.setIfInBounds_toArray, List.set_cons_zero, List.set_cons_succ, List.getElem_toArray, List.getElem_cons_zero, List.getElem_cons_succ]
    refine wpAnyH_take (i := 22) (v := ?va22) rfl (by kernel_rfl) (by kernel_rfl) (by kernel_rfl) (fun _ _ _ h => h) (Or.inl ⟨by rfl, ?hya22⟩) hHeld ?_
    case hya22 => intro w hSw; go_simp; try with_reducible rfl
    simp only [Act.put, List.setIfInBounds_toArray, List.set_cons_zero, List.set_cons_succ, List.getElem_toArray, List.getElem_cons_zero, List.getElem_cons_succ]
    refine wpAnyH_take (i := 23) (v := ?va23) rfl (by kernel_rfl) (by kernel_rfl) (by kernel_rfl) (fun _ _ _ h => h) (Or.inl ⟨by rfl, ?hya23⟩) hHeld ?_
    case hya23 => intro w hSw; go_simp; try with_reducible rfl
    simp only [Act.put, List.setIfInBounds_toArray, List.set_cons_zero, List.set_cons_succ, List.getElem_toArray, List.getElem_cons_zero, List.getElem_cons_succ]
    refine wpAnyH_done (by kernel_rfl) ?_ _
    refine NoPanic.normal ?_
    clear hHeld
    have X7 : Ext w w7 := X5.trans (((Ext.refl w5).drew.trans x6).trans x7)
    have b0 := (((Ext.refl w5).drew.trans x6).trans x7).keeps HB0.out
    have b1 := (((Ext.refl w5).drew.trans x6).trans x7).keeps HB1.out
    clear x6 x7
    go_wp2_with fail
    generalize hLs : lessL l l2 = L
    have HLS := Lib.hid hLs
    go_loopg [11, 52] 32 (fun g s11 s52 wr => ∃ k : Nat, k ≤ 32 ∧ 32 - k ≤ g ∧ s11 = .bool false ∧ s52 = .int .i64 k ∧ L = lessL (l.drop k) (l2.drop k) ∧ wr.heap[G]? = some (.cells (l.map bc).toArray 25 (0, 0)) ∧ wr.heap[G + 1]? = some (.cells (l2.map bc).toArray 25 (0, 0)) ∧ Ext w wr)
    case atStart => exact ⟨0, Nat.zero_le _, by omega, rfl, rfl, hLs.symm, b0, b1, X7⟩
    case round =>
      clear b0 b1 X7 hLs
      obtain ⟨k, hk, hg, rfl, rfl, heq, b0, b1, xr⟩ := hrel
      by_cases hlt : k < 32
      · have c0 : wr.cell? ⟨G, k, none⟩ = some (.int .u8 (l[k].toNat : Int)) := by rw [block_cell b0]; simp [bc, show k < l.length from by omega]
        have c1 : wr.cell? ⟨G + 1, k, none⟩ = some (.int .u8 (l2[k].toNat : Int)) := by rw [block_cell b1]; simp [bc, show k < l2.length from by omega]
        rw [List.drop_eq_getElem_cons (show k < l.length from by omega), List.drop_eq_getElem_cons (show k < l2.length from by omega), lessL] at heq
        generalize l[k] = x at *
        generalize l2[k] = y at *
        have HC0 := Lib.hid b0
        have HC1 := Lib.hid b1
        clear b0 b1
        by_cases hxy : x = y
        · rw [if_pos hxy] at heq
          have HE := Lib.hid heq
          have e1 := u8_eq x
          subst hxy
          clear heq
          go_wp2_with fail
          go_quiet (fail)
          go_wp2_with fail
          go_roundg (32 - (k + 1))
          case measure => omega
          case rel => exact ⟨k + 1, by omega, by omega, rfl, by go_num, HE.out, ((Ext.refl wr).drewN _).keeps HC0.out, ((Ext.refl wr).drewN _).keeps HC1.out, xr.drewN _⟩
        · rw [if_neg hxy] at heq
          have HE := Lib.hid heq
          have e1 := u8_ne hxy
          clear heq
          go_wp2_with fail
          go_quiet (fail)
          go_wp2_with fail
          go_quiet (fail)
          go_wp2_with (first
            | (refine wpl_load (by rfl) 25 (.tmp 3) rfl G (by rfl) 25 (l.map bc).toArray (0, 0) _ ((((Ext.refl wr).drewN _).drewN _).keeps HC0.out) Tryd.underlying25 rfl (id_size hl) ?_)
            | (refine wpl_load (by rfl) 25 (.tmp 4) rfl (G + 1) (by rfl) 25 (l2.map bc).toArray (0, 0) _ ((((Ext.refl wr).drewN _).drewN _).keeps HC1.out) Tryd.underlying25 rfl (id_size hl2) ?_))
          refine Calls.mono (shaLess _ l l2 hl hl2) ?_
          rintro e w8 ⟨rfl, x8⟩
          rw [HLS.out]
          have hL := HE.out
          subst hL
          go_wp2
          go_ret
          exact ⟨ret_bool (by simp), (xr.drewN _).trans x8⟩
      · have : k = 32 := by omega
        subst this
        have hE : L = false := by rw [heq, List.drop_eq_nil_of_le (by omega)]; rfl
        have HC0 := Lib.hid b0
        have HC1 := Lib.hid b1
        have HE := Lib.hid hE
        clear heq b0 b1 hE
        go_wp2_with (first
          | (refine wpl_load (by rfl) 25 (.tmp 3) rfl G (by rfl) 25 (l.map bc).toArray (0, 0) _ HC0.out Tryd.underlying25 rfl (id_size hl) ?_)
          | (refine wpl_load (by rfl) 25 (.tmp 4) rfl (G + 1) (by rfl) 25 (l2.map bc).toArray (0, 0) _ HC1.out Tryd.underlying25 rfl (id_size hl2) ?_))
        refine Calls.mono (shaLess _ l l2 hl hl2) ?_
        rintro e w8 ⟨rfl, x8⟩
        rw [HLS.out]
        have hL := HE.out
        subst hL
        go_wp2
        go_ret
        exact ⟨rfl, xr.trans x8⟩
  · rw [ho, he]
    clear ho he
    go_wp2_with fail
    refine wp_region_noPanic ?_
    refine wp_region_held_drew (S := fun w' => w'.rangeAt G 0 (l.map bc) ∧ w'.rangeAt G2 0 (y.map bc) ∧ w'.rangeAt G4 0 (y.map bc)) (by kernel_rfl) ?_ (fun hHeld => ?_)
    · exact ⟨rangeAt_of (((Ext.refl w5).drew).keeps HB0.out), rangeAt_of (((Ext.refl w5).drew).keeps HB2.out), rangeAt_of (((Ext.refl w5).drew).keeps HB3.out)⟩
    refine wpAnyH_take (i := 0) rfl (by kernel_rfl) (by kernel_rfl) (by kernel_rfl) (fun _ _ _ h => h) (yieldsIf_load_mid (by rfl) _ _ rfl _ _ rfl (y.map bc) _ (fun w h => h.2.1) hu rfl hiy) hHeld ?_
    simp only [Act.put, List.setIfInBounds_toArray, List.set_cons_zero, List.set_cons_succ, List.getElem_toArray, List.getElem_cons_zero, List.getElem_cons_succ]
    refine wpAnyH_take (i := 1) rfl (by kernel_rfl) (by kernel_rfl) (by kernel_rfl) (fun _ _ _ h => h) (yieldsIf_load_mid (by rfl) _ _ rfl _ _ rfl (y.map bc) _ (fun w h => h.2.2) hu rfl hiy) hHeld ?_
    simp only [Act.put, List.setIfInBounds_toArray, List.set_cons_zero, List.set_cons_succ, List.getElem_toArray, List.getElem_cons_zero, List.getElem_cons_succ]
    refine wpAnyH_take (i := 2) (v := ?vb2) rfl (by kernel_rfl) (by kernel_rfl) (by kernel_rfl) (fun _ _ _ h => h) (Or.inl ⟨by rfl, ?hyb2⟩) hHeld ?_
    case hyb2 => intro w hSw; go_simp; try with_reducible rfl
    simp only [Act.put, List.setIfInBounds_toArray, List.set_cons_zero, List.set_cons_succ, List.getElem_toArray, List.getElem_cons_zero, List.getElem_cons_succ]
    refine wpAnyH_take (i := 3) (v := ?vb3) rfl (by kernel_rfl) (by kernel_rfl) (by kernel_rfl) (fun _ _ _ h => h) (Or.inl ⟨by rfl, ?hyb3⟩) hHeld ?_
    case hyb3 => intro w hSw; go_simp; try with_reducible rfl
    simp only [Act.put, List.setIfInBounds_toArray, List.set_cons_zero, List.set_cons_succ, List.getElem_toArray, List.getElem_cons_zero, List.getElem_cons_succ]
    refine wpAnyH_take (i := 4) (v := ?vb4) rfl (by kernel_rfl) (by kernel_rfl) (by kernel_rfl) (fun _ _ _ h => h) (Or.inl ⟨by rfl, ?hyb4⟩) hHeld ?_
    case hyb4 => intro w hSw; go_simp; try with_reducible rfl
    simp only [Act.put, List.setIfInBounds_toArray, List.set_cons_zero, List.set_cons_succ, List.getElem_toArray, List.getElem_cons_zero, List.getElem_cons_succ]
    refine wpAnyH_take (i := 5) (v := ?vb5) rfl (by kernel_rfl) (by kernel_rfl) (by kernel_rfl) (fun _ _ _ h => h) (Or.inl ⟨by rfl, ?hyb5⟩) hHeld ?_
    case hyb5 => intro w hSw; go_simp; try with_reducible rfl
    simp only [Act.put, List.setIfInBounds_toArray, List.set_cons_zero, List.set_cons_succ, List.getElem_toArray, List.getElem_cons_zero, List.getElem_cons_succ]
    refine wpAnyH_take (i := 6) (v := ?vb6) rfl (by kernel_rfl) (by kernel_rfl) (by kernel_rfl) (fun _ _ _ h => h) (Or.inl ⟨by rfl, ?hyb6⟩) hHeld ?_
    case hyb6 => intro w hSw; go_simp; try with_reducible rfl
    simp only [Act.put, List.setIfInBounds_toArray, List.set_cons_zero, List.set_cons_succ, List.getElem_toArray, List.getElem_cons_zero, List.getElem_cons_succ]
    refine wpAnyH_take (i := 7) (v := ?vb7) rfl (by kernel_rfl) (by kernel_rfl) (by kernel_rfl) (fun _ _ _ h => h) (Or.inl ⟨by rfl, ?hyb7⟩) hHeld ?_
    case hyb7 => intro w hSw; go_simp; try with_reducible rfl
    simp only [Act.put, List.setIfInBounds_toArray, List.set_cons_zero, List.set_cons_succ, List.getElem_toArray, List.getElem_cons_zero, List.getElem_cons_succ]
    refine wpAnyH_take (i := 8) (v := ?vb8) rfl (by kernel_rfl) (by kernel_rfl) (by kernel_rfl) (fun _ _ _ h => h) (Or.inl ⟨by rfl, ?hyb8⟩) hHeld ?_
    case hyb8 => intro w hSw; go_simp; try with_reducible rfl
    simp only [Act.put, List.setIfInBounds_toArray, List.set_cons_zero, List.set_cons_succ, List.getElem_toArray, List.getElem_cons_zero, List.getElem_cons_succ]
    refine wpAnyH_take (i := 9) (v := ?vb9) rfl (by kernel_rfl) (by kernel_rfl) (by kernel_rfl) (fun _ _ _ h => h) (Or.inl ⟨by rfl, ?hyb9⟩) hHeld ?_
    case hyb9 => intro w hSw; go_simp; try with_reducible rfl
    simp only [Act.put, List.setIfInBounds_toArray, List.set_cons_zero, List.set_cons_succ, List.getElem_toArray, List.getElem_cons_zero, List.getElem_cons_succ]
    refine wpAnyH_take (i := 10) (v := ?vb10) rfl (by kernel_rfl) (by kernel_rfl) (by kernel_rfl) (fun _ _ _ h => h) (Or.inl ⟨by rfl, ?hyb10⟩) hHeld ?_
    case hyb10 => intro w hSw; go_simp; try with_reducible rfl
    simp only [Act.put, List.setIfInBounds_toArray, List.set_cons_zero, List.set_cons_succ, List.getElem_toArray, List.getElem_cons_zero, List.getElem_cons_succ]
    refine wpAnyH_take (i := 11) (v := ?vb11) rfl (by kernel_rfl) (by kernel_rfl) (by kernel_rfl) (fun _ _ _ h => h) (Or.inl ⟨by rfl, ?hyb11⟩) hHeld ?_
    case hyb11 => intro w hSw; go_simp; try with_reducible rfl
    simp only [Act.put, List.setIfInBounds_toArray, List.set_cons_zero, List.set_cons_succ, List.getElem_toArray, List.getElem_cons_zero, List.getElem_cons_succ]
    refine wpAnyH_take (i := 12) (v := ?vb12) rfl (by kernel_rfl) (by kernel_rfl) (by kernel_rfl) (fun _ _ _ h => h) (Or.inl ⟨by rfl, ?hyb12⟩) hHeld ?_
    case hyb12 => intro w hSw; go_simp; try with_reducible rfl
    simp only [Act.put, List.setIfInBounds_toArray, List.set_cons_zero, List.set_cons_succ, List.getElem_toArray, List.getElem_cons_zero, List.getElem_cons_succ]
    refine wpAnyH_take (i := 13) (v := undef) rfl (by kernel_rfl) (by kernel_rfl) (by kernel_rfl) (fun _ _ _ h => h) (Or.inr ⟨by rfl, rfl⟩) hHeld ?_
    simp only [Act.put, List.setIfInBounds_toArray, List.set_cons_zero, List.set_cons_succ, List.getElem_toArray, List.getElem_cons_zero, List.getElem_cons_succ]
    refine wpAnyH_take (i := 14) (v := undef) rfl (by kernel_rfl) (by kernel_rfl) (by kernel_rfl) (fun _ _ _ h => h) (Or.inr ⟨by rfl, rfl⟩) hHeld ?_
    simp only [Act.put, List.setIfInBounds_toArray, List.set_cons_zero, List.set_cons_succ, List.getElem_toArray, List.getElem_cons_zero, List.getElem_cons_succ]
    refine wpAnyH_take (i := 15) (v := ?vb15) rfl (by kernel_rfl) (by kernel_rfl) (by kernel_rfl) (fun _ _ _ h => h) (Or.inl ⟨by rfl, ?hyb15⟩) hHeld ?_
    case hyb15 => intro w hSw; go_simp; try with_reducible rfl
    simp only [Act.put, List.setIfInBounds_toArray, List.set_cons_zero, List.set_cons_succ, List.getElem_toArray, List.getElem_cons_zero, List.getElem_cons_succ]
    refine wpAnyH_take (i := 16) (v := ?vb16) rfl (by kernel_rfl) (by kernel_rfl) (by kernel_rfl) (fun _ _ _ h => h) (Or.inl ⟨by rfl, ?hyb16⟩) hHeld ?_
    case hyb16 => intro w hSw; go_simp; try with_reducible rfl
    simp only [Act.put, List.setIfInBounds_toArray, List.set_cons_zero, List.set_cons_succ, List.getElem_toArray, List.getElem_cons_zero, List.getElem_cons_succ]
    refine wpAnyH_take (i := 17) (v := ?vb17) rfl (by kernel_rfl) (by kernel_rfl) (by kernel_rfl) (fun _ _ _ h => h) (Or.inl ⟨by rfl, ?hyb17⟩) hHeld ?_
    case hyb17 => intro w hSw; go_simp; try with_reducible rfl
    simp only [Act.put, List.setIfInBounds_toArray, List.set_cons_zero, List.set_cons_succ, List.getElem_toArray, List.getElem_cons_zero, List.getElem_cons_succ]
    refine wpAnyH_take (i := 18) rfl (by kernel_rfl) (by kernel_rfl) (by kernel_rfl) (fun _ _ _ h => h) (yieldsIf_load_mid (by rfl) _ _ rfl _ _ rfl (l.map bc) _ (fun w h => h.1) hu rfl hi0) hHeld ?_
    simp only [Act.put, List.setIfInBounds_toArray, List.set_cons_zero, List.set_cons_succ, List.getElem_toArray, List.getElem_cons_zero, List.getElem_cons_succ]
    refine wpAnyH_take (i := 20) rfl (by kernel_rfl) (by kernel_rfl) (by kernel_rfl) (fun _ _ _ h => h) (yieldsIf_load_mid (by rfl) _ _ rfl _ _ rfl (l.map bc) _ (fun w h => h.1) hu rfl hi0) hHeld ?_
    simp only [Act.put, List.setIfInBounds_toArray, List.set_cons_zero, List.set_cons_succ, List.getElem_toArray, List.getElem_cons_zero, List.getElem_cons_succ]
    refine wpAnyH_all (rs := [19]) (by kernel_rfl) (by simp) ?_
    intro i hi; obtain rfl : i = 19 := by simpa using hi
    refine wpOp_run rfl (by rfl) ?_
    go_simp
    refine Calls.mono (shaText _ l hl) ?_
    rintro e w6 ⟨rfl, x6⟩
    have hHeld : w6.rangeAt G 0 (l.map bc) ∧ w6.rangeAt G2 0 (y.map bc) ∧ w6.rangeAt G4 0 (y.map bc) := ⟨rangeAt_of (((Ext.refl w5).drew.trans x6).keeps HB0.out), rangeAt_of (((Ext.refl w5).drew.trans x6).keeps HB2.out), rangeAt_of (((Ext.refl w5).drew.trans x6).keeps HB3.out)⟩
    refine ⟨hHeld, ?_⟩
    try simp only [Act.put, List.setIfInBounds_toArray, List.set_cons_zero, List.set_cons_succ, List.getElem_toArray, List.getElem_cons_zero, List.getElem_cons_succ]
    refine wpAnyH_all (rs := [21]) (by kernel_rfl) (by simp) ?_
    intro i hi; obtain rfl : i = 21 := by simpa using hi
    refine wpOp_run rfl (by rfl) ?_
    go_simp
    refine Calls.mono (refText _ l hl) ?_
    rintro e w7 ⟨rfl, x7⟩
    have hHeld : w7.rangeAt G 0 (l.map bc) ∧ w7.rangeAt G2 0 (y.map bc) ∧ w7.rangeAt G4 0 (y.map bc) := ⟨rangeAt_of ((((Ext.refl w5).drew.trans x6).trans x7).keeps HB0.out), rangeAt_of ((((Ext.refl w5).drew.trans x6).trans x7).keeps HB2.out), rangeAt_of ((((Ext.refl w5).drew.trans x6).trans x7).keeps HB3.out)⟩
    refine ⟨hHeld, ?_⟩
    try simp only [Act.put, List.setIfInBounds_toArray, List.set_cons_zero, List.set_cons_succ, List.getElem_toArray, List.getElem_cons_zero, List.getElem_cons_succ]
    refine wpAnyH_take (i := 22) (v := ?vb22) rfl (by kernel_rfl) (by kernel_rfl) (by kernel_rfl) (fun _ _ _ h => h) (Or.inl ⟨by rfl, ?hyb22⟩) hHeld ?_
    case hyb22 => intro w hSw; go_simp; try with_reducible rfl
    simp only [Act.put, List.setIfInBounds_toArray, List.set_cons_zero, List.set_cons_succ, List.getElem_toArray, List.getElem_cons_zero, List.getElem_cons_succ]
    refine wpAnyH_take (i := 23) (v := ?vb23) rfl (by kernel_rfl) (by kernel_rfl) (by kernel_rfl) (fun _ _ _ h => h) (Or.inl ⟨by rfl, ?hyb23⟩) hHeld ?_
    case hyb23 => intro w hSw; go_simp; try with_reducible rfl
    simp only [Act.put, List.setIfInBounds_toArray, List.set_cons_zero, List.set_cons_succ, List.getElem_toArray, List.getElem_cons_zero, List.getElem_cons_succ]
    refine wpAnyH_done (by kernel_rfl) ?_ _
    refine NoPanic.normal ?_
    clear hHeld
    have X7 : Ext w w7 := X5.trans (((Ext.refl w5).drew.trans x6).trans x7)
    have b0 := (((Ext.refl w5).drew.trans x6).trans x7).keeps HB0.out
    have b1 := (((Ext.refl w5).drew.trans x6).trans x7).keeps HB1.out
    clear x6 x7
    go_wp2_with fail
    generalize hLs : lessL l l2 = L
    have HLS := Lib.hid hLs
    go_loopg [11, 52] 32 (fun g s11 s52 wr => ∃ k : Nat, k ≤ 32 ∧ 32 - k ≤ g ∧ s11 = .bool false ∧ s52 = .int .i64 k ∧ L = lessL (l.drop k) (l2.drop k) ∧ wr.heap[G]? = some (.cells (l.map bc).toArray 25 (0, 0)) ∧ wr.heap[G + 1]? = some (.cells (l2.map bc).toArray 25 (0, 0)) ∧ Ext w wr)
    case atStart => exact ⟨0, Nat.zero_le _, by omega, rfl, rfl, hLs.symm, b0, b1, X7⟩
    case round =>
      clear b0 b1 X7 hLs
      obtain ⟨k, hk, hg, rfl, rfl, heq, b0, b1, xr⟩ := hrel
      by_cases hlt : k < 32
      · have c0 : wr.cell? ⟨G, k, none⟩ = some (.int .u8 (l[k].toNat : Int)) := by rw [block_cell b0]; simp [bc, show k < l.length from by omega]
        have c1 : wr.cell? ⟨G + 1, k, none⟩ = some (.int .u8 (l2[k].toNat : Int)) := by rw [block_cell b1]; simp [bc, show k < l2.length from by omega]
        rw [List.drop_eq_getElem_cons (show k < l.length from by omega), List.drop_eq_getElem_cons (show k < l2.length from by omega), lessL] at heq
        generalize l[k] = x at *
        generalize l2[k] = y at *
        have HC0 := Lib.hid b0
        have HC1 := Lib.hid b1
        clear b0 b1
        by_cases hxy : x = y
        · rw [if_pos hxy] at heq
          have HE := Lib.hid heq
          have e1 := u8_eq x
          subst hxy
          clear heq
          go_wp2_with fail
          go_quiet (fail)
          go_wp2_with fail
          go_roundg (32 - (k + 1))
          case measure => omega
          case rel => exact ⟨k + 1, by omega, by omega, rfl, by go_num, HE.out, ((Ext.refl wr).drewN _).keeps HC0.out, ((Ext.refl wr).drewN _).keeps HC1.out, xr.drewN _⟩
        · rw [if_neg hxy] at heq
          have HE := Lib.hid heq
          have e1 := u8_ne hxy
          clear heq
          go_wp2_with fail
          go_quiet (fail)
          go_wp2_with fail
          go_quiet (fail)
          go_wp2_with (first
            | (refine wpl_load (by rfl) 25 (.tmp 3) rfl G (by rfl) 25 (l.map bc).toArray (0, 0) _ ((((Ext.refl wr).drewN _).drewN _).keeps HC0.out) Tryd.underlying25 rfl (id_size hl) ?_)
            | (refine wpl_load (by rfl) 25 (.tmp 4) rfl (G + 1) (by rfl) 25 (l2.map bc).toArray (0, 0) _ ((((Ext.refl wr).drewN _).drewN _).keeps HC1.out) Tryd.underlying25 rfl (id_size hl2) ?_))
          refine Calls.mono (shaLess _ l l2 hl hl2) ?_
          rintro e w8 ⟨rfl, x8⟩
          rw [HLS.out]
          have hL := HE.out
          subst hL
          go_wp2
          go_ret
          exact ⟨ret_bool (by simp), (xr.drewN _).trans x8⟩
      · have : k = 32 := by omega
        subst this
        have hE : L = false := by rw [heq, List.drop_eq_nil_of_le (by omega)]; rfl
        have HC0 := Lib.hid b0
        have HC1 := Lib.hid b1
        have HE := Lib.hid hE
        clear heq b0 b1 hE
        go_wp2_with (first
          | (refine wpl_load (by rfl) 25 (.tmp 3) rfl G (by rfl) 25 (l.map bc).toArray (0, 0) _ HC0.out Tryd.underlying25 rfl (id_size hl) ?_)
          | (refine wpl_load (by rfl) 25 (.tmp 4) rfl (G + 1) (by rfl) 25 (l2.map bc).toArray (0, 0) _ HC1.out Tryd.underlying25 rfl (id_size hl2) ?_))
        refine Calls.mono (shaLess _ l l2 hl hl2) ?_
        rintro e w8 ⟨rfl, x8⟩
        rw [HLS.out]
        have hL := HE.out
        subst hL
        go_wp2
        go_ret
        exact ⟨rfl, xr.trans x8⟩
end Go.Proofs.YtfnmfnihgocheaaDoor
