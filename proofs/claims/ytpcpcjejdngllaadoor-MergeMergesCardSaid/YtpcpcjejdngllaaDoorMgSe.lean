/- The walk of the statement MergeSelf. -/
import Derived.Test.YtpcpcjejdngllaaDoorMgX
import Derived.Test.YtpcpcjejdngllaaDoorMgQ
import Derived.Test.YtpcpcjejdngllaaDoorRegC
import Derived.Test.YtpcpcjejdngllaaDoorMgOp
namespace Go.Proofs.YtpcpcjejdngllaaDoor
open Go.RowKit
set_option linter.unusedVariables false
set_option linter.unusedSimpArgs false

theorem isF_ok {w : World} {b : Nat} {e : TypeId} {v : Value} {l : List Fl} (h : w.ownsRow b e 2 v l.length (l.flatMap flC)) (k : ∀ f ∈ l, flOk f) : IsF w v l := ⟨IsSl.of_owns h, k⟩
set_option maxHeartbeats 8000000 in
set_option maxRecDepth 100000 in
theorem walkMergeSelfI (w : World) (u0 u1 : Value) (f0 f1 : List Fl) (h0 : IsF w u0 f0) (h1 : IsF w u1 f1) :
    Calls Tryd.prog 6 #[.agg #[u0], .agg #[u1]] w fun e w' => e = .returned (.bool true) ∧ Ext w w' := by
  obtain ⟨a0, c0, rfl, _, _, _, _⟩ := h0.opened
  obtain ⟨a1, c1, rfl, _, _, _, _⟩ := h1.opened
  have b0 := blk_old (o := .cells #[.slice a1 f1.length c1] 24) (heap_alloc_new w (.cells #[.slice a0 f0.length c0] 24))
  have b1 := blk_new (w := w.alloc (.cells #[.slice a0 f0.length c0] 24)) (b := w.heap.size + 1) (o := .cells #[.slice a1 f1.length c1] 24) (by simp)
  have X := ((Ext.refl w).alloc (.cells #[.slice a0 f0.length c0] 24)).alloc (.cells #[.slice a1 f1.length c1] 24)
  have h0 := h0.ext X
  have h1 := h1.ext X
  go_enter Tryd.func6, Tryd.ntmps6
  go_wp2_with fail
  generalize (w.alloc (.cells #[.slice a0 f0.length c0] 24)).alloc (.cells #[.slice a1 f1.length c1] 24) = w1 at *
  obtain ⟨B, hB⟩ : ∃ B, w.heap.size = B := ⟨_, rfl⟩
  have hBw : w.heap.size ≤ B := by omega
  rw [hB] at b0 b1
  rw [hB]
  clear hB
  refine Calls.mono (mWakes _) ?_
  rintro e w2 ⟨rfl, x1⟩
  have X := X.trans x1
  have b0 := x1.keeps b0
  have b1 := x1.keeps b1
  have h0 := h0.ext x1
  have h1 := h1.ext x1
  clear x1
  go_wp2_with fail
  have hlt : B + 1 < w2.heap.size := block_lt b1
  have k0 : w2.cell? ⟨B, 0, none⟩ = some (.slice a0 f0.length c0) := by rw [block_cell b0]; rfl
  have k1 : w2.cell? ⟨B + 1, 0, none⟩ = some (.slice a1 f1.length c1) := by rw [block_cell b1]; rfl
  refine wp_region_G 3 (fun v => Ext w2 v) (by kernel_rfl) fun wd hqd hHeld => ?_
  refine C_take (i := 0) (u := ?vc0) [1, 3] rfl (by kernel_rfl) (by kernel_rfl) (by kernel_rfl) (fun _ _ _ h => h) (by kernel_rfl) (by kernel_rfl) (by kernel_rfl) (by kernel_rfl) (Or.inl ⟨by rfl, ?hyc0⟩) hHeld ?_
  case hyc0 => (intro w hSw; have k := hSw.cell k0; go_simp; try with_reducible rfl)
  simp only [Act.put, List.setIfInBounds_toArray, List.set_cons_zero, List.set_cons_succ, List.getElem_toArray, List.getElem_cons_zero, List.getElem_cons_succ]
  refine C_take (i := 2) (u := ?vc2) [3] rfl (by kernel_rfl) (by kernel_rfl) (by kernel_rfl) (fun _ _ _ h => h) (by kernel_rfl) (by kernel_rfl) (by kernel_rfl) (by kernel_rfl) (Or.inl ⟨by rfl, ?hyc2⟩) hHeld ?_
  case hyc2 => (intro w hSw; have k := hSw.cell k1; go_simp; try with_reducible rfl)
  simp only [Act.put, List.setIfInBounds_toArray, List.set_cons_zero, List.set_cons_succ, List.getElem_toArray, List.getElem_cons_zero, List.getElem_cons_succ]
  refine G_all (rs := [1]) (by kernel_rfl) (by simp) ?_
  intro i hi; obtain rfl : i = 1 := by simpa using hi
  refine wpOp_run rfl (by rfl) ?_
  go_simp
  refine Calls.mono (lawShort wd _ f0 (h0.ext hHeld)) ?_
  rintro e wc ⟨v0, rfl, own0, xc⟩
  have hHeld := hHeld.trans xc
  first | refine ⟨hHeld, ?_⟩ | refine ⟨fun _ => hHeld, ?_⟩
  try simp only [Act.put, List.setIfInBounds_toArray, List.set_cons_zero, List.set_cons_succ, List.getElem_toArray, List.getElem_cons_zero, List.getElem_cons_succ]
  refine G_all (rs := [3]) (by kernel_rfl) (by simp) ?_
  intro i hi; obtain rfl : i = 3 := by simpa using hi
  refine wpOp_run rfl (by rfl) ?_
  go_simp
  refine Calls.mono (lawShort wc _ f1 (h1.ext hHeld)) ?_
  rintro e wc2 ⟨v1, rfl, own1, xc2⟩
  have hHeld := hHeld.trans xc2
  have own0 := owns_extU own0 xc2
  try refine ⟨fun e => absurd e (by decide), ?_⟩
  refine G_free _ _ _ _ (by kernel_rfl) ?_
  try simp only [Act.put, List.setIfInBounds_toArray, List.set_cons_zero, List.set_cons_succ, List.getElem_toArray, List.getElem_cons_zero, List.getElem_cons_succ]
  have b0 := hHeld.keeps b0
  have b1 := hHeld.keeps b1
  have X := X.trans hHeld
  obtain ⟨a2, c2, rfl⟩ := slice_shape own0
  obtain ⟨a3, c3, rfl⟩ := slice_shape own1
  refine wpAny_all (rs := [4]) (by kernel_rfl) (by simp) ?_
  intro i hi; obtain rfl : i = 4 := by simpa using hi
  refine wpOp_run rfl (by rfl) ?_
  refine wp_store_row 24 (.tmp 2) (.tmp 20) rfl B #[.slice a2 (shortF f0).length c2] (by rfl) (by rfl) 24 _ b0 (info1M _) rfl (slice_oneM _ _ _) ?_
  have own0 := own0.kept (grown_rowM (c := #[.slice a2 (shortF f0).length c2])) (.inr (own_neU own0 b0 (by decide)))
  have own1 := own1.kept (grown_rowM (c := #[.slice a2 (shortF f0).length c2])) (.inr (own_neU own1 b0 (by decide)))
  have b1 : (wc2.setRow B #[.slice a2 (shortF f0).length c2]).heap[B + 1]? = _ := (setRow_other _ _ _ _ (by omega)).trans b1
  have b0 := setRow_heap wc2 B _ #[.slice a2 (shortF f0).length c2] _ _ b0
  have X := X.grown (grown_rowM (g := B) (c := #[.slice a2 (shortF f0).length c2])) (fun k hk => by cases hk; exact hBw)
  generalize wc2.setRow B #[.slice a2 (shortF f0).length c2] = w3 at *
  refine wpAny_all (rs := [5]) (by kernel_rfl) (by simp) ?_
  intro i hi; obtain rfl : i = 5 := by simpa using hi
  refine wpOp_run rfl (by rfl) ?_
  refine wp_store_row 24 (.tmp 3) (.tmp 22) rfl (B + 1) #[.slice a3 (shortF f1).length c3] (by rfl) (by rfl) 24 _ b1 (info1M _) rfl (slice_oneM _ _ _) ?_
  have own0 := own0.kept (grown_rowM (c := #[.slice a3 (shortF f1).length c3])) (.inr (own_neU own0 b1 (by decide)))
  have own1 := own1.kept (grown_rowM (c := #[.slice a3 (shortF f1).length c3])) (.inr (own_neU own1 b1 (by decide)))
  have b0 : (w3.setRow (B + 1) #[.slice a3 (shortF f1).length c3]).heap[B]? = _ := (setRow_other _ _ _ _ (by omega)).trans b0
  have b1 := setRow_heap w3 (B + 1) _ #[.slice a3 (shortF f1).length c3] _ _ b1
  have X := X.grown (grown_rowM (g := B + 1) (c := #[.slice a3 (shortF f1).length c3])) (fun k hk => by cases hk; omega)
  generalize w3.setRow (B + 1) #[.slice a3 (shortF f1).length c3] = w4 at *
  refine wpAny_done (by kernel_rfl) ?_ _
  refine NoPanic.normal ?_
  have H0 := isF_ok own0 (shortF_ok f0)
  have H1 := isF_ok own1 (shortF_ok f1)
  have k0 : w4.cell? ⟨B, 0, none⟩ = some (.slice a2 (shortF f0).length c2) := by rw [block_cell b0]; rfl
  have k1 : w4.cell? ⟨B + 1, 0, none⟩ = some (.slice a3 (shortF f1).length c3) := by rw [block_cell b1]; rfl
  clear own0 own1 b0 b1 hHeld xc xc2 hqd h0 h1
  generalize shortF f0 = s0 at *
  generalize shortF f1 = s1 at *
  simp only [Act.put, List.setIfInBounds_toArray, List.set_cons_zero, List.set_cons_succ, List.getElem_toArray, List.getElem_cons_zero, List.getElem_cons_succ]
  have EC0 := treeCheck w4 _ s0 H0
  rcases hr0 : repoB s0 with _ | _
  · rw [hr0] at EC0
    go_wp2_with fail
    refine Calls.mono EC0 ?_
    rintro e w5 ⟨rfl, x5⟩
    have k0 := x5.cell k0
    have k1 := x5.cell k1
    clear EC0
    have E := mergeMerge w5 _ _ _ s0 s1 s0 (H0.ext x5) (H1.ext x5) (H0.ext x5)
    rw [merge_bad (by rw [hr0]; simp)] at E
    go_wp2_with fail
    refine Calls.mono E ?_
    rintro e w9 ⟨vr, vc, rfl, ownR, ownC, x9⟩
    obtain ⟨ar, cr, rfl⟩ := slice_shape ownR
    obtain ⟨ac, cc, rfl⟩ := slice_shape ownC
    have X9 := ((X.trans x5).trans x9).alloc (.cells #[.slice ar 0 cr] 24)
    clear E ownR ownC
    go_wp2_with fail
    go_ret
    exact ⟨ret_bool2 (by decide), X9⟩
  · rw [hr0] at EC0
    go_wp2_with fail
    refine Calls.mono EC0 ?_
    rintro e w5 ⟨rfl, x⟩
    have k0 := x.cell k0
    have k1 := x.cell k1
    have EC1 := treeCheck w5 _ s1 (H1.ext x)
    clear EC0
    rcases hr1 : repoB s1 with _ | _
    · rw [hr1] at EC1
      go_wp2_with fail
      refine Calls.mono EC1 ?_
      rintro e w6 ⟨rfl, x6⟩
      have k0 := x6.cell k0
      have k1 := x6.cell k1
      have x := x.trans x6
      clear EC1
      have E := mergeMerge w6 _ _ _ s0 s1 s0 (H0.ext x) (H1.ext x) (H0.ext x)
      rw [merge_bad (by rw [hr1]; simp)] at E
      go_wp2_with fail
      refine Calls.mono E ?_
      rintro e w9 ⟨vr, vc, rfl, ownR, ownC, x9⟩
      obtain ⟨ar, cr, rfl⟩ := slice_shape ownR
      obtain ⟨ac, cc, rfl⟩ := slice_shape ownC
      have X9 := ((X.trans x).trans x9).alloc (.cells #[.slice ar 0 cr] 24)
      clear E ownR ownC
      go_wp2_with fail
      go_ret
      exact ⟨ret_bool2 (by decide), X9⟩
    rw [hr1] at EC1
    go_wp2_with fail
    refine Calls.mono EC1 ?_
    rintro e w6 ⟨rfl, x6⟩
    have k0 := x6.cell k0
    have k1 := x6.cell k1
    have x := x.trans x6
    clear EC1 x6
    have MS := merge_self hr0 hr1
    have HOK := Lib.hid H1.ok
    have HR0 := Lib.hid hr0
    have HR1 := Lib.hid hr1
    clear hr0 hr1
    have E := mergeMerge w6 _ _ _ s0 s1 s0 (H0.ext x) (H1.ext x) (H0.ext x)
    rw [MS.1] at E
    go_wp2_with fail
    refine Calls.mono E ?_
    rintro e w7 ⟨vr, vc, rfl, ownR, ownC, xn⟩
    clear E
    obtain ⟨r1, cr1, rfl⟩ := slice_shape ownR
    obtain ⟨ac1, cc1, rfl⟩ := slice_shape ownC
    have IR := isF_ok ownR HOK.out
    have bN := heap_alloc_new w7 (.cells #[.slice r1 s1.length cr1] 24)
    have xn := xn.alloc (.cells #[.slice r1 s1.length cr1] 24)
    have IR1 := IR.ext ((Ext.refl w7).alloc (.cells #[.slice r1 s1.length cr1] 24))
    have m1 : (w7.alloc (.cells #[.slice r1 s1.length cr1] 24)).cell? ⟨w7.heap.size, 0, none⟩ = some (.slice r1 s1.length cr1) := by rw [block_cell bN]; rfl
    clear IR bN ownR ownC
    have k0 := xn.cell k0
    have k1 := xn.cell k1
    have x := x.trans xn
    clear xn
    go_wp2_with fail
    generalize w7.alloc (.cells #[.slice r1 s1.length cr1] 24) = w8 at *
    generalize w7.heap.size = N1 at *
    have E := mergeMerge w8 _ _ _ s0 s0 s1 (H0.ext x) (H0.ext x) (H1.ext x)
    rw [MS.2.1] at E
    go_wp2_with fail
    refine Calls.mono E ?_
    rintro e w9 ⟨vr, vc, rfl, ownR, ownC, xn⟩
    clear E
    obtain ⟨r2, cr2, rfl⟩ := slice_shape ownR
    obtain ⟨ac2, cc2, rfl⟩ := slice_shape ownC
    have IR := isF_ok ownR HOK.out
    have bN := heap_alloc_new w9 (.cells #[.slice r2 s1.length cr2] 24)
    have xn := xn.alloc (.cells #[.slice r2 s1.length cr2] 24)
    have IR2 := IR.ext ((Ext.refl w9).alloc (.cells #[.slice r2 s1.length cr2] 24))
    have m2 : (w9.alloc (.cells #[.slice r2 s1.length cr2] 24)).cell? ⟨w9.heap.size, 0, none⟩ = some (.slice r2 s1.length cr2) := by rw [block_cell bN]; rfl
    clear IR bN ownR ownC
    have k0 := xn.cell k0
    have k1 := xn.cell k1
    have x := x.trans xn
    have IR1 := IR1.ext xn
    have m1 := xn.cell m1
    clear xn
    go_wp2_with fail
    generalize w9.alloc (.cells #[.slice r2 s1.length cr2] 24) = w10 at *
    generalize w9.heap.size = N2 at *
    have E := mergeMerge w10 _ _ _ s0 s1 s1 (H0.ext x) (H1.ext x) (H1.ext x)
    rw [MS.2.2] at E
    go_wp2_with fail
    refine Calls.mono E ?_
    rintro e w11 ⟨vr, vc, rfl, ownR, ownC, xn⟩
    clear E
    obtain ⟨r3, cr3, rfl⟩ := slice_shape ownR
    obtain ⟨ac3, cc3, rfl⟩ := slice_shape ownC
    have IR := isF_ok ownR HOK.out
    have bN := heap_alloc_new w11 (.cells #[.slice r3 s1.length cr3] 24)
    have xn := xn.alloc (.cells #[.slice r3 s1.length cr3] 24)
    have IR3 := IR.ext ((Ext.refl w11).alloc (.cells #[.slice r3 s1.length cr3] 24))
    have m3 : (w11.alloc (.cells #[.slice r3 s1.length cr3] 24)).cell? ⟨w11.heap.size, 0, none⟩ = some (.slice r3 s1.length cr3) := by rw [block_cell bN]; rfl
    clear IR bN ownR ownC
    have k0 := xn.cell k0
    have k1 := xn.cell k1
    have x := x.trans xn
    have IR1 := IR1.ext xn
    have m1 := xn.cell m1
    have IR2 := IR2.ext xn
    have m2 := xn.cell m2
    clear xn
    go_wp2_with fail
    generalize w11.alloc (.cells #[.slice r3 s1.length cr3] 24) = w12 at *
    generalize w11.heap.size = N3 at *
    refine Calls.mono (treeSame w12 _ _ s1 s1 IR1 (H1.ext x)) ?_
    rintro e w13 ⟨rfl, y⟩
    have x := x.trans y
    have k1 := y.cell k1
    have m2 := y.cell m2
    have m3 := y.cell m3
    have IR2 := IR2.ext y
    have IR3 := IR3.ext y
    clear y
    rw [decide_eq_true (rfl : s1 = s1)]
    go_wp2_with fail
    refine Calls.mono (treeSame w13 _ _ s1 s1 IR2 (H1.ext x)) ?_
    rintro e w14 ⟨rfl, y⟩
    have x := x.trans y
    have k1 := y.cell k1
    have m3 := y.cell m3
    have IR3 := IR3.ext y
    clear y
    rw [decide_eq_true (rfl : s1 = s1)]
    go_wp2_with fail
    refine Calls.mono (treeSame w14 _ _ s1 s1 IR3 (H1.ext x)) ?_
    rintro e w15 ⟨rfl, y⟩
    have x := x.trans y
    rw [decide_eq_true (rfl : s1 = s1)]
    go_wp2_with fail
    go_ret
    exact ⟨rfl, X.trans x⟩
theorem walkMergeSelf (w : World) (v0 : Value) (f0 : List Fl) (h0 : ArgRepo w v0 f0) (v1 : Value) (f1 : List Fl) (h1 : ArgRepo w v1 f1) :
    Calls Tryd.prog 6 #[v0, v1] w fun e w' => e = .returned (.bool true) ∧ Below w.heap.size w w' := by
  obtain ⟨u0, rfl, k0⟩ := h0
  obtain ⟨u1, rfl, k1⟩ := h1
  exact walkMergeSelfI w u0 u1 f0 f1 k0 k1

end Go.Proofs.YtpcpcjejdngllaaDoor
