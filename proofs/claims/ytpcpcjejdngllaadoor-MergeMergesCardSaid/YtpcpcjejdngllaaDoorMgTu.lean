/- The walk of the statement MergeTurned. -/
import Derived.Test.YtpcpcjejdngllaaDoorMgX
import Derived.Test.YtpcpcjejdngllaaDoorMgQ
import Derived.Test.YtpcpcjejdngllaaDoorMgFe
import Derived.Test.YtpcpcjejdngllaaDoorMgTh
namespace Go.Proofs.YtpcpcjejdngllaaDoor
open Go.RowKit
set_option linter.unusedVariables false
set_option linter.unusedSimpArgs false

theorem mergeL_ok {f0 f1 f2 : List Fl} (h0 : ∀ f ∈ f0, flOk f) (h1 : ∀ f ∈ f1, flOk f) (h2 : ∀ f ∈ f2, flOk f) : ∀ f ∈ (mergeL f0 f1 f2).1, flOk f := by
  unfold mergeL
  split
  · intro f hf; cases hf
  · split
    · intro f hf; cases hf
    · split
      · intro f hf; cases hf
      · exact mgdM_ok h0 h1 h2
theorem len_ne_self (n : Nat) : ((n : Int) != (n : Int)) = false := by simp
set_option maxHeartbeats 8000000 in
set_option maxRecDepth 100000 in
theorem walkMergeTurnedI (w : World) (u0 u1 u2 : Value) (f0 f1 f2 : List Fl) (h0 : IsF w u0 f0) (h1 : IsF w u1 f1) (h2 : IsF w u2 f2) :
    Calls Tryd.prog 7 #[.agg #[u0, u1, u2]] w fun e w' => e = .returned (.bool true) ∧ Ext w w' := by
  obtain ⟨a0, c0, rfl, _, _, _, _⟩ := h0.opened
  obtain ⟨a1, c1, rfl, _, _, _, _⟩ := h1.opened
  obtain ⟨a2, c2, rfl, _, _, _, _⟩ := h2.opened
  have b0 := heap_alloc_new w (.cells #[.slice a0 f0.length c0, .slice a1 f1.length c1, .slice a2 f2.length c2] 26)
  have X := (Ext.refl w).alloc (.cells #[.slice a0 f0.length c0, .slice a1 f1.length c1, .slice a2 f2.length c2] 26)
  have h0 := h0.ext X
  have h1 := h1.ext X
  have h2 := h2.ext X
  go_enter Tryd.func7, Tryd.ntmps7
  go_wp2_with fail
  generalize w.alloc (.cells #[.slice a0 f0.length c0, .slice a1 f1.length c1, .slice a2 f2.length c2] 26) = w1 at *
  obtain ⟨B, hB⟩ : ∃ B, w.heap.size = B := ⟨_, rfl⟩
  have hBw : w.heap.size ≤ B := by omega
  rw [hB] at b0
  rw [hB]
  clear hB
  refine Calls.mono (mWakes _) ?_
  rintro e w2 ⟨rfl, x1⟩
  have X := X.trans x1
  have b0 := x1.keeps b0
  have h0 := h0.ext x1
  have h1 := h1.ext x1
  have h2 := h2.ext x1
  clear x1
  have k0 : w2.cell? ⟨B, 0, none⟩ = some (.slice a0 f0.length c0) := by rw [block_cell b0]; rfl
  have k1 : w2.cell? ⟨B, 1, none⟩ = some (.slice a1 f1.length c1) := by rw [block_cell b0]; rfl
  have k2 : w2.cell? ⟨B, 2, none⟩ = some (.slice a2 f2.length c2) := by rw [block_cell b0]; rfl
  go_wp2_with fail
  refine Calls.mono (lawFew w2 _ _ _ f0 f1 f2 h0 h1 h2) ?_
  rintro e w3 ⟨v0, v1, v2, rfl, o0, o1, o2, x⟩
  have X := X.trans x
  have b0 := x.keeps b0
  clear k0 k1 k2 x h0 h1 h2
  obtain ⟨a3, c3, rfl⟩ := slice_shape o0
  obtain ⟨a4, c4, rfl⟩ := slice_shape o1
  obtain ⟨a5, c5, rfl⟩ := slice_shape o2
  have gr := grown_rowM (w := w3) (g := B) (c := #[.slice a3 (shortF f0).length c3, .slice a4 (shortF f1).length c4, .slice a5 (shortF f2).length c5])
  have H0 := isF_own (o0.kept gr (.inr (own_neU o0 b0 (by decide)))) (shortF_ok f0)
  have H1 := isF_own (o1.kept gr (.inr (own_neU o1 b0 (by decide)))) (shortF_ok f1)
  have H2 := isF_own (o2.kept gr (.inr (own_neU o2 b0 (by decide)))) (shortF_ok f2)
  have X := X.grown gr (fun k hk => by cases hk; exact hBw)
  have b4 := setRow_heap w3 B _ #[.slice a3 (shortF f0).length c3, .slice a4 (shortF f1).length c4, .slice a5 (shortF f2).length c5] _ _ b0
  clear o0 o1 o2 gr
  go_wp2_with ((with_reducible refine at_store 26 (.tmp 1) (.tmp 14) ?_); refine wpl_store (by rfl) 26 (.tmp 1) (.tmp 14) rfl B #[.slice a3 (shortF f0).length c3, .slice a4 (shortF f1).length c4, .slice a5 (shortF f2).length c5] (by rfl) (by rfl) 26 _ b0 (info3M _ _ _) rfl (by simp [Value.oneCell']) ?_; generalize hW4 : w3.setRow B #[.slice a3 (shortF f0).length c3, .slice a4 (shortF f1).length c4, .slice a5 (shortF f2).length c5] = w4 at *; have k0 : w4.cell? ⟨B, 0, none⟩ = some (.slice a3 (shortF f0).length c3) := (by rw [block_cell b4]; rfl); have k1 : w4.cell? ⟨B, 1, none⟩ = some (.slice a4 (shortF f1).length c4) := (by rw [block_cell b4]; rfl); have k2 : w4.cell? ⟨B, 2, none⟩ = some (.slice a5 (shortF f2).length c5) := (by rw [block_cell b4]; rfl))
  have OK := mergeL_ok H0.ok H1.ok H2.ok
  have MT := merge_turn (shortF f0) (shortF f1) (shortF f2)
  have E := mergeMerge w4 _ _ _ _ _ _ H0 H1 H2
  refine Calls.mono E ?_
  rintro e w5 ⟨vr, vc, rfl, ownR, ownC, x5⟩
  clear E
  generalize shortF f0 = s0 at *
  generalize shortF f1 = s1 at *
  generalize shortF f2 = s2 at *
  obtain ⟨R, hR⟩ : ∃ R, (mergeL s0 s1 s2).1 = R := ⟨_, rfl⟩
  obtain ⟨C, hC⟩ : ∃ R, (mergeL s0 s1 s2).2.1 = R := ⟨_, rfl⟩
  obtain ⟨er, hE⟩ : ∃ R, (mergeL s0 s1 s2).2.2 = R := ⟨_, rfl⟩
  rw [hR, hC, hE] at MT
  rw [hR] at OK ownR
  rw [hC] at ownC
  rw [hE]
  clear hR hC hE
  have HOK := Lib.hid OK
  clear OK
  obtain ⟨ra, rc, rfl⟩ := slice_shape ownR
  obtain ⟨ca, cc, rfl⟩ := slice_shape ownC
  have IR := isF_own ownR HOK.out
  have IC : IsC w5 (.slice ca C.length cc) C := ⟨IsSl.of_owns ownC⟩
  have bN := heap_alloc_new w5 (.cells #[.slice ra R.length rc] 24)
  have y := (Ext.refl w5).alloc (.cells #[.slice ra R.length rc] 24)
  have IR := IR.ext y
  have IC := IC.ext y
  have m1 : (w5.alloc (.cells #[.slice ra R.length rc] 24)).cell? ⟨w5.heap.size, 0, none⟩ = some (.slice ra R.length rc) := by rw [block_cell bN]; rfl
  have y := x5.trans y
  have k0 := y.cell k0
  have k1 := y.cell k1
  have k2 := y.cell k2
  have X := X.trans y
  have H0 := H0.ext y
  have H1 := H1.ext y
  have H2 := H2.ext y
  clear ownR ownC bN y x5 b0 b4
  go_wp2_with fail
  generalize w5.alloc (.cells #[.slice ra R.length rc] 24) = w6 at *
  generalize w5.heap.size = N1 at *
  refine Calls.mono (mergeMerge w6 _ _ _ _ _ _ H0 H2 H1) ?_
  rintro e w7 ⟨vr, vc, rfl, ownR, ownC, x7⟩
  rw [MT] at ownR ownC
  rw [MT]
  dsimp only at ownR ownC ⊢
  obtain ⟨rb, rd, rfl⟩ := slice_shape ownR
  obtain ⟨cb, cd, rfl⟩ := slice_shape ownC
  have JR := isF_own ownR HOK.out
  have JC : IsC w7 (.slice cb (C.map turnT).length cd) (C.map turnT) := ⟨IsSl.of_owns ownC⟩
  have bN := heap_alloc_new w7 (.cells #[.slice rb R.length rd] 24)
  have y := (Ext.refl w7).alloc (.cells #[.slice rb R.length rd] 24)
  have JR := JR.ext y
  have JC := JC.ext y
  have m2 : (w7.alloc (.cells #[.slice rb R.length rd] 24)).cell? ⟨w7.heap.size, 0, none⟩ = some (.slice rb R.length rd) := by rw [block_cell bN]; rfl
  have y := x7.trans y
  have m1 := y.cell m1
  have IR := IR.ext y
  have IC := IC.ext y
  have X := X.trans y
  clear ownR ownC bN y x7 H0 H1 H2 k0 k1 k2 MT
  rw [List.length_map] at JC
  rw [List.length_map]
  go_wp2_with fail
  generalize w7.alloc (.cells #[.slice rb R.length rd] 24) = w8 at *
  generalize w7.heap.size = N2 at *
  refine Calls.mono (treeSame w8 _ _ R R IR JR) ?_
  rintro e w9 ⟨rfl, y⟩
  have X := X.trans y
  have IC := IC.ext y
  have JC := JC.ext y
  rw [decide_eq_true (rfl : R = R)]
  clear y m1 m2 IR JR HOK
  have hnn := len_ne_self C.length
  go_wp2_with fail
  obtain ⟨_, _, e1, hb1, hm1, _, g1⟩ := IC.opened
  simp only [Value.slice.injEq, true_and] at e1
  obtain ⟨rfl, rfl⟩ := e1
  obtain ⟨_, _, e2, hb2, hm2, _, g2⟩ := JC.opened
  simp only [Value.slice.injEq, List.length_map, true_and] at e2
  obtain ⟨rfl, rfl⟩ := e2
  rw [List.length_map] at hb2
  have G1 := Lib.hid g1
  have G2 := Lib.hid g2
  clear g1 g2 IC JC hnn
  go_loopg [55] C.length (fun g s55 wr => ∃ k : Nat, k ≤ C.length ∧ C.length - k ≤ g ∧ s55 = .int .i64 (k : Int) ∧ Ext w9 wr)
  case atStart => exact ⟨0, by omega, by omega, rfl, Ext.refl _⟩
  case round =>
    obtain ⟨k, hk, hg, rfl, xr⟩ := hrel
    by_cases hlt : k < C.length
    · obtain ⟨p1, o1, rfl, e0, e1, e2, e3, e4, e5, e6⟩ := G1.out k hlt
      obtain ⟨p2, o2, rfl, q0, q1, q2, q3, q4, q5, q6⟩ := G2.out k (by rw [List.length_map]; exact hlt)
      simp only [List.getElem_map, turnT] at q0 q1 q2 q3 q4 q5 q6
      generalize C[k] = z at *
      obtain ⟨z0, ⟨d0, t0⟩, ⟨d1, t1⟩, ⟨d2, t2⟩⟩ := z
      dsimp only at e0 e1 e2 e3 e4 e5 e6 q0 q1 q2 q3 q4 q5 q6
      have q0 := xr.cell q0
      have q1 := xr.cell q1
      have q2 := xr.cell q2
      have q3 := xr.cell q3
      have q4 := xr.cell q4
      have q5 := xr.cell q5
      have q6 := xr.cell q6
      have bN := heap_alloc_new wr (.cells #[.string z0, .string t0, .string t1, .string t2, .bool d0, .bool d1, .bool d2] 40)
      have yb := (Ext.refl wr).alloc (.cells #[.string z0, .string t0, .string t1, .string t2, .bool d0, .bool d1, .bool d2] 40)
      have xb := xr.trans yb
      go_wp2_with fail
      have hne : ∀ W, (binOp .neq 40 (.agg #[.string z0, .string t0, .string t1, .string t2, .bool d0, .bool d1, .bool d2]) (.agg #[.string z0, .string t0, .string t1, .string t2, .bool d0, .bool d1, .bool d2])).run Tryd.prog W = .ok (.bool false) W := fun W => by
        have := clNeq W (z0, (d0, t0), (d1, t1), (d2, t2)) (z0, (d0, t0), (d1, t1), (d2, t2))
        rw [decide_eq_true rfl] at this
        exact this
      have e0 := xb.cell e0
      have e1 := xb.cell e1
      have e2 := xb.cell e2
      have e3 := xb.cell e3
      have e4 := xb.cell e4
      have e5 := xb.cell e5
      have e6 := xb.cell e6
      have r0 : World.cell? _ ⟨wr.heap.size, 0, none⟩ = some (.string z0) := (block_cell bN 0).trans rfl
      have r1 : World.cell? _ ⟨wr.heap.size, 1, none⟩ = some (.string t0) := (block_cell bN 1).trans rfl
      have r2 : World.cell? _ ⟨wr.heap.size, 2, none⟩ = some (.string t1) := (block_cell bN 2).trans rfl
      have r3 : World.cell? _ ⟨wr.heap.size, 3, none⟩ = some (.string t2) := (block_cell bN 3).trans rfl
      have r4 : World.cell? _ ⟨wr.heap.size, 4, none⟩ = some (.bool d0) := (block_cell bN 4).trans rfl
      have r5 : World.cell? _ ⟨wr.heap.size, 5, none⟩ = some (.bool d1) := (block_cell bN 5).trans rfl
      have r6 : World.cell? _ ⟨wr.heap.size, 6, none⟩ = some (.bool d2) := (block_cell bN 6).trans rfl
      clear q0 q1 q2 q3 q4 q5 q6 bN yb
      generalize wr.alloc (.cells #[.string z0, .string t0, .string t1, .string t2, .bool d0, .bool d1, .bool d2] 40) = wb at *
      generalize wr.heap.size = NB at *
      go_quiet (fail)
      go_wp2
      go_roundg (C.length - (k + 1))
      case measure => omega
      case rel => exact ⟨k + 1, by omega, by omega, by go_num, xb.drewN _⟩
    · obtain rfl : k = C.length := by omega
      go_wp2
      go_ret
      exact ⟨rfl, X.trans xr⟩
theorem walkMergeTurned (w : World) (v0 : Value) (fs : List Fl × List Fl × List Fl) (h0 : ArgThree w v0 fs) :
    Calls Tryd.prog 7 #[v0] w fun e w' => e = .returned (.bool true) ∧ Below w.heap.size w w' := by
  obtain ⟨u0, u1, u2, rfl, k0, k1, k2⟩ := h0
  exact walkMergeTurnedI w u0 u1 u2 _ _ _ k0 k1 k2
end Go.Proofs.YtpcpcjejdngllaaDoor
