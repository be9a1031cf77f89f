/- whole, right: three repositories the same; three that may be (layer 8). -/
import Derived.Test.YtpcpcjejdngllaaDoorMgF
namespace Go.Proofs.YtpcpcjejdngllaaDoor
open Go.RowKit
set_option linter.unusedVariables false
set_option linter.unusedSimpArgs false

set_option maxHeartbeats 4000000 in
set_option maxRecDepth 100000 in
theorem lawRight (w : World) (u0 u1 u2 : Value) (f0 f1 f2 : List Fl) (h0 : IsF w u0 f0) (h1 : IsF w u1 f1) (h2 : IsF w u2 f2) :
    Calls Tryd.prog 15 #[.agg #[u0, u1, u2]] w fun e w' => e = .returned (.bool (repoB f0 && (repoB f1 && repoB f2))) ∧ Ext w w' := by
  obtain ⟨R, hR⟩ : ∃ R, (repoB f0 && (repoB f1 && repoB f2)) = R := ⟨_, rfl⟩
  rw [hR]
  have HR := Lib.hid hR
  clear hR
  obtain ⟨a0, c0, rfl, -⟩ := h0.opened
  obtain ⟨a1, c1, rfl, -⟩ := h1.opened
  obtain ⟨a2, c2, rfl, -⟩ := h2.opened
  have b0 := heap_alloc_new w (.cells #[.slice a0 f0.length c0, .slice a1 f1.length c1, .slice a2 f2.length c2] 26)
  have X := (Ext.refl w).alloc (.cells #[.slice a0 f0.length c0, .slice a1 f1.length c1, .slice a2 f2.length c2] 26)
  have k0 : (w.alloc (.cells #[.slice a0 f0.length c0, .slice a1 f1.length c1, .slice a2 f2.length c2] 26)).cell? ⟨w.heap.size, 0, none⟩ = some (.slice a0 f0.length c0) := by rw [block_cell b0]; rfl
  have k1 : (w.alloc (.cells #[.slice a0 f0.length c0, .slice a1 f1.length c1, .slice a2 f2.length c2] 26)).cell? ⟨w.heap.size, 1, none⟩ = some (.slice a1 f1.length c1) := by rw [block_cell b0]; rfl
  have k2 : (w.alloc (.cells #[.slice a0 f0.length c0, .slice a1 f1.length c1, .slice a2 f2.length c2] 26)).cell? ⟨w.heap.size, 2, none⟩ = some (.slice a2 f2.length c2) := by rw [block_cell b0]; rfl
  have h0 := h0.ext X
  have h1 := h1.ext X
  have h2 := h2.ext X
  clear b0
  go_enter Tryd.func15, Tryd.ntmps15
  go_wp2_with fail
  generalize w.alloc (.cells #[.slice a0 f0.length c0, .slice a1 f1.length c1, .slice a2 f2.length c2] 26) = w1 at *
  generalize w.heap.size = G at *
  have E0 := refRight07 w1 _ f0 h0
  cases hr0 : repoB f0 with
  | false =>
    rw [hr0] at E0
    refine Calls.mono E0 ?_
    rintro e w2 ⟨rfl, y⟩
    go_wp2_with fail
    go_ret
    refine ⟨ret_bool ?_, X.trans y⟩
    rw [← HR.out, hr0]; rfl
  | true =>
    rw [hr0] at E0
    refine Calls.mono E0 ?_
    rintro e w2 ⟨rfl, y⟩
    have k1 := y.cell k1
    have k2 := y.cell k2
    have h1 := h1.ext y
    have h2 := h2.ext y
    have X := X.trans y
    have HR0 := Lib.hid hr0
    clear y hr0 k0 E0
    have E1 := refRight07 w2 _ f1 h1
    cases hr1 : repoB f1 with
    | false =>
      rw [hr1] at E1
      go_wp2_with fail
      refine Calls.mono E1 ?_
      rintro e w3 ⟨rfl, y⟩
      go_wp2_with fail
      go_ret
      refine ⟨ret_bool ?_, X.trans y⟩
      rw [← HR.out, HR0.out, hr1]; rfl
    | true =>
      rw [hr1] at E1
      go_wp2_with fail
      refine Calls.mono E1 ?_
      rintro e w3 ⟨rfl, y⟩
      have k2 := y.cell k2
      have h2 := h2.ext y
      have X := X.trans y
      have HR1 := Lib.hid hr1
      clear y hr1 k1 E1
      go_wp2_with fail
      refine Calls.mono (refRight07 w3 _ f2 h2) ?_
      rintro e w4 ⟨rfl, y⟩
      go_wp2_with fail
      go_ret
      refine ⟨ret_bool ?_, X.trans y⟩
      rw [← HR.out, HR0.out, HR1.out]; simp
set_option maxHeartbeats 4000000 in
set_option maxRecDepth 100000 in
/-- The three are the same as the other three: they are. -/
theorem lawWhole (w : World) (u0 u1 u2 v0 v1 v2 : Value) (f0 f1 f2 : List Fl) (h0 : IsF w u0 f0) (h1 : IsF w u1 f1) (h2 : IsF w u2 f2) (i0 : IsF w v0 f0) (i1 : IsF w v1 f1) (i2 : IsF w v2 f2) :
    Calls Tryd.prog 14 #[.agg #[u0, u1, u2], .agg #[v0, v1, v2]] w fun e w' => e = .returned (.bool true) ∧ Ext w w' := by
  obtain ⟨a0, c0, rfl, -⟩ := h0.opened
  obtain ⟨a1, c1, rfl, -⟩ := h1.opened
  obtain ⟨a2, c2, rfl, -⟩ := h2.opened
  obtain ⟨d0, e0, rfl, -⟩ := i0.opened
  obtain ⟨d1, e1, rfl, -⟩ := i1.opened
  obtain ⟨d2, e2, rfl, -⟩ := i2.opened
  have b0 := blk_old (o := (.cells #[.slice d0 f0.length e0, .slice d1 f1.length e1, .slice d2 f2.length e2] 26)) (heap_alloc_new w (.cells #[.slice a0 f0.length c0, .slice a1 f1.length c1, .slice a2 f2.length c2] 26))
  have b1 := blk_new (w := w.alloc (.cells #[.slice a0 f0.length c0, .slice a1 f1.length c1, .slice a2 f2.length c2] 26)) (b := w.heap.size + 1) (o := (.cells #[.slice d0 f0.length e0, .slice d1 f1.length e1, .slice d2 f2.length e2] 26)) (by simp)
  have X := ((Ext.refl w).alloc (.cells #[.slice a0 f0.length c0, .slice a1 f1.length c1, .slice a2 f2.length c2] 26)).alloc (.cells #[.slice d0 f0.length e0, .slice d1 f1.length e1, .slice d2 f2.length e2] 26)
  have h0 := h0.ext X
  have h1 := h1.ext X
  have h2 := h2.ext X
  have i0 := i0.ext X
  have i1 := i1.ext X
  have i2 := i2.ext X
  have k0 := (block_cell b0 0).trans (show _ = some (Value.slice a0 f0.length c0) from rfl)
  have k1 := (block_cell b0 1).trans (show _ = some (Value.slice a1 f1.length c1) from rfl)
  have k2 := (block_cell b0 2).trans (show _ = some (Value.slice a2 f2.length c2) from rfl)
  have m0 := (block_cell b1 0).trans (show _ = some (Value.slice d0 f0.length e0) from rfl)
  have m1 := (block_cell b1 1).trans (show _ = some (Value.slice d1 f1.length e1) from rfl)
  have m2 := (block_cell b1 2).trans (show _ = some (Value.slice d2 f2.length e2) from rfl)
  clear b0 b1
  go_enter Tryd.func14, Tryd.ntmps14
  go_wp2_with fail
  generalize (w.alloc (.cells #[.slice a0 f0.length c0, .slice a1 f1.length c1, .slice a2 f2.length c2] 26)).alloc (.cells #[.slice d0 f0.length e0, .slice d1 f1.length e1, .slice d2 f2.length e2] 26) = w1 at *
  generalize w.heap.size = G at *
  have E0 := refSame07 w1 _ _ f0 f0 h0 i0
  rw [decide_eq_true (rfl : f0 = f0)] at E0
  refine Calls.mono E0 ?_
  rintro e w2 ⟨rfl, y⟩
  have k1 := y.cell k1
  have k2 := y.cell k2
  have m1 := y.cell m1
  have m2 := y.cell m2
  have h1 := h1.ext y
  have h2 := h2.ext y
  have i1 := i1.ext y
  have i2 := i2.ext y
  have X := X.trans y
  clear y k0 m0 E0
  have E1 := refSame07 w2 _ _ f1 f1 h1 i1
  rw [decide_eq_true (rfl : f1 = f1)] at E1
  go_wp2_with fail
  refine Calls.mono E1 ?_
  rintro e w3 ⟨rfl, y⟩
  have k2 := y.cell k2
  have m2 := y.cell m2
  have h2 := h2.ext y
  have i2 := i2.ext y
  have X := X.trans y
  clear y k1 m1 E1
  have E2 := refSame07 w3 _ _ f2 f2 h2 i2
  rw [decide_eq_true (rfl : f2 = f2)] at E2
  go_wp2_with fail
  refine Calls.mono E2 ?_
  rintro e w4 ⟨rfl, y⟩
  go_wp2_with fail
  go_ret
  exact ⟨rfl, X.trans y⟩
end Go.Proofs.YtpcpcjejdngllaaDoor
