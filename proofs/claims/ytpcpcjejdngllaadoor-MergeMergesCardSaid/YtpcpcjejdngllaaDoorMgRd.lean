/- The reference of merging: Clashes. -/
import Derived.Test.YtpcpcjejdngllaaDoorMgRc
import Derived.Test.YtpcpcjejdngllaaDoorMgCl
namespace Go.Proofs.YtpcpcjejdngllaaDoor
open Go.RowKit
set_option linter.unusedVariables false
set_option linter.unusedSimpArgs false

set_option maxHeartbeats 8000000 in
set_option maxRecDepth 100000 in
theorem refClashes (w : World) (v0 v1 v2 : Value) (f0 f1 f2 : List Fl) (h0 : IsF w v0 f0) (h1 : IsF w v1 f1) (h2 : IsF w v2 f2) (l0 : f0.length ≤ 1000) (l1 : f1.length ≤ 1000) (l2 : f2.length ≤ 1000) :
    Calls Tryd.prog 16 #[.agg #[v0], .agg #[v1], .agg #[v2]] w fun e w' => ∃ v, e = .returned v ∧ IsC w' v (clsL (trosM f0 f1 f2)) ∧ Ext w w' := by
  obtain ⟨R, hR⟩ : ∃ R, clsL (trosM f0 f1 f2) = R := ⟨_, rfl⟩
  rw [hR]
  have HR := Lib.hid hR
  clear hR
  obtain ⟨a0, c0, rfl, -⟩ := h0.opened
  obtain ⟨a1, c1, rfl, -⟩ := h1.opened
  obtain ⟨a2, c2, rfl, -⟩ := h2.opened
  have X : Ext w ((((w.alloc (.cells #[.slice a0 f0.length c0] 24)).alloc (.cells #[.slice a1 f1.length c1] 24)).alloc (.cells #[.slice a2 f2.length c2] 24)).alloc (.cells #[.slice a0 f0.length c0, .slice a1 f1.length c1, .slice a2 f2.length c2] 24)) := ((((Ext.refl w).alloc _).alloc _).alloc _).alloc _
  have g0 := blk_old (o := (.cells #[.slice a0 f0.length c0, .slice a1 f1.length c1, .slice a2 f2.length c2] 24)) (blk_old (o := (.cells #[.slice a2 f2.length c2] 24)) (blk_old (o := (.cells #[.slice a1 f1.length c1] 24)) (heap_alloc_new w (.cells #[.slice a0 f0.length c0] 24))))
  have g1 := blk_old (o := (.cells #[.slice a0 f0.length c0, .slice a1 f1.length c1, .slice a2 f2.length c2] 24)) (blk_old (o := (.cells #[.slice a2 f2.length c2] 24)) (blk_new (w := w.alloc (.cells #[.slice a0 f0.length c0] 24)) (b := w.heap.size + 1) (o := (.cells #[.slice a1 f1.length c1] 24)) (by simp)))
  have g2 := blk_old (o := (.cells #[.slice a0 f0.length c0, .slice a1 f1.length c1, .slice a2 f2.length c2] 24)) (blk_new (w := (w.alloc (.cells #[.slice a0 f0.length c0] 24)).alloc (.cells #[.slice a1 f1.length c1] 24)) (b := w.heap.size + 1 + 1) (o := (.cells #[.slice a2 f2.length c2] 24)) (by simp))
  have q4 := blk_new (w := ((w.alloc (.cells #[.slice a0 f0.length c0] 24)).alloc (.cells #[.slice a1 f1.length c1] 24)).alloc (.cells #[.slice a2 f2.length c2] 24)) (b := w.heap.size + 1 + 1 + 1) (o := (.cells #[.slice a0 f0.length c0, .slice a1 f1.length c1, .slice a2 f2.length c2] 24)) (by simp)
  have k0 := (block_cell g0 0).trans (show _ = some (Value.slice a0 f0.length c0) from rfl)
  have k1 := (block_cell g1 0).trans (show _ = some (Value.slice a1 f1.length c1) from rfl)
  have k2 := (block_cell g2 0).trans (show _ = some (Value.slice a2 f2.length c2) from rfl)
  have h0 := h0.ext X
  have h1 := h1.ext X
  have h2 := h2.ext X
  clear g0 g1 g2
  have hpl : (allP [f0, f1, f2]).length ≤ 10000 := by simp [allP]; omega
  have hxl := trosM_len l0 l1 l2
  go_enter Tryd.func16, Tryd.ntmps16
  go_wp2_with fail
  generalize (((w.alloc (.cells #[.slice a0 f0.length c0] 24)).alloc (.cells #[.slice a1 f1.length c1] 24)).alloc (.cells #[.slice a2 f2.length c2] 24)).alloc (.cells #[.slice a0 f0.length c0, .slice a1 f1.length c1, .slice a2 f2.length c2] 24) = w5 at *
  generalize hG : w.heap.size = G at *
  refine Calls.mono (refPaths w5 _ [(_, f0), (_, f1), (_, f2)] (isRs3 q4 h0 h1 h2) hpl) ?_
  rintro e w6 ⟨vq, rfl, IQ, y⟩
  have IQ : IsStr w6 vq (pathsL [f0, f1, f2]) := IQ
  have k0 := y.cell k0
  have k1 := y.cell k1
  have k2 := y.cell k2
  have h0 := h0.ext y
  have h1 := h1.ext y
  have h2 := h2.ext y
  have X := X.trans y
  clear y q4 hpl
  obtain ⟨xs, hxs⟩ : ∃ xs, trosM f0 f1 f2 = xs := ⟨_, rfl⟩
  have HR2 := Lib.hid (show clsL xs = R by rw [← hxs]; exact HR.out)
  have hlen : xs.length = (pathsL [f0, f1, f2]).length := by rw [← hxs]; unfold trosM trosL; rw [List.length_map]
  have HT := Lib.hid (show ∀ k (hk : k < (pathsL [f0, f1, f2]).length), xs.take (k + 1) = xs.take k ++ [((pathsL [f0, f1, f2])[k], atM f0 (pathsL [f0, f1, f2])[k], atM f1 (pathsL [f0, f1, f2])[k], atM f2 (pathsL [f0, f1, f2])[k])] by
    intro k hk
    rw [← hxs]
    unfold trosM trosL
    rw [List.take_succ_eq_append_getElem (by simpa using hk), List.getElem_map])
  rw [hxs] at hxl
  clear hxs
  generalize pathsL [f0, f1, f2] = PS at *
  obtain ⟨aq, cq, rfl, hcq, hcq2, _, gq⟩ := IQ.opened
  have GQ := Lib.hid gq
  clear gq IQ
  go_wp2_with fail
  go_loopg [7, 18] PS.length (fun g s7 s18 wr => ∃ k : Nat, k ≤ PS.length ∧ PS.length - k ≤ g ∧ s18 = .int .i64 (k : Int) ∧ wr.ownsRow w6.heap.size 40 7 s7 (clsL (xs.take k)).length ((clsL (xs.take k)).flatMap clT) ∧ Ext w6 wr)
  case atStart => exact ⟨0, by omega, by omega, rfl, World.ownsRow_nil _ _ _ _, Ext.refl _⟩
  case round =>
    obtain ⟨k, hk, hg, rfl, own, xr⟩ := hrel
    by_cases hlt : k < PS.length
    · obtain ⟨pb, o, rfl, e0⟩ := GQ.out k hlt
      have e0 := xr.cell e0
      have k0 := xr.cell k0
      have k1 := xr.cell k1
      have k2 := xr.cell k2
      have h0 := h0.ext xr
      have h1 := h1.ext xr
      have h2 := h2.ext xr
      have hcl := Nat.le_trans (clsL_len (xs.take k)) (by rw [List.length_take]; exact Nat.min_le_left _ _)
      have HS := Lib.hid (clsL_snoc (xs.take k) (PS[k], atM f0 PS[k], atM f1 PS[k], atM f2 PS[k]))
      have HT1 := Lib.hid (HT.out k hlt)
      rw [← HT1.out] at HS
      have E := refClash wr _ _ _ f0 f1 f2 PS[k] h0 h1 h2
      generalize clsL (xs.take k) = F at *
      generalize PS[k] = x at *
      generalize atM f0 x = m0 at *
      generalize atM f1 x = m1 at *
      generalize atM f2 x = m2 at *
      have hic : isCl (x, m0, m1, m2) = clashM m0 m1 m2 := rfl
      rw [hic] at HS
      clear hic HT1
      go_wp2_with fail
      refine Calls.mono E ?_
      rintro e w7 ⟨rfl, y⟩
      have own := owns_extU own y
      have X7 := xr.trans y
      have yb := (Ext.refl w7).alloc (.cells #[.string x, .string m0.2, .string m1.2, .string m2.2, .bool m0.1, .bool m1.1, .bool m2.1] 40)
      have X8 := X7.trans yb
      have own := own.alloc (.cells #[.string x, .string m0.2, .string m1.2, .string m2.2, .bool m0.1, .bool m1.1, .bool m2.1] 40)
      have bN := heap_alloc_new w7 (.cells #[.string x, .string m0.2, .string m1.2, .string m2.2, .bool m0.1, .bool m1.1, .bool m2.1] 40)
      clear E k0 k1 k2 h0 h1 h2 e0 y xr
      cases hc : clashM m0 m1 m2 with
      | false =>
        rw [hc] at HS
        go_wp2_with fail
        go_roundg (PS.length - (k + 1))
        case measure => omega
        case rel => exact ⟨k + 1, by omega, by omega, by go_num, by rw [HS.out]; simpa using own, X8⟩
      | true =>
        rw [hc] at HS
        have n0 := (block_cell bN 0).trans (show _ = some (Value.string x) from rfl)
        have n1 := (block_cell bN 1).trans (show _ = some (Value.string m0.2) from rfl)
        have n2 := (block_cell bN 2).trans (show _ = some (Value.string m1.2) from rfl)
        have n3 := (block_cell bN 3).trans (show _ = some (Value.string m2.2) from rfl)
        have n4 := (block_cell bN 4).trans (show _ = some (Value.bool m0.1) from rfl)
        have n5 := (block_cell bN 5).trans (show _ = some (Value.bool m1.1) from rfl)
        have n6 := (block_cell bN 6).trans (show _ = some (Value.bool m2.1) from rfl)
        have own6 := own.alloc (.cells #[.string x, .string m0.2, .string m1.2, .string m2.2, .bool m0.1, .bool m1.1, .bool m2.1] 40)
        have xr6 := X8.alloc (.cells #[.string x, .string m0.2, .string m1.2, .string m2.2, .bool m0.1, .bool m1.1, .bool m2.1] 40)
        have hw06 := xr6.size
        clear bN yb
        go_wp2_with (at_builtin; go_must (refine wp_app (w := (w7.alloc (.cells #[.string x, .string m0.2, .string m1.2, .string m2.2, .bool m0.1, .bool m1.1, .bool m2.1] 40)).alloc (.cells #[.string x, .string m0.2, .string m1.2, .string m2.2, .bool m0.1, .bool m1.1, .bool m2.1] 40)) tyCl rfl (.tmp 31) (.tmp 33) rfl w6.heap.size _ F.length _ own6 (by rfl) _ 1 (clT (x, m0, m1, m2)) (sl_one_new (H := w7.heap.size + 1) (w := w7.alloc (.cells #[.string x, .string m0.2, .string m1.2, .string m2.2, .bool m0.1, .bool m1.1, .bool m2.1] 40)) (n := 7) (e := 40) (Q := clT (x, m0, m1, m2)) (by simp) rfl) (by rfl) (clT_one _) (by omega) (by omega) hw06 ?_); intro v7 w15 own7 gr7)
        have xw7 := own_base own6 gr7 xr6 (Nat.le_refl _)
        go_roundg (PS.length - (k + 1))
        case measure => omega
        case rel => exact ⟨k + 1, by omega, by omega, by go_num, by rw [HS.out, List.flatMap_append, List.length_append]; simpa using own7, xw7⟩
    · obtain rfl : k = PS.length := by omega
      rw [List.take_of_length_le (by omega), HR2.out] at own
      go_wp2_with fail
      go_ret
      exact ⟨_, rfl, ⟨IsSl.of_owns own⟩, X.trans xr⟩
end Go.Proofs.YtpcpcjejdngllaaDoor
