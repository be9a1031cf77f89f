/- wakes of layer 8; few, whole, right. -/
import Derived.Test.YtpcpcjejdngllaaDoorMgS
namespace Go.Proofs.YtpcpcjejdngllaaDoor
open Go.RowKit
set_option linter.unusedVariables false
set_option linter.unusedSimpArgs false

theorem isF1 {w : World} {b : Nat} {p t : ByteArray} (hp : p.size ≤ 140737488355328) (ht : t.size ≤ 140737488355328) (h : w.heap[b]? = some (.cells #[.string p, .string t] 46 (0, 0))) : IsF w (.slice (some ⟨b, 0, none⟩) 1 1) [⟨p, t⟩] := by
  refine ⟨⟨rfl, some ⟨b, 0, none⟩, 1, rfl, Nat.le_refl _, by omega, (fun h => by cases h), fun i hi => ⟨b, 0, rfl, ?_⟩⟩, fun f hf => ?_⟩
  · rw [Nat.zero_add, block_cell h]
    rcases (show i = 0 ∨ i = 1 by simp [flC] at hi; omega) with rfl | rfl <;> rfl
  · obtain rfl : f = ⟨p, t⟩ := by simpa using hf
    exact ⟨hp, ht⟩
set_option maxHeartbeats 1000000 in
theorem lawOne (w : World) (p t : ByteArray) (hp : p.size ≤ 140737488355328) (ht : t.size ≤ 140737488355328) :
    Calls Tryd.prog 30 #[.string p, .string t] w fun e w' => ∃ b, e = .returned (.agg #[.slice (some ⟨b, 0, none⟩) 1 1]) ∧ IsF w' (.slice (some ⟨b, 0, none⟩) 1 1) [⟨p, t⟩] ∧ Ext w w' := by
  go_enter Tryd.func30, Tryd.ntmps30
  go_wp2_with fail
  have bR := blk_old (o := .cells #[.string p, .string t] 46) (heap_alloc_new w (.cells #[.slice (some ⟨w.heap.size + 1, 0, none⟩) 1 1] 24))
  have bF := blk_new (w := w.alloc (.cells #[.slice (some ⟨w.heap.size + 1, 0, none⟩) 1 1] 24)) (b := w.heap.size + 1) (o := .cells #[.string p, .string t] 46) (by simp)
  refine bodyPost_ret (results_cell1 rfl _ _ w.heap.size _ _ _ _ (by rfl) bR Tryd.underlying24 rfl (info1M _)) rfl ?_
  exact ⟨_, rfl, isF1 hp ht bF, ((Ext.refl w).alloc _).alloc _⟩
theorem repo_one {c d : UInt8} (h : pathB ⟨#[c]⟩ = true) (hp : preB ⟨#[c]⟩ ⟨#[c]⟩ = false) : repoB [⟨⟨#[c]⟩, ⟨#[d]⟩⟩] = true := by
  unfold repoB
  simp only [List.length_cons, List.length_nil, List.range_succ, List.range_zero, List.nil_append, List.all_cons, List.all_nil, Bool.and_true, sumT, List.map_cons, List.map_nil, List.sum_cons, List.sum_nil]
  unfold fileB
  simp only [List.getD_cons_zero, h, List.any_cons, List.any_nil, hp]
  rw [show (⟨#[d]⟩ : ByteArray).size = 1 from rfl]
  simp
theorem path_a : pathB ⟨#[97]⟩ = true := by decide +kernel
theorem pre_a : preB ⟨#[97]⟩ ⟨#[97]⟩ = false := by decide +kernel
theorem paths_a (c d e : UInt8) : pathsL [[⟨⟨#[97]⟩, ⟨#[c]⟩⟩], [⟨⟨#[97]⟩, ⟨#[d]⟩⟩], [⟨⟨#[97]⟩, ⟨#[e]⟩⟩]] = [⟨#[97]⟩] := by
  unfold pathsL allP
  simp only [List.flatMap_cons, List.flatMap_nil, List.map_cons, List.map_nil, List.append_nil, List.cons_append, List.nil_append, List.foldl_cons, List.foldl_nil]
  simp [putP]
theorem at_a (c : UInt8) : atM [⟨⟨#[97]⟩, ⟨#[c]⟩⟩] ⟨#[97]⟩ = (true, ⟨#[c]⟩) := by
  unfold atM getL
  simp
theorem tros_a (c d e : UInt8) : trosM [⟨⟨#[97]⟩, ⟨#[c]⟩⟩] [⟨⟨#[97]⟩, ⟨#[d]⟩⟩] [⟨⟨#[97]⟩, ⟨#[e]⟩⟩] = [(⟨#[97]⟩, (true, ⟨#[c]⟩), (true, ⟨#[d]⟩), (true, ⟨#[e]⟩))] := by
  unfold trosM trosL
  rw [paths_a]
  simp only [List.map_cons, List.map_nil, at_a]
theorem wk1 : mergeL [⟨⟨#[97]⟩, ⟨#[49]⟩⟩] [⟨⟨#[97]⟩, ⟨#[50]⟩⟩] [⟨⟨#[97]⟩, ⟨#[49]⟩⟩] = ([⟨⟨#[97]⟩, ⟨#[50]⟩⟩], [], 0) := by
  have hm : mgdL [((⟨#[97]⟩, (true, ⟨#[49]⟩), (true, ⟨#[50]⟩), (true, ⟨#[49]⟩)) : Tr)] = [⟨⟨#[97]⟩, ⟨#[50]⟩⟩] := by
    have h1 : isCl ((⟨#[97]⟩, (true, ⟨#[49]⟩), (true, ⟨#[50]⟩), (true, ⟨#[49]⟩)) : Tr) = false := by decide +kernel
    have h2 : mgOf ((⟨#[97]⟩, (true, ⟨#[49]⟩), (true, ⟨#[50]⟩), (true, ⟨#[49]⟩)) : Tr) = (true, ⟨#[50]⟩) := by decide +kernel
    unfold mgdL
    simp only [List.flatMap_cons, List.flatMap_nil, h1, h2]
    rfl
  have hc : clsL [((⟨#[97]⟩, (true, ⟨#[49]⟩), (true, ⟨#[50]⟩), (true, ⟨#[49]⟩)) : Tr)] = [] := by
    have h1 : isCl ((⟨#[97]⟩, (true, ⟨#[49]⟩), (true, ⟨#[50]⟩), (true, ⟨#[49]⟩)) : Tr) = false := by decide +kernel
    unfold clsL
    simp only [List.filter_cons, List.filter_nil, h1]
    rfl
  unfold mergeL
  rw [tros_a, hm, hc]
  simp only [repo_one path_a pre_a]
  rfl
theorem wk2 : mergeL [⟨⟨#[97]⟩, ⟨#[49]⟩⟩] [⟨⟨#[97]⟩, ⟨#[50]⟩⟩] [⟨⟨#[97]⟩, ⟨#[51]⟩⟩] = ([], [(⟨#[97]⟩, (true, ⟨#[49]⟩), (true, ⟨#[50]⟩), (true, ⟨#[51]⟩))], 0) := by
  have hc : clsL [((⟨#[97]⟩, (true, ⟨#[49]⟩), (true, ⟨#[50]⟩), (true, ⟨#[51]⟩)) : Tr)] = [(⟨#[97]⟩, (true, ⟨#[49]⟩), (true, ⟨#[50]⟩), (true, ⟨#[51]⟩))] := by
    have h1 : isCl ((⟨#[97]⟩, (true, ⟨#[49]⟩), (true, ⟨#[50]⟩), (true, ⟨#[51]⟩)) : Tr) = true := by decide +kernel
    unfold clsL
    simp only [List.filter_cons, List.filter_nil, h1]
    rfl
  unfold mergeL
  rw [tros_a, hc]
  simp only [repo_one path_a pre_a]
  rfl

set_option maxHeartbeats 4000000 in
set_option maxRecDepth 100000 in
theorem mWakes (w : World) : Calls Tryd.prog 10 #[] w fun e w' => e = .returned (.bool true) ∧ Ext w w' := by
  go_enter Tryd.func10, Tryd.ntmps10
  go_wp2_with fail
  refine Calls.mono (lawOne _ ⟨#[97]⟩ ⟨#[49]⟩ (by decide) (by decide)) ?_
  rintro e w1 ⟨b1, rfl, h1, x1⟩
  go_wp2_with fail
  refine Calls.mono (lawOne _ ⟨#[97]⟩ ⟨#[50]⟩ (by decide) (by decide)) ?_
  rintro e w2 ⟨b2, rfl, h2, x2⟩
  go_wp2_with fail
  refine Calls.mono (lawOne _ ⟨#[97]⟩ ⟨#[49]⟩ (by decide) (by decide)) ?_
  rintro e w3 ⟨b3, rfl, h3, x3⟩
  go_wp2_with fail
  refine Calls.mono (mergeMerge w3 _ _ _ _ _ _ ((h1.ext x2).ext x3) (h2.ext x3) h3) ?_
  rintro e w4 ⟨vr, vc, rfl, ownR, ownC, x4⟩
  rw [wk1] at ownR ownC
  rw [wk1]
  obtain ⟨ar, cr, rfl⟩ := slice_shape ownR
  obtain ⟨ac, cc, rfl⟩ := slice_shape ownC
  have X4 := ((x1.trans x2).trans x3).trans x4
  have bN := heap_alloc_new w4 (.cells #[.slice ar 1 cr] 24)
  have ownR := ownR.alloc (.cells #[.slice ar 1 cr] 24)
  have X4 := X4.alloc (.cells #[.slice ar 1 cr] 24)
  clear h1 h2 h3 x1 x2 x3 x4 ownC
  go_wp2_with fail
  generalize w4.alloc (.cells #[.slice ar 1 cr] 24) = w5 at *
  generalize w4.heap.size = N at *
  refine Calls.mono (lawOne _ ⟨#[97]⟩ ⟨#[49]⟩ (by decide) (by decide)) ?_
  rintro e w6 ⟨b1, rfl, h1, x1⟩
  go_wp2_with fail
  refine Calls.mono (lawOne _ ⟨#[97]⟩ ⟨#[50]⟩ (by decide) (by decide)) ?_
  rintro e w7 ⟨b2, rfl, h2, x2⟩
  go_wp2_with fail
  refine Calls.mono (lawOne _ ⟨#[97]⟩ ⟨#[51]⟩ (by decide) (by decide)) ?_
  rintro e w8 ⟨b3, rfl, h3, x3⟩
  go_wp2_with fail
  refine Calls.mono (mergeMerge w8 _ _ _ _ _ _ ((h1.ext x2).ext x3) (h2.ext x3) h3) ?_
  rintro e w9 ⟨vr, vc, rfl, ownR2, ownC, x4⟩
  rw [wk2] at ownR2 ownC
  rw [wk2]
  obtain ⟨ar2, cr2, rfl⟩ := slice_shape ownR2
  obtain ⟨ac2, cc2, rfl⟩ := slice_shape ownC
  have Y := ((x1.trans x2).trans x3).trans x4
  have bN := Y.keeps bN
  have ownR := owns_extU ownR Y
  have X9 := X4.trans Y
  have yA : Ext w9 (w9.alloc (.cells #[.slice ar2 0 cr2] 24)) := (Ext.refl _).alloc _
  have bN := yA.keeps bN
  have ownR := owns_extU ownR yA
  have ownC := owns_extU ownC yA
  have X9 := X9.trans yA
  obtain ⟨_, _, _, er, _, _, _, gr⟩ := IsSl.of_owns ownR
  simp only [Value.slice.injEq] at er
  obtain ⟨rfl, _, rfl⟩ := er
  obtain ⟨_, _, _, ec, _, _, _, gc⟩ := IsSl.of_owns ownC
  simp only [Value.slice.injEq] at ec
  obtain ⟨rfl, _, rfl⟩ := ec
  obtain ⟨br, offr, rfl, er0⟩ := gr 1 (by simp [flC])
  obtain ⟨bc, offc, rfl, ec0⟩ := gc 3 (by simp [clT])
  have er : (w9.alloc (.cells #[.slice ar2 0 cr2] 24)).cell? ⟨br, offr + 1, none⟩ = some (.string ⟨#[50]⟩) := by rw [er0]; rfl
  have ec : (w9.alloc (.cells #[.slice ar2 0 cr2] 24)).cell? ⟨bc, offc + 3, none⟩ = some (.string ⟨#[51]⟩) := by rw [ec0]; rfl
  have cN : (w9.alloc (.cells #[.slice ar2 0 cr2] 24)).cell? ⟨N, 0, none⟩ = some (.slice (some ⟨br, offr, none⟩) 1 cr) := by rw [block_cell bN]; rfl
  clear er0 ec0 gr gc ownR ownC h1 h2 h3 x1 x2 x3 x4 bN X4 Y ownR2
  go_wp2_with fail
  go_ret
  exact ⟨rfl, X9⟩
end Go.Proofs.YtpcpcjejdngllaaDoor
