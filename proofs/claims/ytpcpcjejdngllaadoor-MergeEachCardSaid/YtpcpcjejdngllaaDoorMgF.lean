/- The walks of merge.checked and merge.Merge. -/
import Derived.Test.YtpcpcjejdngllaaDoorMgE
namespace Go.Proofs.YtpcpcjejdngllaaDoor
open Go.RowKit
set_option linter.unusedVariables false
set_option linter.unusedSimpArgs false

/-- A row of repositories. -/
structure IsRs (w : World) (v : Value) (l : List (Value × List Fl)) : Prop where
  sl : IsSl w v 1 l.length (l.map Prod.fst)
  ok : ∀ x ∈ l, IsF w x.1 x.2
set_option maxHeartbeats 4000000 in
set_option maxRecDepth 100000 in
theorem mergeChecked (w : World) (v : Value) (l : List (Value × List Fl)) (h : IsRs w v l) (hl : l.length ≤ 1000) :
    Calls Tryd.prog 31 #[v] w fun e w' => e = .returned (.int .i64 (errR (l.all fun x => repoB x.2))) ∧ Ext w w' := by
  obtain ⟨R, hR⟩ : ∃ R, (l.all fun x => repoB x.2) = R := ⟨_, rfl⟩
  rw [hR]
  have HR := Lib.hid hR
  clear hR
  obtain ⟨hlen, ao, cap, rfl, b1, m1, z1, g1⟩ := h.sl
  have G1 := Lib.hid g1
  have HO := Lib.hid h.ok
  clear g1 z1 hlen h
  go_enter Tryd.func31, Tryd.ntmps31
  go_wp2_with fail
  go_loopg [8] l.length (fun g s8 wr => ∃ k : Nat, k ≤ l.length ∧ l.length - k ≤ g ∧ s8 = .int .i64 (k : Int) ∧ (∀ j (hj : j < l.length), j < k → repoB l[j].2 = true) ∧ Ext w wr)
  case atStart => exact ⟨0, by omega, by omega, rfl, fun j _ hj => absurd hj (Nat.not_lt_zero _), Ext.refl _⟩
  case round =>
    obtain ⟨k, hk, hg, rfl, hall, xr⟩ := hrel
    have HALL := Lib.hid hall
    clear hall
    by_cases hlt : k < l.length
    · obtain ⟨b, off, rfl, e0⟩ := G1.out k (by simpa using hlt)
      have e0 : w.cell? ⟨b, off + k, none⟩ = some l[k].1 := by rw [e0, List.getElem?_map, List.getElem?_eq_getElem hlt]; rfl
      have e0 := xr.cell e0
      have hF := (HO.out l[k] (List.getElem_mem hlt)).ext xr
      generalize hx : l[k] = x at *
      obtain ⟨u, fs⟩ := x
      have HX := Lib.hid hx
      clear hx
      dsimp only at hF e0
      obtain ⟨au, cu, rfl, -⟩ := hF.opened
      have hF2 := hF.ext ((Ext.refl wr).alloc (.cells #[.slice au fs.length cu] 24))
      have xa := xr.alloc (.cells #[.slice au fs.length cu] 24)
      go_wp2_with fail
      refine Calls.mono (treeCheck _ _ fs hF2) ?_
      rintro e w2 ⟨rfl, x2⟩
      cases hr : repoB fs with
      | true =>
        have HRR := Lib.hid hr
        clear hr
        simp only [show errR true = 0 from rfl]
        go_wp2_with fail
        go_roundg (l.length - (k + 1))
        case measure => omega
        case rel =>
          refine ⟨k + 1, by omega, by omega, by go_num, fun j hj hj1 => ?_, xa.trans x2⟩
          by_cases e : j = k
          · subst e; rw [HX.out]; exact HRR.out
          · exact HALL.out j hj (by omega)
      | false =>
        obtain rfl : false = R := by
          rw [← HR.out]
          symm
          rw [List.all_eq_false]
          exact ⟨l[k], List.getElem_mem hlt, by rw [HX.out, hr]; decide⟩
        simp only [show errR false = 170 from rfl]
        go_wp2_with fail
        go_ret
        exact ⟨rfl, xa.trans x2⟩
    · obtain rfl : k = l.length := by omega
      obtain rfl : true = R := by
        rw [← HR.out]
        symm
        rw [List.all_eq_true]
        intro x hx
        obtain ⟨j, hj, rfl⟩ := List.getElem_of_mem hx
        exact HALL.out j hj hj
      go_wp2_with fail
      go_ret
      exact ⟨rfl, xr⟩
theorem isRs3 {w : World} {b : Nat} {v0 v1 v2 : Value} {f0 f1 f2 : List Fl} (hb : w.heap[b]? = some (.cells #[v0, v1, v2] 24 (0, 0))) (h0 : IsF w v0 f0) (h1 : IsF w v1 f1) (h2 : IsF w v2 f2) : IsRs w (.slice (some ⟨b, 0, none⟩) 3 3) [(v0, f0), (v1, f1), (v2, f2)] := by
  refine ⟨⟨rfl, some ⟨b, 0, none⟩, 3, rfl, Nat.le_refl _, by omega, (fun h => by cases h), fun i hi => ⟨b, 0, rfl, ?_⟩⟩, fun x hx => ?_⟩
  · rw [Nat.zero_add, block_cell hb]
    rcases (show i = 0 ∨ i = 1 ∨ i = 2 by simp at hi; omega) with rfl | rfl | rfl <;> rfl
  · simp only [List.mem_cons, List.not_mem_nil, or_false] at hx
    rcases hx with rfl | rfl | rfl
    · exact h0
    · exact h1
    · exact h2
theorem isRs2 {w : World} {b : Nat} {v0 v1 : Value} {f0 f1 : List Fl} (hb : w.heap[b]? = some (.cells #[v0, v1] 24 (0, 0))) (h0 : IsF w v0 f0) (h1 : IsF w v1 f1) : IsRs w (.slice (some ⟨b, 0, none⟩) 2 2) [(v0, f0), (v1, f1)] := by
  refine ⟨⟨rfl, some ⟨b, 0, none⟩, 2, rfl, Nat.le_refl _, by omega, (fun h => by cases h), fun i hi => ⟨b, 0, rfl, ?_⟩⟩, fun x hx => ?_⟩
  · rw [Nat.zero_add, block_cell hb]
    rcases (show i = 0 ∨ i = 1 by simp at hi; omega) with rfl | rfl <;> rfl
  · simp only [List.mem_cons, List.not_mem_nil, or_false] at hx
    rcases hx with rfl | rfl
    · exact h0
    · exact h1
theorem results_cellTT {P : Program} {fn : Func} {p q r : Tmp} {ty : TypeId} (h : fn.results = #[.cell p ty, .tmp q, .tmp r]) (tmps : Array Value) (w : World) (g : Nat) (t : TypeId) (cs : Array Value) (fr : Nat × Nat) (d : TypeDesc)
    (hp : tmps.getD p undef = .pointer (some ⟨g, 0, none⟩)) (hg : w.heap[g]? = some (.cells cs t fr))
    (hu : P.underlying ty = some d) (hd : (match d with | .struct _ | .array _ _ => true | _ => false) = true) (hi : (P.info? ty).map (·.size) = some cs.size) :
    (results fn tmps).run P w = .ok (.tuple #[.agg cs, tmps.getD q undef, tmps.getD r undef]) w := by
  have hp' : tmps[p]?.getD undef = .pointer (some ⟨g, 0, none⟩) := by simpa using hp
  simp [results, h, hp', asAddr, run_loadVar_row w g t ty cs fr d hg hu hd hi]
theorem mem_allP {fss : List (List Fl)} {p : ByteArray} (h : p ∈ allP fss) : ∃ fs ∈ fss, ∃ f ∈ fs, f.path = p := by
  obtain ⟨fs, h1, h2⟩ := List.mem_flatMap.1 h
  obtain ⟨f, h3, h4⟩ := List.mem_map.1 h2
  exact ⟨fs, h1, f, h3, h4⟩
theorem getL_mem {l : List Fl} {p : ByteArray} {f : Fl} (h : getL l p = some f) : f ∈ l := List.mem_of_find?_eq_some h
theorem atM_size {l : List Fl} {p : ByteArray} (h : ∀ f ∈ l, flOk f) : (atM l p).2.size ≤ 140737488355328 := by
  unfold atM
  cases hg : getL l p with
  | none => exact Nat.zero_le _
  | some f => exact (h f (getL_mem hg)).2
theorem mgdM_ok {f0 f1 f2 : List Fl} (h0 : ∀ f ∈ f0, flOk f) (h1 : ∀ f ∈ f1, flOk f) (h2 : ∀ f ∈ f2, flOk f) : ∀ f ∈ mgdL (trosL f0 f1 f2 (pathsL [f0, f1, f2])), flOk f := by
  intro f hf
  unfold mgdL at hf
  obtain ⟨x, hx, hfx⟩ := List.mem_flatMap.1 hf
  unfold trosL at hx
  obtain ⟨p, hp, rfl⟩ := List.mem_map.1 hx
  have hpp : p.size ≤ 140737488355328 := by
    obtain ⟨fs, h3, g, h4, rfl⟩ := mem_allP ((pathsL_mem _ _).1 hp)
    simp only [List.mem_cons, List.not_mem_nil, or_false] at h3
    rcases h3 with rfl | rfl | rfl
    · exact (h0 g h4).1
    · exact (h1 g h4).1
    · exact (h2 g h4).1
  split at hfx
  · cases hfx
  · split at hfx
    · simp only [List.mem_cons, List.not_mem_nil, or_false] at hfx
      subst hfx
      refine ⟨hpp, ?_⟩
      show (mergedM _ _ _).2.size ≤ _
      unfold mergedM
      split
      · exact atM_size h2
      · exact atM_size h1
    · cases hfx
/-- What merging answers: the files, the clashes, the error. -/
def trosM (f0 f1 f2 : List Fl) : List Tr := trosL f0 f1 f2 (pathsL [f0, f1, f2])
def mergeL (f0 f1 f2 : List Fl) : List Fl × List Tr × Int :=
  if (repoB f0 && (repoB f1 && repoB f2)) = false then ([], [], 170)
  else if 0 < (clsL (trosM f0 f1 f2)).length then ([], clsL (trosM f0 f1 f2), 0)
  else if repoB (mgdL (trosM f0 f1 f2)) = false then ([], [], 6)
  else (mgdL (trosM f0 f1 f2), [], 0)
set_option maxHeartbeats 8000000 in
set_option maxRecDepth 100000 in
theorem mergeMerge (w : World) (v0 v1 v2 : Value) (f0 f1 f2 : List Fl) (h0 : IsF w v0 f0) (h1 : IsF w v1 f1) (h2 : IsF w v2 f2) :
    Calls Tryd.prog 12 #[.agg #[v0], .agg #[v1], .agg #[v2]] w fun e w' => ∃ vr vc, e = .returned (.tuple #[.agg #[vr], vc, .int .i64 (mergeL f0 f1 f2).2.2]) ∧
      w'.ownsRow w.heap.size 46 2 vr (mergeL f0 f1 f2).1.length ((mergeL f0 f1 f2).1.flatMap flC) ∧ w'.ownsRow w.heap.size 40 7 vc (mergeL f0 f1 f2).2.1.length ((mergeL f0 f1 f2).2.1.flatMap clT) ∧ Ext w w' := by
  obtain ⟨D, hD⟩ : ∃ D, mergeL f0 f1 f2 = D := ⟨_, rfl⟩
  rw [hD]
  have HD := Lib.hid hD
  clear hD
  obtain ⟨a0, c0, rfl, -⟩ := h0.opened
  obtain ⟨a1, c1, rfl, -⟩ := h1.opened
  obtain ⟨a2, c2, rfl, -⟩ := h2.opened
  have X5 : Ext w (((((w.alloc (.cells #[.slice a0 f0.length c0] 24)).alloc (.cells #[.slice a1 f1.length c1] 24)).alloc (.cells #[.slice a2 f2.length c2] 24)).alloc (.cells #[.slice none 0 0] 24)).alloc (.cells #[.slice a0 f0.length c0, .slice a1 f1.length c1, .slice a2 f2.length c2] 24)) := (((((Ext.refl w).alloc _).alloc _).alloc _).alloc _).alloc _
  have q0 := blk_old (o := .cells #[.slice a0 f0.length c0, .slice a1 f1.length c1, .slice a2 f2.length c2] 24) (blk_old (o := .cells #[.slice none 0 0] 24) (blk_old (o := .cells #[.slice a2 f2.length c2] 24) (blk_old (o := .cells #[.slice a1 f1.length c1] 24) (heap_alloc_new w (.cells #[.slice a0 f0.length c0] 24)))))
  have q1 := blk_old (o := .cells #[.slice a0 f0.length c0, .slice a1 f1.length c1, .slice a2 f2.length c2] 24) (blk_old (o := .cells #[.slice none 0 0] 24) (blk_old (o := .cells #[.slice a2 f2.length c2] 24) (blk_new (w := w.alloc (.cells #[.slice a0 f0.length c0] 24)) (b := w.heap.size + 1) (o := .cells #[.slice a1 f1.length c1] 24) (by simp))))
  have q2 := blk_old (o := .cells #[.slice a0 f0.length c0, .slice a1 f1.length c1, .slice a2 f2.length c2] 24) (blk_old (o := .cells #[.slice none 0 0] 24) (blk_new (w := (w.alloc (.cells #[.slice a0 f0.length c0] 24)).alloc (.cells #[.slice a1 f1.length c1] 24)) (b := w.heap.size + 1 + 1) (o := .cells #[.slice a2 f2.length c2] 24) (by simp)))
  have q3 := blk_old (o := .cells #[.slice a0 f0.length c0, .slice a1 f1.length c1, .slice a2 f2.length c2] 24) (blk_new (w := ((w.alloc (.cells #[.slice a0 f0.length c0] 24)).alloc (.cells #[.slice a1 f1.length c1] 24)).alloc (.cells #[.slice a2 f2.length c2] 24)) (b := w.heap.size + 1 + 1 + 1) (o := .cells #[.slice none 0 0] 24) (by simp))
  have q4 := blk_new (w := (((w.alloc (.cells #[.slice a0 f0.length c0] 24)).alloc (.cells #[.slice a1 f1.length c1] 24)).alloc (.cells #[.slice a2 f2.length c2] 24)).alloc (.cells #[.slice none 0 0] 24)) (b := w.heap.size + 1 + 1 + 1 + 1) (o := .cells #[.slice a0 f0.length c0, .slice a1 f1.length c1, .slice a2 f2.length c2] 24) (by simp)
  go_enter Tryd.func12, Tryd.ntmps12
  go_wp2_with fail
  generalize ((((w.alloc (.cells #[.slice a0 f0.length c0] 24)).alloc (.cells #[.slice a1 f1.length c1] 24)).alloc (.cells #[.slice a2 f2.length c2] 24)).alloc (.cells #[.slice none 0 0] 24)).alloc (.cells #[.slice a0 f0.length c0, .slice a1 f1.length c1, .slice a2 f2.length c2] 24) = w5 at *
  generalize hG : w.heap.size = G at *
  have HF0 := Lib.hid (h0.ext X5)
  have HF1 := Lib.hid (h1.ext X5)
  have HF2 := Lib.hid (h2.ext X5)
  clear h0 h1 h2
  refine Calls.mono (mergeChecked w5 _ [(_, f0), (_, f1), (_, f2)] (isRs3 q4 HF0.out HF1.out HF2.out) (by simp)) ?_
  rintro e w6 ⟨rfl, x6⟩
  have hall : ([((.slice a0 f0.length c0 : Value), f0), ((.slice a1 f1.length c1 : Value), f1), ((.slice a2 f2.length c2 : Value), f2)].all fun x => repoB x.2) = (repoB f0 && (repoB f1 && repoB f2)) := by simp
  rw [hall]
  clear hall q4
  have X6 := X5.trans x6
  have r0 : w6.cell? ⟨G, 0, none⟩ = some (.slice a0 f0.length c0) := by rw [block_cell (x6.keeps q0)]; rfl
  have r1 : w6.cell? ⟨G + 1, 0, none⟩ = some (.slice a1 f1.length c1) := by rw [block_cell (x6.keeps q1)]; rfl
  have r2 : w6.cell? ⟨G + 1 + 1, 0, none⟩ = some (.slice a2 f2.length c2) := by rw [block_cell (x6.keeps q2)]; rfl
  have q3 := x6.keeps q3
  have r3 : w6.cell? ⟨G + 1 + 1 + 1, 0, none⟩ = some (.slice none 0 0) := by rw [block_cell q3]; rfl
  have g3 := block_free q3 0
  clear q0 q1 q2
  cases hrr : (repoB f0 && (repoB f1 && repoB f2)) with
  | false =>
    obtain rfl : ([], [], 170) = D := by rw [← HD.out]; unfold mergeL; rw [hrr]; rfl
    simp only [show errR false = 170 from rfl]
    go_wp2_with fail
    refine bodyPost_ret (results_cellTT rfl _ _ (G + 1 + 1 + 1) _ _ _ _ (by rfl) (block_setCell q3 _) Tryd.underlying24 rfl (info1M _)) rfl ?_
    exact ⟨_, _, rfl, World.ownsRow_nil _ _ _ _, World.ownsRow_nil _ _ _ _, X6.setCell (p := ⟨G + 1 + 1 + 1, 0, none⟩) (by show w.heap.size ≤ G + 1 + 1 + 1; omega) _⟩
  | true =>
    simp only [show errR true = 0 from rfl]
    have hb := hrr
    simp only [Bool.and_eq_true] at hb
    obtain ⟨hb0, hb1, hb2⟩ := hb
    have HRR := Lib.hid hrr
    have e0 := repo_len hb0
    have e1 := repo_len hb1
    have e2 := repo_len hb2
    go_wp2_with fail
    refine Calls.mono (mergeFound w6 _ _ _ f0 f1 f2 (HF0.out.ext x6) (HF1.out.ext x6) (HF2.out.ext x6) (repo_sorted hb0) (repo_sorted hb1) (repo_sorted hb2) (by omega) (by omega) (by omega)) ?_
    rintro e w7 ⟨vc, vr, rfl, ownC, ownR, x7⟩
    have hC : clsL (trosL f0 f1 f2 (pathsL [f0, f1, f2])) = clsL (trosM f0 f1 f2) := rfl
    have hM : mgdL (trosL f0 f1 f2 (pathsL [f0, f1, f2])) = mgdL (trosM f0 f1 f2) := rfl
    rw [hC] at ownC
    rw [hM] at ownR
    have hok := HRR.out
    have hD2 : D = if 0 < (clsL (trosM f0 f1 f2)).length then ([], clsL (trosM f0 f1 f2), 0) else if repoB (mgdL (trosM f0 f1 f2)) = false then ([], [], 6) else (mgdL (trosM f0 f1 f2), [], 0) := by
      rw [← HD.out]; unfold mergeL; rw [hok]; rfl
    have HFM := Lib.hid (show ∀ f ∈ mgdL (trosM f0 f1 f2), flOk f from mgdM_ok (f0 := f0) (f1 := f1) (f2 := f2) HF0.out.ok HF1.out.ok HF2.out.ok)
    clear hC hM hok HD HRR hrr
    generalize clsL (trosM f0 f1 f2) = CL at *
    generalize mgdL (trosM f0 f1 f2) = ML at *
    have HD2 := Lib.hid hD2
    clear hD2 hb0 hb1 hb2 e0 e1 e2 r0 r1 r2
    obtain ⟨ac, cc, rfl⟩ := slice_shape ownC
    obtain ⟨ar, cr, rfl⟩ := slice_shape ownR
    have x8 : Ext w6 (w7.alloc (.cells #[.slice ar ML.length cr] 24)) := x7.alloc _
    have ownC := ownC.alloc (.cells #[.slice ar ML.length cr] 24)
    have ownR := ownR.alloc (.cells #[.slice ar ML.length cr] 24)
    have bN := heap_alloc_new w7 (.cells #[.slice ar ML.length cr] 24)
    have q3 := x8.keeps q3
    have r3 := x8.cell r3
    have g3 := block_free q3 0
    have X8 := X6.trans x8
    have h67 : G ≤ w6.heap.size := by have := X6.size; omega
    by_cases hpos : 0 < CL.length
    · obtain rfl : ([], CL, 0) = D := by rw [HD2.out, if_pos hpos]
      have hp2 : (0 : Int) < (CL.length : Int) := by omega
      go_wp2_with fail
      generalize w7.alloc (.cells #[.slice ar ML.length cr] 24) = w8 at *
      refine bodyPost_ret (results_cellTT rfl _ _ (G + 1 + 1 + 1) _ _ _ _ (by rfl) (block_setCell q3 _) Tryd.underlying24 rfl (info1M _)) rfl ?_
      exact ⟨_, _, rfl, World.ownsRow_nil _ _ _ _, ownsRow_base (ownC.kept (grown_setCell _ _ _ _) (.inr (own_neU ownC q3 (by decide)))) h67, X8.setCell (p := ⟨G + 1 + 1 + 1, 0, none⟩) (by show w.heap.size ≤ G + 1 + 1 + 1; omega) _⟩
    · have hp2 : ¬ (0 : Int) < (CL.length : Int) := by omega
      go_wp2_with fail
      generalize w7.alloc (.cells #[.slice ar ML.length cr] 24) = w8 at *
      generalize w7.heap.size = N at *
      refine Calls.mono (treeCheck w8 _ ML ⟨IsSl.of_owns ownR, HFM.out⟩) ?_
      rintro e w9 ⟨rfl, x9⟩
      have q3 := x9.keeps q3
      have r3 := x9.cell r3
      have g3 := block_free q3 0
      have bN := x9.keeps bN
      have rN : w9.cell? ⟨N, 0, none⟩ = some (.slice ar ML.length cr) := by rw [block_cell bN]; rfl
      have ownR := owns_extU ownR x9
      have X9 := X8.trans x9
      cases hml : repoB ML with
      | false =>
        obtain rfl : ([], [], 6) = D := by rw [HD2.out, if_neg hpos, if_pos hml]
        simp only [show errR false = 170 from rfl]
        go_wp2_with fail
        refine bodyPost_ret (results_cellTT rfl _ _ (G + 1 + 1 + 1) _ _ _ _ (by rfl) (block_setCell q3 _) Tryd.underlying24 rfl (info1M _)) rfl ?_
        exact ⟨_, _, rfl, World.ownsRow_nil _ _ _ _, World.ownsRow_nil _ _ _ _, X9.setCell (p := ⟨G + 1 + 1 + 1, 0, none⟩) (by show w.heap.size ≤ G + 1 + 1 + 1; omega) _⟩
      | true =>
        obtain rfl : (ML, [], 0) = D := by rw [HD2.out, if_neg hpos, if_neg (by rw [hml]; decide)]
        simp only [show errR true = 0 from rfl]
        go_wp2_with fail
        refine bodyPost_ret (results_cellTT rfl _ _ (G + 1 + 1 + 1) _ _ _ _ (by rfl) (block_setCell q3 _) Tryd.underlying24 rfl (info1M _)) rfl ?_
        exact ⟨_, _, rfl, ownsRow_base (ownR.kept (grown_setCell _ _ _ _) (.inr (own_neU ownR q3 (by decide)))) h67, World.ownsRow_nil _ _ _ _, X9.setCell (p := ⟨G + 1 + 1 + 1, 0, none⟩) (by show w.heap.size ≤ G + 1 + 1 + 1; omega) _⟩
end Go.Proofs.YtpcpcjejdngllaaDoor
