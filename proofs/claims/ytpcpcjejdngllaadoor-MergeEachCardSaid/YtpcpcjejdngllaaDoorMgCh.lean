/- The walk of merge.Changed. -/
import Derived.Test.YtpcpcjejdngllaaDoorMgF
namespace Go.Proofs.YtpcpcjejdngllaaDoor
open Go.RowKit Go.Shelf
attribute [local go_sem] Oper.semAt_some
set_option linter.unusedVariables false
set_option linter.unusedSimpArgs false

/-- The paths where the two differ. -/
def chxL (xs : List Tr) : List ByteArray := (xs.filter fun x => !decide (x.2.1 = x.2.2.1)).map Prod.fst
def changedL (f0 f1 : List Fl) : List ByteArray × Int := if (repoB f0 && repoB f1) = false then ([], 170) else (chxL (trosL f0 f1 [] (pathsL [f0, f1, []])), 0)
theorem chxL_snoc (xs : List Tr) (x : Tr) : chxL (xs ++ [x]) = chxL xs ++ (if decide (x.2.1 = x.2.2.1) = true then [] else [x.1]) := by
  unfold chxL
  rw [List.filter_append, List.map_append]
  congr 1
  cases h : decide (x.2.1 = x.2.2.1) <;> simp [h]
theorem chxL_len (xs : List Tr) : (chxL xs).length ≤ xs.length := by
  unfold chxL
  rw [List.length_map]
  exact List.length_filter_le _ _
theorem isF_nil (w : World) : IsF w (.slice none 0 0) [] := ⟨IsSl.nil w 2, fun f hf => by cases hf⟩
theorem results_TT {P : Program} {fn : Func} {p q : Tmp} (h : fn.results = #[.tmp p, .tmp q]) (tmps : Array Value) (w : World) : (results fn tmps).run P w = .ok (.tuple #[tmps.getD p undef, tmps.getD q undef]) w := by
  simp [results, h]

set_option maxHeartbeats 8000000 in
set_option maxRecDepth 100000 in
theorem mergeChanged (w : World) (v0 v1 : Value) (f0 f1 : List Fl) (h0 : IsF w v0 f0) (h1 : IsF w v1 f1) :
    Calls Tryd.prog 22 #[.agg #[v0], .agg #[v1]] w fun e w' => ∃ v, e = .returned (.tuple #[v, .int .i64 (changedL f0 f1).2]) ∧
      w'.ownsRow w.heap.size 9 1 v (changedL f0 f1).1.length ((changedL f0 f1).1.map .string) ∧ Ext w w' := by
  obtain ⟨D, hD⟩ : ∃ D, changedL f0 f1 = D := ⟨_, rfl⟩
  rw [hD]
  have HD := Lib.hid hD
  clear hD
  obtain ⟨a0, c0, rfl, -⟩ := h0.opened
  obtain ⟨a1, c1, rfl, -⟩ := h1.opened
  refine (callsIn_wide (n := 7)).1 ?_
  refine callsIn_of_wp_marks Tryd.func22 rfl trivial ?_ rfl
  simp only [Tryd.ntmps22, List.size_toArray, List.length_cons, List.length_nil, Nat.reduceAdd, Nat.reduceSub, Array.replicate_succ, Array.replicate_zero, List.push_toArray, List.append_toArray, List.nil_append, List.cons_append]
  have X1 : Ext w (((w.alloc (.cells #[.slice a0 f0.length c0] 24)).alloc (.cells #[.slice a1 f1.length c1] 24)).alloc (.cells #[.slice a0 f0.length c0, .slice a1 f1.length c1] 24)) := (((Ext.refl w).alloc _).alloc _).alloc _
  have q0 := blk_old (o := .cells #[.slice a0 f0.length c0, .slice a1 f1.length c1] 24) (blk_old (o := .cells #[.slice a1 f1.length c1] 24) (heap_alloc_new w (.cells #[.slice a0 f0.length c0] 24)))
  have q1 := blk_old (o := .cells #[.slice a0 f0.length c0, .slice a1 f1.length c1] 24) (blk_new (w := w.alloc (.cells #[.slice a0 f0.length c0] 24)) (b := w.heap.size + 1) (o := .cells #[.slice a1 f1.length c1] 24) (by simp))
  have q2 := blk_new (w := (w.alloc (.cells #[.slice a0 f0.length c0] 24)).alloc (.cells #[.slice a1 f1.length c1] 24)) (b := w.heap.size + 1 + 1) (o := .cells #[.slice a0 f0.length c0, .slice a1 f1.length c1] 24) (by simp)
  gi_wp2
  generalize ((w.alloc (.cells #[.slice a0 f0.length c0] 24)).alloc (.cells #[.slice a1 f1.length c1] 24)).alloc (.cells #[.slice a0 f0.length c0, .slice a1 f1.length c1] 24) = w1 at *
  generalize hG : w.heap.size = G at *
  have HF0 := Lib.hid (h0.ext X1)
  have HF1 := Lib.hid (h1.ext X1)
  have HW0 := Lib.hid h0
  have HW1 := Lib.hid h1
  clear h0 h1
  refine ⟨trivial, ((callsIn_wide (n := 7 - 1)).2 (mergeChecked w1 _ [(_, f0), (_, f1)] (isRs2 q2 HF0.out HF1.out) (by simp))).mono ?_⟩
  rintro e w2 ⟨rfl, x2⟩
  have hall : ([((.slice a0 f0.length c0 : Value), f0), ((.slice a1 f1.length c1 : Value), f1)].all fun x => repoB x.2) = (repoB f0 && repoB f1) := by simp
  rw [hall]
  have X2 := X1.trans x2
  have r0 : w2.cell? ⟨G, 0, none⟩ = some (.slice a0 f0.length c0) := by rw [block_cell (x2.keeps q0)]; rfl
  have r1 : w2.cell? ⟨G + 1, 0, none⟩ = some (.slice a1 f1.length c1) := by rw [block_cell (x2.keeps q1)]; rfl
  have hG2 : G + 1 < w2.heap.size := block_lt (x2.keeps q1)
  clear q0 q1 q2 hall
  cases hrr : (repoB f0 && repoB f1) with
  | false =>
    obtain rfl : ([], 170) = D := by rw [← HD.out]; unfold changedL; rw [hrr]; rfl
    simp only [show errR false = 170 from rfl]
    gi_wp2
    simp only [bodyPostM, LeavesInM, LeavesIn]
    refine ⟨_, results_TT rfl _ _, ?_⟩
    exact ⟨_, rfl, World.ownsRow_nil _ _ _ _, X2⟩
  | true =>
    have hD2 : D = (chxL (trosL f0 f1 [] (pathsL [f0, f1, []])), 0) := by rw [← HD.out]; unfold changedL; rw [hrr]; rfl
    clear HD
    simp only [show errR true = 0 from rfl]
    have hb := hrr
    simp only [Bool.and_eq_true] at hb
    obtain ⟨hb0, hb1⟩ := hb
    have e0 := repo_len hb0
    have e1 := repo_len hb1
    have s0 := repo_sorted hb0
    have s1 := repo_sorted hb1
    clear hrr hb0 hb1
    obtain ⟨xs, hxs⟩ : ∃ xs, trosL f0 f1 [] (pathsL [f0, f1, []]) = xs := ⟨_, rfl⟩
    rw [hxs] at hD2
    have HD2 := Lib.hid hD2
    clear hD2
    have hxl : xs.length ≤ 4000 := by
      rw [← hxs]
      unfold trosL pathsL
      rw [List.length_map]
      have := foldP_len (allP [f0, f1, []]) []
      simp [allP] at this
      simp [allP]
      omega
    have HXS := Lib.hid hxs
    clear hxs
    have bO := heap_alloc_new w2 (.cells #[.slice none 0 0] 33)
    have xa := (Ext.refl w2).alloc (.cells #[.slice none 0 0] 33)
    have r0 := xa.cell r0
    have r1 := xa.cell r1
    have X3 := X2.trans xa
    have hGN : G + 1 < w2.heap.size := hG2
    gi_wp2
    generalize w2.alloc (.cells #[.slice none 0 0] 33) = w3 at *
    generalize w2.heap.size = N at *
    refine ⟨trivial, ((callsIn_wide (n := 7 - 1)).2 (mergePaths w3 _ _ _ f0 f1 [] (HW0.out.ext X3) (HW1.out.ext X3) (isF_nil w3) (by omega) (by omega) (by decide))).mono ?_⟩
    rintro e w4 ⟨A, L, rfl, ⟨⟨vp, bA, own⟩, bL, hA, hL⟩, x4⟩
    have X4 := X3.trans x4
    have hN3 := block_lt bO
    have bO := x4.keeps bO
    have hz4 := x4.size
    have HX2 := HXS.out
    have it := paths_it 6 (by omega) w w4 w3.heap.size A L vp _ _ _ f0 f1 [] (pathsL [f0, f1, []]) (fun b => b < w4.heap.size ∧ b ≠ N) HW0.out HW1.out (isF_nil w) s0 s1 List.Pairwise.nil (by omega) (by omega) (by decide)
      (by rw [← HX2] at hxl; simpa [trosL] using hxl) X4 bA bL own (fun b hb => ⟨by omega, by omega⟩) ⟨block_lt bA, by omega⟩ ⟨block_lt bL, by omega⟩
      (fun g hg => by have := own.lt g hg; exact ⟨by omega, by omega⟩)
    rw [HX2] at it
    clear own bA bL s0 s1 r0 r1 xa
    gi_wp2
    refine wp_rangeG (enc := trE) 7 (by omega) (gf := 60) (lb := #[.pointer (some ⟨A, 0, none⟩), .pointer (some ⟨L, 0, none⟩)]) rfl (enters_of Tryd.func60 (by kernel_rfl) rfl) (fun _ => rfl) (xs := xs) (S := fun b => b < w4.heap.size ∧ b ≠ N) (fun b hb => hb.1) it
      (fun pre W => ∃ vo, W.heap[N]? = some (.cells #[vo] 33 (0, 0)) ∧ W.ownsRow w4.heap.size 9 1 vo (chxL pre).length ((chxL pre).map .string) ∧ Ext w W ∧ w4.heap.size ≤ W.heap.size)
      (fun _ _ _ => False)
      (fun x a' W => ∃ Bx, w4.heap.size ≤ Bx ∧ W.heap[Bx]? = some (.cells #[.bool x.2.1.1, .string x.2.1.2, .bool x.2.2.1.1, .string x.2.2.1.2, .bool x.2.2.2.1, .string x.2.2.2.2] 74 (0, 0)) ∧ a' = { tmps := #[.agg #[.slice a0 f0.length c0], .agg #[.slice a1 f1.length c1], .pointer (some ⟨G, 0, none⟩), .pointer (some ⟨G + 1, 0, none⟩), .slice none 0 0, .int .i64 0, .int .i64 0, .pointer (some ⟨N, 0, none⟩), .string x.1, .pointer (some ⟨Bx, 0, none⟩), .agg #[.slice a0 f0.length c0], .agg #[.slice a1 f1.length c1], .slice (some ⟨G + 1 + 1, 0, none⟩) 2 2, .int .i64 0, .int .i64 0, .bool false, undef, .agg #[.slice a0 f0.length c0], .agg #[.slice a1 f1.length c1], .agg #[.slice a0 f0.length c0, .slice a1 f1.length c1, .slice none 0 0], seqM A L, .string x.1, .agg #[.bool x.2.1.1, .string x.2.1.2, .bool x.2.2.1.1, .string x.2.2.1.2, .bool x.2.2.2.1, .string x.2.2.2.2], undef, undef, undef, undef, undef, undef, undef, undef, undef, undef], defers := [] })
      ?ie ?is ?ip ?xp ?ap ?h0 ?assign ?body ?done ?stop
    case ie =>
      rintro pre A B ⟨vo, h1, h3, h6, h7⟩ x
      exact ⟨vo, x.keeps h1, owns_extU h3 x, h6.trans x, Nat.le_trans h7 x.size⟩
    case is =>
      rintro pre A ⟨vo, h1, h3, h6, h7⟩
      exact h7
    case ip =>
      rintro pre W l o o' ⟨vo, h1, h3, h6, h7⟩ hl ho hc
      exact ⟨vo, (put_otherG (by omega)).trans h1, owns_put h3 ho hc, h6.grown (grownBy_putObj' W l o') (fun k e => by cases e; omega), by rw [put_size]; exact h7⟩
    case xp => intro c pre W l o o' h; exact h.elim
    case ap =>
      rintro x a' W l o o' ⟨Bx, h1, h2, h3⟩ hl ho hc
      refine ⟨Bx, h1, (put_otherG (fun e => ?_)).trans h2, h3⟩
      subst e
      rw [ho] at h2
      cases h2
      simp [Obj.isCells] at hc
    case h0 => exact ⟨_, bO, World.ownsRow_nil _ _ _ _, X4, Nat.le_refl _⟩
    case assign =>
      intro l x W K hws hK
      dsimp only [trE, trV]
      gi_wp2
      exact hK _ _ ((Ext.refl W).alloc _) ⟨W.heap.size, by omega, heap_alloc_new W _, rfl⟩
    case body =>
      rintro l pre x a' W hpx hws ⟨vo, bO, ownO, X, hs⟩ ⟨Bx, hBx, bX, rfl⟩
      have HC := Lib.hid (chxL_snoc pre x)
      have hpl : pre.length < 4000 := by
        have := hpx.length_le
        rw [List.length_append, List.length_singleton] at this
        omega
      have hcl := chxL_len pre
      obtain ⟨p, m0, m1, m2⟩ := x
      dsimp only at bX HC ⊢
      generalize chxL pre = CL at *
      have k0 : W.cell? ⟨Bx, 0, none⟩ = some (.bool m0.1) := by rw [block_cell bX]; rfl
      have k1 : W.cell? ⟨Bx, 1, none⟩ = some (.string m0.2) := by rw [block_cell bX]; rfl
      have k2 : W.cell? ⟨Bx, 2, none⟩ = some (.bool m1.1) := by rw [block_cell bX]; rfl
      have k3 : W.cell? ⟨Bx, 3, none⟩ = some (.string m1.2) := by rw [block_cell bX]; rfl
      obtain ⟨ao, co, rfl⟩ := slice_shape ownO
      have cO : W.cell? ⟨N, 0, none⟩ = some (.slice ao CL.length co) := by rw [block_cell bO]; rfl
      have fO := block_free bO 0
      have hne := mbNeq
      clear bX
      cases hd : decide (m0 = m1) with
      | true =>
        rw [hd] at HC
        gi_wp2
        refine ⟨KeepO.refl _, KeepS.refl _ _, _, bO, ?_, X, hs⟩
        rw [HC.out]
        simpa using ownO
      | false =>
        rw [hd] at HC
        have own6 := ownO.alloc (.cells #[.string p] 9)
        have yA : Ext W (W.alloc (.cells #[.string p] 9)) := (Ext.refl _).alloc _
        have bO6 := yA.keeps bO
        have hs6 := Nat.le_trans hs yA.size
        have HX6 := Lib.hid (X.trans yA)
        have HKO := Lib.hid (KeepO.ext yA)
        have HKS := Lib.hid (KeepS.ext (S := fun b => b < w4.heap.size ∧ b ≠ N) (fun b hb => by have := hb.1; omega) yA)
        have hone : ∀ u ∈ [Value.string p], u.oneCell' = true := (fun u hu => by simp only [List.mem_cons, List.not_mem_nil, or_false] at hu; subst hu; rfl)
        clear X
        gi_wp2_with (gi_at_builtin; go_must (refine wp_appIn (w := W.alloc (.cells #[.string p] 9)) tyS rfl (.tmp 28) (.tmp 30) rfl w4.heap.size _ CL.length _ own6 (by rfl) _ 1 [.string p] (by omega) (sl_one_new (w := W) (n := 1) (e := 9) (Q := [.string p]) rfl rfl) (by rfl) hone (by omega) (by omega) hs6 ?_); intro v7 w7 own7 gr7; have bO7 := grown_otherO gr7 bO6 (own_neU own6 bO6 (by decide)); have fO7 := block_free bO7 0; have cO7 := block_cell bO7 0; obtain ⟨a7, c7, rfl⟩ := slice_shape own7)
        have X7 := HX6.out.grown gr7 (fun k hk => by have := (own6.lt k hk).1; have := X4.size; omega)
        refine ⟨(HKO.out.trans (KeepO.own own6 gr7)).trans (KeepO.setCell _ _ _), (HKS.out.trans (KeepS.own own6 gr7 (fun b hb => ⟨by have := hb.1; omega, hb.1⟩))).trans (KeepS.grown (grown_setCell _ _ _ _) (fun b hb => by have := hb.1; have := gr7.size; omega) (fun h => h.2 rfl)), ?_⟩
        refine ⟨_, block_setCell bO7 _, ?_, X7.setCell (p := ⟨N, 0, none⟩) (by show w.heap.size ≤ N; omega) _, ?_⟩
        · have := own7.kept (grown_setCell w7 N 0 (.slice a7 (CL.length + 1) c7)) (.inr (own_neU own7 bO7 (by decide)))
          rw [HC.out]
          simp only [Bool.false_eq_true, if_false, List.length_append, List.map_append]
          simpa using this
        · exact Nat.le_trans hs6 (Nat.le_trans gr7.size (grown_setCell w7 N 0 _).size)
    case done =>
      rintro D2 W hD2 ⟨vo, bO, ownO, X, hs⟩ hK
      obtain ⟨CL, hCL⟩ : ∃ C, chxL xs = C := ⟨_, rfl⟩
      rw [hCL] at ownO
      have HCL := Lib.hid hCL
      clear hCL
      obtain ⟨ao, co, rfl⟩ := slice_shape ownO
      have cO : W.cell? ⟨N, 0, none⟩ = some (.slice ao CL.length co) := by rw [block_cell bO]; rfl
      gi_wp2
      refine ⟨by simp, .inl ⟨_, _, rfl, run_takeDeferred hK, ?_⟩⟩
      refine ⟨_, results_TT rfl _ _, ?_⟩
      rw [HD2.out, HCL.out]
      have hX4 := X4.size
      exact ⟨_, rfl, ownsRow_base (owns_put ownO hK rfl) (by omega), X.grown (grownBy_putObj' W D2 _) (fun k e => by cases e; omega)⟩
    case stop => intro D c pre W _ _ h _; exact h.elim
end Go.Proofs.YtpcpcjejdngllaaDoor
