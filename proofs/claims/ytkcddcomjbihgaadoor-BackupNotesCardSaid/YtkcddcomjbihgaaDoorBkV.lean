/- Backup: the walk of wakes. -/
import Derived.Test.YtkcddcomjbihgaaDoorBkU
namespace Go.Proofs.YtkcddcomjbihgaaDoor
open Go.RowKit
set_option linter.unusedVariables false
set_option linter.unusedSimpArgs false

set_option maxHeartbeats 2000000 in
set_option maxRecDepth 100000 in
theorem lawWakes (w : World) (hK : Tabs w) :
    Calls Tryd.prog 9 #[] w fun e w' => e = .returned (.bool true) ∧ Ext w w' := by
  go_enter Tryd.func9, Tryd.ntmps9
  have HX := Lib.hid (Ext.refl w)
  have HK := Lib.hid hK
  clear hK
  go_upto_region 2 with (((with_reducible refine at_store 44 (.tmp 1) (.tmp 11) ?_); go_must (refine wpl_store rfl 44 (.tmp 1) (.tmp 11) rfl w.heap.size #[.int .u32 (vK.n : Int), .int .i64 vK.p, .int .i64 vK.b] (by rfl) (by rfl) 44 _ (heap_alloc_new w _) (by kernel_rfl) rfl (by kernel_rfl) ?_)))
  have hsV := HX.out.size
  refine wp_forget (fun W => Ext w W ∧ W.heap[w.heap.size]? = some (.cells #[.int .u32 (vK.n : Int), .int .i64 vK.p, .int .i64 vK.b] 44 (0, 0))) ⟨ext_new _ _ _, new_row _ _ _ _⟩ ?_
  rintro W1 ⟨y, bV⟩
  obtain ⟨BV, hB⟩ : ∃ x, x = w.heap.size := ⟨_, rfl⟩
  rw [← hB] at bV hsV
  rw [← hB]
  clear hB
  have HX := Lib.hid (HX.out.trans y)
  clear y
  go_wp2_with fail
  refine (bkNewT _ 1 (by decide)).mono ?_
  rintro e wA ⟨rfl, y⟩
  have bV := y.keeps bV
  have HX := Lib.hid (HX.out.trans y)
  clear y
  go_upto_region 3 with (((with_reducible refine at_store 47 (.tmp 2) (.tmp 14) ?_); go_must (refine wpl_store rfl 47 (.tmp 2) (.tmp 14) rfl wA.heap.size #[.int .i64 (newP 1).me, .int .u32 ((newP 1).v.n : Int), .int .i64 (newP 1).v.p, .int .i64 (newP 1).v.b, .int .u32 ((newP 1).base.1 : Int), .int .u32 ((newP 1).base.2 : Int), (.slice none 0 0), .bool (newP 1).known, .bool (newP 1).joined, .bool (newP 1).instep, .int .u32 ((newP 1).acked : Int)] (by rfl) (by rfl) 47 _ (heap_alloc_new wA _) (by kernel_rfl) rfl (pr_one _ _ _ _) ?_)))
  have l_V_A := block_lt bV
  have hsA := HX.out.size
  refine wp_forget (fun W => Ext wA W ∧ W.heap[wA.heap.size]? = some (.cells #[.int .i64 (newP 1).me, .int .u32 ((newP 1).v.n : Int), .int .i64 (newP 1).v.p, .int .i64 (newP 1).v.b, .int .u32 ((newP 1).base.1 : Int), .int .u32 ((newP 1).base.2 : Int), (.slice none 0 0), .bool (newP 1).known, .bool (newP 1).joined, .bool (newP 1).instep, .int .u32 ((newP 1).acked : Int)] 47 (0, 0))) ⟨ext_new _ _ _, new_row _ _ _ _⟩ ?_
  rintro W2 ⟨y, bA⟩
  obtain ⟨BA, hB⟩ : ∃ x, x = wA.heap.size := ⟨_, rfl⟩
  rw [← hB] at bA hsA l_V_A
  rw [← hB]
  clear hB
  have bV := y.keeps bV
  have HX := Lib.hid (HX.out.trans y)
  clear y
  go_wp2_with fail
  refine (bkNewT _ 2 (by decide)).mono ?_
  rintro e wB ⟨rfl, y⟩
  have bV := y.keeps bV
  have bA := y.keeps bA
  have HX := Lib.hid (HX.out.trans y)
  clear y
  go_upto_region 4 with (((with_reducible refine at_store 47 (.tmp 4) (.tmp 18) ?_); go_must (refine wpl_store rfl 47 (.tmp 4) (.tmp 18) rfl wB.heap.size #[.int .i64 (newP 2).me, .int .u32 ((newP 2).v.n : Int), .int .i64 (newP 2).v.p, .int .i64 (newP 2).v.b, .int .u32 ((newP 2).base.1 : Int), .int .u32 ((newP 2).base.2 : Int), (.slice none 0 0), .bool (newP 2).known, .bool (newP 2).joined, .bool (newP 2).instep, .int .u32 ((newP 2).acked : Int)] (by rfl) (by rfl) 47 _ (heap_alloc_new wB _) (by kernel_rfl) rfl (pr_one _ _ _ _) ?_)))
  have l_V_B := block_lt bV
  have l_A_B := block_lt bA
  have hsB := HX.out.size
  refine wp_forget (fun W => Ext wB W ∧ W.heap[wB.heap.size]? = some (.cells #[.int .i64 (newP 2).me, .int .u32 ((newP 2).v.n : Int), .int .i64 (newP 2).v.p, .int .i64 (newP 2).v.b, .int .u32 ((newP 2).base.1 : Int), .int .u32 ((newP 2).base.2 : Int), (.slice none 0 0), .bool (newP 2).known, .bool (newP 2).joined, .bool (newP 2).instep, .int .u32 ((newP 2).acked : Int)] 47 (0, 0))) ⟨ext_new _ _ _, new_row _ _ _ _⟩ ?_
  rintro W3 ⟨y, bB⟩
  obtain ⟨BB, hB⟩ : ∃ x, x = wB.heap.size := ⟨_, rfl⟩
  rw [← hB] at bB hsB l_V_B l_A_B
  rw [← hB]
  clear hB
  have bV := y.keeps bV
  have bA := y.keeps bA
  have HX := Lib.hid (HX.out.trans y)
  clear y
  go_upto_region 6 with fail
  have cV := block_all bV
  have cA := block_all bA
  have hzA := HX.out.size
  go_wp2_with fail
  refine (bkEnter _ _ (newP 1) [] vK (fun e he => by simp [newP] at he) (lgNilU _ _ rfl) okA0 (by decide)).mono ?_
  rintro e wEA ⟨y, hpost⟩
  have bV := y.keeps bV
  have bA := y.keeps bA
  have bB := y.keeps bB
  have HX := Lib.hid (HX.out.trans y)
  clear y
  rcases hpost with ⟨hz, rfl⟩ | ⟨hz, vl, ul, rfl, ilA⟩
  · exact absurd wkEntA.2 hz
  obtain rfl : ul = [] := List.eq_nil_of_length_eq_zero ilA.len
  obtain ⟨aA, kA, rfl⟩ := ilA.shape
  have ilA := ilA.base hzA
  rw [wkEntA.1]
  clear hz
  clear cV cA
  go_upto_region 7 with (((with_reducible refine at_store 47 (.tmp 2) (.tmp 30) ?_); go_must (refine wpl_store rfl 47 (.tmp 2) (.tmp 30) rfl BA #[.int .i64 pA1.me, .int .u32 (pA1.v.n : Int), .int .i64 pA1.v.p, .int .i64 pA1.v.b, .int .u32 (pA1.base.1 : Int), .int .u32 (pA1.base.2 : Int), (.slice aA (newP 1).log.length kA), .bool pA1.known, .bool pA1.joined, .bool pA1.instep, .int .u32 (pA1.acked : Int)] (by rfl) (by rfl) 47 _ bA (by kernel_rfl) rfl (pr_one _ _ _ _) ?_)))
  have gr := grown_setRow (w := wEA) (g := BA) (c := #[.int .i64 pA1.me, .int .u32 (pA1.v.n : Int), .int .i64 pA1.v.p, .int .i64 pA1.v.b, .int .u32 (pA1.base.1 : Int), .int .u32 (pA1.base.2 : Int), (.slice aA (newP 1).log.length kA), .bool pA1.known, .bool pA1.joined, .bool pA1.instep, .int .u32 (pA1.acked : Int)])
  have bnew := setRow_heap _ BA _ #[.int .i64 pA1.me, .int .u32 (pA1.v.n : Int), .int .i64 pA1.v.p, .int .i64 pA1.v.b, .int .u32 (pA1.base.1 : Int), .int .u32 (pA1.base.2 : Int), (.slice aA (newP 1).log.length kA), .bool pA1.known, .bool pA1.joined, .bool pA1.instep, .int .u32 (pA1.acked : Int)] _ _ bA
  have bV := grown_other gr bV (by omega)
  have bB := grown_other gr bB (by omega)
  have ilA := ilA.grown gr bA (by decide) (by decide)
  have HX := Lib.hid (HX.out.grown gr (fun k hk => by cases hk; omega))
  clear gr bA
  generalize wEA.setRow BA #[.int .i64 pA1.me, .int .u32 (pA1.v.n : Int), .int .i64 pA1.v.p, .int .i64 pA1.v.b, .int .u32 (pA1.base.1 : Int), .int .u32 (pA1.base.2 : Int), (.slice aA (newP 1).log.length kA), .bool pA1.known, .bool pA1.joined, .bool pA1.instep, .int .u32 (pA1.acked : Int)] = W4 at *
  have bA := bnew
  clear bnew
  have cV := block_all bV
  have cB := block_all bB
  have hzB := HX.out.size
  go_wp2_with fail
  refine (bkEnter _ _ (newP 2) [] vK (fun e he => by simp [newP] at he) (lgNilU _ _ rfl) okB0 (by decide)).mono ?_
  rintro e wEB ⟨y, hpost⟩
  have bV := y.keeps bV
  have bA := y.keeps bA
  have bB := y.keeps bB
  have ilA := ilA.ext y
  have HX := Lib.hid (HX.out.trans y)
  clear y
  rcases hpost with ⟨hz, rfl⟩ | ⟨hz, vl, ul, rfl, ilB⟩
  · exact absurd wkEntB.2 hz
  obtain rfl : ul = [] := List.eq_nil_of_length_eq_zero ilB.len
  obtain ⟨aB, kB, rfl⟩ := ilB.shape
  have ilB := ilB.base hzB
  rw [wkEntB.1]
  clear hz
  clear cV cB
  go_upto_region 8 with (((with_reducible refine at_store 47 (.tmp 4) (.tmp 36) ?_); go_must (refine wpl_store rfl 47 (.tmp 4) (.tmp 36) rfl BB #[.int .i64 pB1.me, .int .u32 (pB1.v.n : Int), .int .i64 pB1.v.p, .int .i64 pB1.v.b, .int .u32 (pB1.base.1 : Int), .int .u32 (pB1.base.2 : Int), (.slice aB (newP 2).log.length kB), .bool pB1.known, .bool pB1.joined, .bool pB1.instep, .int .u32 (pB1.acked : Int)] (by rfl) (by rfl) 47 _ bB (by kernel_rfl) rfl (pr_one _ _ _ _) ?_)))
  have gr := grown_setRow (w := wEB) (g := BB) (c := #[.int .i64 pB1.me, .int .u32 (pB1.v.n : Int), .int .i64 pB1.v.p, .int .i64 pB1.v.b, .int .u32 (pB1.base.1 : Int), .int .u32 (pB1.base.2 : Int), (.slice aB (newP 2).log.length kB), .bool pB1.known, .bool pB1.joined, .bool pB1.instep, .int .u32 (pB1.acked : Int)])
  have bnew := setRow_heap _ BB _ #[.int .i64 pB1.me, .int .u32 (pB1.v.n : Int), .int .i64 pB1.v.p, .int .i64 pB1.v.b, .int .u32 (pB1.base.1 : Int), .int .u32 (pB1.base.2 : Int), (.slice aB (newP 2).log.length kB), .bool pB1.known, .bool pB1.joined, .bool pB1.instep, .int .u32 (pB1.acked : Int)] _ _ bB
  have bV := grown_other gr bV (by omega)
  have bA := grown_other gr bA (by omega)
  have ilA := ilA.grown gr bB (by decide) (by decide)
  have ilB := ilB.grown gr bB (by decide) (by decide)
  have HX := Lib.hid (HX.out.grown gr (fun k hk => by cases hk; omega))
  clear gr bB
  generalize wEB.setRow BB #[.int .i64 pB1.me, .int .u32 (pB1.v.n : Int), .int .i64 pB1.v.p, .int .i64 pB1.v.b, .int .u32 (pB1.base.1 : Int), .int .u32 (pB1.base.2 : Int), (.slice aB (newP 2).log.length kB), .bool pB1.known, .bool pB1.joined, .bool pB1.instep, .int .u32 (pB1.acked : Int)] = W5 at *
  have bB := bnew
  clear bnew
  go_upto_region 10 with fail
  have cA := block_all bA
  have hcv := Lib.run_convert_bytes_const (P := Tryd.prog) W5 28 5 #[.int .u8 97] 1 1 Tryd.underlying28 Tryd.underlying5
  go_wp2_with fail
  have xq := (Ext.refl W5).alloc (.cells #[.int .u8 97] 5 (1, 2))
  have hzP := (HX.out.trans xq).size
  refine (bkAppend _ _ _ pA1 [] [97] (fun e he => by simp [pA1] at he) (ilA.ext xq).u okA1 (IsB.newF [97] rfl rfl rfl (by decide)) (HK.out.ext (HX.out.trans xq))).mono ?_
  rintro e wP ⟨y, hpost⟩
  have y := xq.trans y
  clear hcv xq cA ilA
  have bV := y.keeps bV
  have bA := y.keeps bA
  have bB := y.keeps bB
  have ilB := ilB.ext y
  have HX := Lib.hid (HX.out.trans y)
  clear y
  rcases hpost with ⟨hz, rfl⟩ | ⟨hz, vl, ulA, vo, uo, rfl, ilA, lo⟩
  · exact absurd wkApp.2.1 hz
  rw [wkApp.1] at ilA
  obtain ⟨aA, kA, rfl⟩ := ilA.shape
  have ilA := ilA.base hzP
  rw [wkApp.1, wkApp.2.2]
  clear hz lo
  go_upto_region 11 with (first | ((with_reducible refine at_store 47 (.tmp 2) (.tmp 49) ?_); go_must (refine wpl_store rfl 47 (.tmp 2) (.tmp 49) rfl BA #[.int .i64 pA2.me, .int .u32 (pA2.v.n : Int), .int .i64 pA2.v.p, .int .i64 pA2.v.b, .int .u32 (pA2.base.1 : Int), .int .u32 (pA2.base.2 : Int), (.slice aA pA2.log.length kA), .bool pA2.known, .bool pA2.joined, .bool pA2.instep, .int .u32 (pA2.acked : Int)] (by rfl) (by rfl) 47 _ (blk_old bA) (by kernel_rfl) rfl (pr_one _ _ _ _) ?_)) | ((with_reducible refine at_store 27 (.tmp 7) (.tmp 51) ?_); go_must (refine wpl_store rfl 27 (.tmp 7) (.tmp 51) rfl wP.heap.size #[.int .u32 1, .int .u32 1] (by rfl) (by rfl) 27 _ (grown_other grown_setRow (heap_alloc_new wP _) (by have := block_lt bA; omega)) (by kernel_rfl) rfl (by kernel_rfl) ?_)))
  have l_V_M := block_lt bV
  have l_A_M := block_lt bA
  have l_B_M := block_lt bB
  have hsM := HX.out.size
  have y := (Ext.refl wP).alloc (.cells #[.int .u32 0, .int .u32 0] 27)
  have bM := heap_alloc_new wP (.cells #[.int .u32 0, .int .u32 0] 27)
  have bV := y.keeps bV
  have bA := y.keeps bA
  have bB := y.keeps bB
  have ilB := ilB.ext y
  have ilA := ilA.ext y
  have HX := Lib.hid (HX.out.trans y)
  clear y
  generalize wP.alloc (.cells #[.int .u32 0, .int .u32 0] 27) = W6 at *
  obtain ⟨BM, hB⟩ : ∃ x, x = wP.heap.size := ⟨_, rfl⟩
  rw [← hB] at bM hsM l_V_M l_A_M l_B_M
  rw [← hB]
  clear hB
  have gr := grown_setRow (w := W6) (g := BA) (c := #[.int .i64 pA2.me, .int .u32 (pA2.v.n : Int), .int .i64 pA2.v.p, .int .i64 pA2.v.b, .int .u32 (pA2.base.1 : Int), .int .u32 (pA2.base.2 : Int), (.slice aA pA2.log.length kA), .bool pA2.known, .bool pA2.joined, .bool pA2.instep, .int .u32 (pA2.acked : Int)])
  have bnew := setRow_heap _ BA _ #[.int .i64 pA2.me, .int .u32 (pA2.v.n : Int), .int .i64 pA2.v.p, .int .i64 pA2.v.b, .int .u32 (pA2.base.1 : Int), .int .u32 (pA2.base.2 : Int), (.slice aA pA2.log.length kA), .bool pA2.known, .bool pA2.joined, .bool pA2.instep, .int .u32 (pA2.acked : Int)] _ _ bA
  have bV := grown_other gr bV (by omega)
  have bB := grown_other gr bB (by omega)
  have bM := grown_other gr bM (by omega)
  have ilB := ilB.grown gr bA (by decide) (by decide)
  have ilA := ilA.grown gr bA (by decide) (by decide)
  have HX := Lib.hid (HX.out.grown gr (fun k hk => by cases hk; omega))
  clear gr bA
  generalize W6.setRow BA #[.int .i64 pA2.me, .int .u32 (pA2.v.n : Int), .int .i64 pA2.v.p, .int .i64 pA2.v.b, .int .u32 (pA2.base.1 : Int), .int .u32 (pA2.base.2 : Int), (.slice aA pA2.log.length kA), .bool pA2.known, .bool pA2.joined, .bool pA2.instep, .int .u32 (pA2.acked : Int)] = W7 at *
  have bA := bnew
  clear bnew
  have gr := grown_setRow (w := W7) (g := BM) (c := #[.int .u32 1, .int .u32 1])
  have bnew := setRow_heap _ BM _ #[.int .u32 1, .int .u32 1] _ _ bM
  have bV := grown_other gr bV (by omega)
  have bA := grown_other gr bA (by omega)
  have bB := grown_other gr bB (by omega)
  have ilB := ilB.grown gr bM (by decide) (by decide)
  have ilA := ilA.grown gr bM (by decide) (by decide)
  have HX := Lib.hid (HX.out.grown gr (fun k hk => by cases hk; omega))
  clear gr bM
  generalize W7.setRow BM #[.int .u32 1, .int .u32 1] = W8 at *
  have bM := bnew
  clear bnew
  have cB := block_all bB
  have hzT := HX.out.size
  go_wp2_with fail
  refine (bkTick _ _ pB1 [] (fun e he => by simp [pB1] at he) (fun e he => by simp [pB1] at he) ilB.u okB1 (HK.out.ext HX.out)).mono ?_
  rintro e wT ⟨vT, uT, rfl, loT, y⟩
  clear cB
  have bV := y.keeps bV
  have bA := y.keeps bA
  have bB := y.keeps bB
  have bM := y.keeps bM
  have ilB := ilB.ext y
  have ilA := ilA.ext y
  have HX := Lib.hid (HX.out.trans y)
  clear y
  rw [wkTick.1] at loT
  rw [wkTick.2]
  have loT := loT.base hzT
  obtain ⟨gT, uT, kT, rfl, rfl, hT0, hT1, oT⟩ := lt_cells loT
  have cM := block_all bM
  have hmn : ∀ w : World, (binOp .neq 27 (.agg #[.int .u32 1, .int .u32 1]) (.agg #[.int .u32 1, .int .u32 1])).run Tryd.prog w = .ok (.bool false) w := fun w => mkNeq w (1, 1) (1, 1)
  have hT0' : wT.cell? ⟨gT, 0, none⟩ = some (.int .i64 1) := hT0
  clear hT0
  go_upto_region 14 with fail
  clear hmn cM hT0'
  clear loT
  have hcv := fun w : World => Lib.run_convert_bytes_const (P := Tryd.prog) w 28 5 #[.int .u8 87] 1 1 Tryd.underlying28 Tryd.underlying5
  have KA := fun v (h : Ext wT v) => block_all (h.keeps bA)
  have KT := fun v (h : Ext wT v) => h.cell hT1
  have hzQ := HX.out.size
  have OT := Lib.hid oT
  clear oT hT1
  refine wp_region_G 14 (fun v => Ext wT v) (by kernel_rfl) fun wd hqd hHeld => ?_
  refine G_take (i := 0) (u := ?va0) rfl (by kernel_rfl) (by kernel_rfl) (by kernel_rfl) (fun _ _ _ h => h) rfl (by kernel_rfl) (by decide) (by rfl) (Or.inl ⟨by rfl, ?hya0⟩) hHeld ?_
  case hya0 => (intro w hSw; go_simp; try with_reducible rfl)
  simp only [Act.put, List.setIfInBounds_toArray, List.set_cons_zero, List.set_cons_succ, List.getElem_toArray, List.getElem_cons_zero, List.getElem_cons_succ]
  refine G_pure (i := 1) (u := ?va1) rfl (by kernel_rfl) (by kernel_rfl) (by kernel_rfl) (fun _ _ _ h => h) (by decide) (Or.inl ⟨by rfl, ?hya1⟩) hHeld ?_
  case hya1 => (intro w hSw; go_simp; try with_reducible rfl)
  simp only [Act.put, List.setIfInBounds_toArray, List.set_cons_zero, List.set_cons_succ, List.getElem_toArray, List.getElem_cons_zero, List.getElem_cons_succ]
  refine G_pure (i := 2) (u := ?va2) rfl (by kernel_rfl) (by kernel_rfl) (by kernel_rfl) (fun _ _ _ h => h) (by decide) (Or.inl ⟨by rfl, ?hya2⟩) hHeld ?_
  case hya2 => (intro w hSw; go_simp; try with_reducible rfl)
  simp only [Act.put, List.setIfInBounds_toArray, List.set_cons_zero, List.set_cons_succ, List.getElem_toArray, List.getElem_cons_zero, List.getElem_cons_succ]
  refine G_pure (i := 3) (u := ?va3) rfl (by kernel_rfl) (by kernel_rfl) (by kernel_rfl) (fun _ _ _ h => h) (by decide) (Or.inl ⟨by rfl, ?hya3⟩) hHeld ?_
  case hya3 => (intro w hSw; go_simp; try with_reducible rfl)
  simp only [Act.put, List.setIfInBounds_toArray, List.set_cons_zero, List.set_cons_succ, List.getElem_toArray, List.getElem_cons_zero, List.getElem_cons_succ]
  refine G_take (i := 4) (u := ?va4) rfl (by kernel_rfl) (by kernel_rfl) (by kernel_rfl) (fun _ _ _ h => h) rfl (by kernel_rfl) (by decide) (by rfl) (Or.inl ⟨by rfl, ?hya4⟩) hHeld ?_
  case hya4 => (intro w hSw; go_simp; try with_reducible rfl)
  simp only [Act.put, List.setIfInBounds_toArray, List.set_cons_zero, List.set_cons_succ, List.getElem_toArray, List.getElem_cons_zero, List.getElem_cons_succ]
  refine G_all (rs := [5]) (by kernel_rfl) (by simp) ?_
  intro i hi; obtain rfl : i = 5 := by simpa using hi
  refine wpOp_run rfl (by rfl) ?_
  go_simp
  have h5 := hHeld
  have hHeld := hHeld.alloc (.cells #[.int .u8 87] 5)
  first | refine ⟨fun _ => hHeld, ?_⟩ | refine ⟨hHeld, ?_⟩
  try simp only [Act.put, List.setIfInBounds_toArray, List.set_cons_zero, List.set_cons_succ, List.getElem_toArray, List.getElem_cons_zero, List.getElem_cons_succ]
  refine G_all (rs := [6]) (by kernel_rfl) (by simp) ?_
  intro i hi; obtain rfl : i = 6 := by simpa using hi
  refine wpOp_run rfl (by rfl) ?_
  have hcw := hcv wd
  go_simp
  have hHeld := h5.alloc (.cells #[.int .u8 87] 5 (1, 2))
  first | refine ⟨fun _ => hHeld, ?_⟩ | refine ⟨hHeld, ?_⟩
  try simp only [Act.put, List.setIfInBounds_toArray, List.set_cons_zero, List.set_cons_succ, List.getElem_toArray, List.getElem_cons_zero, List.getElem_cons_succ]
  refine G_all (rs := [7]) (by kernel_rfl) (by simp) ?_
  intro i hi; obtain rfl : i = 7 := by simpa using hi
  refine wpOp_run rfl (by rfl) ?_
  go_simp
  refine Calls.mono (bkTake _ _ _ _ pA2 ulA 2 (encN nH) [87] okLA2 (ilA.ext hHeld).u okA2 (IsB.of_owns (ownsRow_ext OT.out hHeld)) (by rw [encN_len]; decide) (IsB.newF [87] rfl rfl rfl (by decide)) (HK.out.ext (HX.out.trans hHeld))) ?_
  rintro e wQ ⟨yQ, hpost⟩
  rcases hpost with ⟨hz, rfl⟩ | ⟨hz, vl, ul, vo, uo, vw, uw, rfl, il, lo, wo⟩
  · exact absurd wkT1.1 hz
  rw [wkT1.2.2] at lo
  have lo := lo.base (show w.heap.size ≤ _ from Nat.le_trans hzQ hHeld.size)
  obtain ⟨gU, uU, kU, rfl, rfl, hU0, hU1, oU⟩ := lt_cells lo
  clear il wo lo
  have hHeld := hHeld.trans yQ
  first | refine ⟨fun _ => hHeld, ?_⟩ | refine ⟨hHeld, ?_⟩
  try simp only [Act.put, List.setIfInBounds_toArray, List.set_cons_zero, List.set_cons_succ, List.getElem_toArray, List.getElem_cons_zero, List.getElem_cons_succ]
  refine G_pure (i := 8) (u := ?va8) rfl (by kernel_rfl) (by kernel_rfl) (by kernel_rfl) (fun _ _ _ h => h) (by decide) (Or.inl ⟨by rfl, ?hya8⟩) hHeld ?_
  case hya8 => (intro w hSw; go_simp; try with_reducible rfl)
  simp only [Act.put, List.setIfInBounds_toArray, List.set_cons_zero, List.set_cons_succ, List.getElem_toArray, List.getElem_cons_zero, List.getElem_cons_succ]
  refine G_pure (i := 9) (u := ?va9) rfl (by kernel_rfl) (by kernel_rfl) (by kernel_rfl) (fun _ _ _ h => h) (by decide) (Or.inl ⟨by rfl, ?hya9⟩) hHeld ?_
  case hya9 => (intro w hSw; go_simp; try with_reducible rfl)
  simp only [Act.put, List.setIfInBounds_toArray, List.set_cons_zero, List.set_cons_succ, List.getElem_toArray, List.getElem_cons_zero, List.getElem_cons_succ]
  refine G_pure (i := 10) (u := ?va10) rfl (by kernel_rfl) (by kernel_rfl) (by kernel_rfl) (fun _ _ _ h => h) (by decide) (Or.inl ⟨by rfl, ?hya10⟩) hHeld ?_
  case hya10 => (intro w hSw; go_simp; try with_reducible rfl)
  simp only [Act.put, List.setIfInBounds_toArray, List.set_cons_zero, List.set_cons_succ, List.getElem_toArray, List.getElem_cons_zero, List.getElem_cons_succ]
  refine G_pure (i := 11) (u := ?va11) rfl (by kernel_rfl) (by kernel_rfl) (by kernel_rfl) (fun _ _ _ h => h) (by decide) (Or.inl ⟨by rfl, ?hya11⟩) hHeld ?_
  case hya11 => (intro w hSw; go_simp; try with_reducible rfl)
  simp only [Act.put, List.setIfInBounds_toArray, List.set_cons_zero, List.set_cons_succ, List.getElem_toArray, List.getElem_cons_zero, List.getElem_cons_succ]
  refine G_pure (i := 12) (u := ?va12) rfl (by kernel_rfl) (by kernel_rfl) (by kernel_rfl) (fun _ _ _ h => h) (by decide) (Or.inl ⟨by rfl, ?hya12⟩) hHeld ?_
  case hya12 => (intro w hSw; go_simp; try with_reducible rfl)
  simp only [Act.put, List.setIfInBounds_toArray, List.set_cons_zero, List.set_cons_succ, List.getElem_toArray, List.getElem_cons_zero, List.getElem_cons_succ]
  refine G_pure (i := 13) (u := ?va13) rfl (by kernel_rfl) (by kernel_rfl) (by kernel_rfl) (fun _ _ _ h => h) (by decide) (Or.inl ⟨by rfl, ?hya13⟩) hHeld ?_
  case hya13 => (intro w hSw; go_simp; try with_reducible rfl)
  simp only [Act.put, List.setIfInBounds_toArray, List.set_cons_zero, List.set_cons_succ, List.getElem_toArray, List.getElem_cons_zero, List.getElem_cons_succ]
  refine G_all (rs := [14]) (by kernel_rfl) (by simp) ?_
  intro i hi; obtain rfl : i = 14 := by simpa using hi
  refine wpOp_run rfl (by rfl) ?_
  go_simp
  try refine ⟨fun e => absurd e (by decide), ?_⟩
  refine G_free _ _ _ _ (by kernel_rfl) ?_
  try simp only [Act.put, List.setIfInBounds_toArray, List.set_cons_zero, List.set_cons_succ, List.getElem_toArray, List.getElem_cons_zero, List.getElem_cons_succ]
  refine wpAny_done (by kernel_rfl) ?_ _
  refine NoPanic.normal ?_
  clear KA KT hcv OT
  have bB := hHeld.keeps bB
  have bM := hHeld.keeps bM
  have ilB := ilB.ext hHeld
  have HX := Lib.hid (HX.out.trans hHeld)
  clear hHeld
  go_upto_region 17 with fail
  have KB := fun v (h : Ext wQ v) => block_all (h.keeps bB)
  have KU := fun v (h : Ext wQ v) => h.cell hU1
  have hzR := HX.out.size
  have OU := Lib.hid oU
  clear oU hU1 hU0
  refine wp_region_G 11 (fun v => Ext wQ v) (by kernel_rfl) fun wd hqd hHeld => ?_
  refine G_take (i := 0) (u := ?vb0) rfl (by kernel_rfl) (by kernel_rfl) (by kernel_rfl) (fun _ _ _ h => h) rfl (by kernel_rfl) (by decide) (by rfl) (Or.inl ⟨by rfl, ?hyb0⟩) hHeld ?_
  case hyb0 => (intro w hSw; go_simp; try with_reducible rfl)
  simp only [Act.put, List.setIfInBounds_toArray, List.set_cons_zero, List.set_cons_succ, List.getElem_toArray, List.getElem_cons_zero, List.getElem_cons_succ]
  refine G_pure (i := 1) (u := ?vb1) rfl (by kernel_rfl) (by kernel_rfl) (by kernel_rfl) (fun _ _ _ h => h) (by decide) (Or.inl ⟨by rfl, ?hyb1⟩) hHeld ?_
  case hyb1 => (intro w hSw; go_simp; try with_reducible rfl)
  simp only [Act.put, List.setIfInBounds_toArray, List.set_cons_zero, List.set_cons_succ, List.getElem_toArray, List.getElem_cons_zero, List.getElem_cons_succ]
  refine G_pure (i := 2) (u := ?vb2) rfl (by kernel_rfl) (by kernel_rfl) (by kernel_rfl) (fun _ _ _ h => h) (by decide) (Or.inl ⟨by rfl, ?hyb2⟩) hHeld ?_
  case hyb2 => (intro w hSw; go_simp; try with_reducible rfl)
  simp only [Act.put, List.setIfInBounds_toArray, List.set_cons_zero, List.set_cons_succ, List.getElem_toArray, List.getElem_cons_zero, List.getElem_cons_succ]
  refine G_pure (i := 3) (u := ?vb3) rfl (by kernel_rfl) (by kernel_rfl) (by kernel_rfl) (fun _ _ _ h => h) (by decide) (Or.inl ⟨by rfl, ?hyb3⟩) hHeld ?_
  case hyb3 => (intro w hSw; go_simp; try with_reducible rfl)
  simp only [Act.put, List.setIfInBounds_toArray, List.set_cons_zero, List.set_cons_succ, List.getElem_toArray, List.getElem_cons_zero, List.getElem_cons_succ]
  refine G_take (i := 4) (u := ?vb4) rfl (by kernel_rfl) (by kernel_rfl) (by kernel_rfl) (fun _ _ _ h => h) rfl (by kernel_rfl) (by decide) (by rfl) (Or.inl ⟨by rfl, ?hyb4⟩) hHeld ?_
  case hyb4 => (intro w hSw; go_simp; try with_reducible rfl)
  simp only [Act.put, List.setIfInBounds_toArray, List.set_cons_zero, List.set_cons_succ, List.getElem_toArray, List.getElem_cons_zero, List.getElem_cons_succ]
  refine G_all (rs := [5]) (by kernel_rfl) (by simp) ?_
  intro i hi; obtain rfl : i = 5 := by simpa using hi
  refine wpOp_run rfl (by rfl) ?_
  go_simp
  refine Calls.mono (bkTake _ _ _ (.slice none 0 0) pB1 [] 1 (encN nW) [] (fun e he => by simp [pB1] at he) (ilB.ext hHeld).u okB1 (IsB.of_owns (ownsRow_ext OU.out hHeld)) (by rw [encN_len]; decide) (IsB.nil _) (HK.out.ext (HX.out.trans hHeld))) ?_
  rintro e wR ⟨yR, hpost⟩
  rcases hpost with ⟨hz, rfl⟩ | ⟨hz, vl, ulB, vo, uo, vw, uw, rfl, il, lo, wo⟩
  · exact absurd wkT2.1 hz
  rw [wkT2.2.2] at wo
  rw [wkT2.2.1] at il
  rw [wkT2.2.1]
  have wo := wo.base (show w.heap.size ≤ _ from Nat.le_trans hzR hHeld.size)
  have il := il.base (show w.heap.size ≤ _ from Nat.le_trans hzR hHeld.size)
  obtain ⟨aC, kC, rfl⟩ := il.shape
  have hHeld := hHeld.trans yR
  first | refine ⟨fun _ => hHeld, ?_⟩ | refine ⟨hHeld, ?_⟩
  try simp only [Act.put, List.setIfInBounds_toArray, List.set_cons_zero, List.set_cons_succ, List.getElem_toArray, List.getElem_cons_zero, List.getElem_cons_succ]
  refine G_pure (i := 6) (u := ?vb6) rfl (by kernel_rfl) (by kernel_rfl) (by kernel_rfl) (fun _ _ _ h => h) (by decide) (Or.inl ⟨by rfl, ?hyb6⟩) hHeld ?_
  case hyb6 => (intro w hSw; go_simp; try with_reducible rfl)
  simp only [Act.put, List.setIfInBounds_toArray, List.set_cons_zero, List.set_cons_succ, List.getElem_toArray, List.getElem_cons_zero, List.getElem_cons_succ]
  refine G_pure (i := 7) (u := ?vb7) rfl (by kernel_rfl) (by kernel_rfl) (by kernel_rfl) (fun _ _ _ h => h) (by decide) (Or.inl ⟨by rfl, ?hyb7⟩) hHeld ?_
  case hyb7 => (intro w hSw; go_simp; try with_reducible rfl)
  simp only [Act.put, List.setIfInBounds_toArray, List.set_cons_zero, List.set_cons_succ, List.getElem_toArray, List.getElem_cons_zero, List.getElem_cons_succ]
  refine G_pure (i := 8) (u := ?vb8) rfl (by kernel_rfl) (by kernel_rfl) (by kernel_rfl) (fun _ _ _ h => h) (by decide) (Or.inl ⟨by rfl, ?hyb8⟩) hHeld ?_
  case hyb8 => (intro w hSw; go_simp; try with_reducible rfl)
  simp only [Act.put, List.setIfInBounds_toArray, List.set_cons_zero, List.set_cons_succ, List.getElem_toArray, List.getElem_cons_zero, List.getElem_cons_succ]
  refine G_pure (i := 9) (u := ?vb9) rfl (by kernel_rfl) (by kernel_rfl) (by kernel_rfl) (fun _ _ _ h => h) (by decide) (Or.inl ⟨by rfl, ?hyb9⟩) hHeld ?_
  case hyb9 => (intro w hSw; go_simp; try with_reducible rfl)
  simp only [Act.put, List.setIfInBounds_toArray, List.set_cons_zero, List.set_cons_succ, List.getElem_toArray, List.getElem_cons_zero, List.getElem_cons_succ]
  refine G_pure (i := 10) (u := ?vb10) rfl (by kernel_rfl) (by kernel_rfl) (by kernel_rfl) (fun _ _ _ h => h) (by decide) (Or.inl ⟨by rfl, ?hyb10⟩) hHeld ?_
  case hyb10 => (intro w hSw; go_simp; try with_reducible rfl)
  simp only [Act.put, List.setIfInBounds_toArray, List.set_cons_zero, List.set_cons_succ, List.getElem_toArray, List.getElem_cons_zero, List.getElem_cons_succ]
  refine G_all (rs := [11]) (by kernel_rfl) (by simp) ?_
  intro i hi; obtain rfl : i = 11 := by simpa using hi
  refine wpOp_run rfl (by rfl) ?_
  refine wp_store_row 47 (.tmp 4) (.tmp 108) rfl BB #[.int .i64 pB2.me, .int .u32 (pB2.v.n : Int), .int .i64 pB2.v.p, .int .i64 pB2.v.b, .int .u32 (pB2.base.1 : Int), .int .u32 (pB2.base.2 : Int), (.slice aC pB2.log.length kC), .bool pB2.known, .bool pB2.joined, .bool pB2.instep, .int .u32 (pB2.acked : Int)] (by rfl) (by rfl) 47 _ (hHeld.keeps bB) (by kernel_rfl) rfl (pr_one _ _ _ _) ?_
  try refine ⟨fun e => absurd e (by decide), ?_⟩
  refine G_free _ _ _ _ (by kernel_rfl) ?_
  try simp only [Act.put, List.setIfInBounds_toArray, List.set_cons_zero, List.set_cons_succ, List.getElem_toArray, List.getElem_cons_zero, List.getElem_cons_succ]
  refine wpAny_take (i := 12) (v := ?vb12) rfl (by kernel_rfl) (by kernel_rfl) (by kernel_rfl) (fun _ _ _ h => h) (Or.inl ⟨by rfl, ?hyb12⟩) ?_
  case hyb12 => (intro w ; go_simp; try with_reducible rfl)
  simp only [Act.put, List.setIfInBounds_toArray, List.set_cons_zero, List.set_cons_succ, List.getElem_toArray, List.getElem_cons_zero, List.getElem_cons_succ]
  refine wpAny_take (i := 13) (v := ?vb13) rfl (by kernel_rfl) (by kernel_rfl) (by kernel_rfl) (fun _ _ _ h => h) (Or.inl ⟨by rfl, ?hyb13⟩) ?_
  case hyb13 => (intro w ; go_simp; try with_reducible rfl)
  simp only [Act.put, List.setIfInBounds_toArray, List.set_cons_zero, List.set_cons_succ, List.getElem_toArray, List.getElem_cons_zero, List.getElem_cons_succ]
  refine wpAny_take (i := 14) (v := ?vb14) rfl (by kernel_rfl) (by kernel_rfl) (by kernel_rfl) (fun _ _ _ h => h) (Or.inl ⟨by rfl, ?hyb14⟩) ?_
  case hyb14 => (intro w ; go_simp; try with_reducible rfl)
  simp only [Act.put, List.setIfInBounds_toArray, List.set_cons_zero, List.set_cons_succ, List.getElem_toArray, List.getElem_cons_zero, List.getElem_cons_succ]
  refine wpAny_done (by kernel_rfl) ?_ _
  refine NoPanic.normal ?_
  clear KB KU OU ilB
  have bB := hHeld.keeps bB
  have HX := Lib.hid (HX.out.trans hHeld)
  clear hHeld bM bV bA ilA lo
  have gr := grown_setRow (w := wR) (g := BB) (c := #[.int .i64 pB2.me, .int .u32 (pB2.v.n : Int), .int .i64 pB2.v.p, .int .i64 pB2.v.b, .int .u32 (pB2.base.1 : Int), .int .u32 (pB2.base.2 : Int), (.slice aC pB2.log.length kC), .bool pB2.known, .bool pB2.joined, .bool pB2.instep, .int .u32 (pB2.acked : Int)])
  have bnew := setRow_heap _ BB _ #[.int .i64 pB2.me, .int .u32 (pB2.v.n : Int), .int .i64 pB2.v.p, .int .i64 pB2.v.b, .int .u32 (pB2.base.1 : Int), .int .u32 (pB2.base.2 : Int), (.slice aC pB2.log.length kC), .bool pB2.known, .bool pB2.joined, .bool pB2.instep, .int .u32 (pB2.acked : Int)] _ _ bB
  have il := il.grown gr bB (by decide) (by decide)
  have wo := wo.grownT gr bB (by decide) (by decide)
  have HX := Lib.hid (HX.out.grown gr (fun k hk => by cases hk; omega))
  clear gr bB
  generalize wR.setRow BB #[.int .i64 pB2.me, .int .u32 (pB2.v.n : Int), .int .i64 pB2.v.p, .int .i64 pB2.v.b, .int .u32 (pB2.base.1 : Int), .int .u32 (pB2.base.2 : Int), (.slice aC pB2.log.length kC), .bool pB2.known, .bool pB2.joined, .bool pB2.instep, .int .u32 (pB2.acked : Int)] = W9 at *
  have bB := bnew
  clear bnew
  obtain ⟨gW, uW, kW, rfl, rfl, hW0, hW1, oW⟩ := wk_cells wo
  have cB := block_all bB
  have hcv := conv_str (P := Tryd.prog) (IsB.of_owns oW) 28 9 5 Tryd.underlying28 Tryd.underlying5 Tryd.underlying9
  have hcv' : (convert 28 9 (.slice uW.1 1 uW.2)).run Tryd.prog W9 = .ok (.string ⟨#[87]⟩) W9 := hcv
  have hW1' : W9.cell? ⟨gW, 1, none⟩ = some (.slice uW.1 1 uW.2) := hW1
  clear hcv hW1 oW wo
  have hs : ((⟨#[87]⟩ : ByteArray) == ⟨#[87]⟩) = true := by decide +kernel
  have IL := Lib.hid il
  have okr : okLg pB2.log := by intro e he; simp [pB2] at he
  clear il
  go_wp2_with fail
  refine (bkReady _ _ pB2 ⟨okr, _, IL.out.u⟩ okB2).mono ?_
  rintro e wS ⟨rfl, y⟩
  rw [wkReady]
  go_wp2_with fail
  go_ret
  exact ⟨rfl, HX.out.trans y⟩
end Go.Proofs.YtkcddcomjbihgaaDoor
