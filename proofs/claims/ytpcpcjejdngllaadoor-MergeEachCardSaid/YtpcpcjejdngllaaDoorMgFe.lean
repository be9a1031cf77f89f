/- few: three repositories, each in memory of its own (layer 8). -/
import Derived.Test.YtpcpcjejdngllaaDoorMgS
import Derived.Test.YtpcpcjejdngllaaDoorMgW
import Derived.Test.YtpcpcjejdngllaaDoorRegC
namespace Go.Proofs.YtpcpcjejdngllaaDoor
open Go.RowKit
set_option linter.unusedVariables false
set_option linter.unusedSimpArgs false

theorem isF_own {w : World} {b : Nat} {e : TypeId} {v : Value} {l : List Fl} (h : w.ownsRow b e 2 v l.length (l.flatMap flC)) (k : ∀ f ∈ l, flOk f) : IsF w v l := ⟨IsSl.of_owns h, k⟩
theorem info3M (a b c : Value) : (Tryd.prog.info? 26).map (·.size) = some (#[a, b, c] : Array Value).size := by show _ = some 3; kernel_rfl
set_option maxHeartbeats 8000000 in
set_option maxRecDepth 100000 in
theorem lawFew (w : World) (u0 u1 u2 : Value) (f0 f1 f2 : List Fl) (h0 : IsF w u0 f0) (h1 : IsF w u1 f1) (h2 : IsF w u2 f2) :
    Calls Tryd.prog 11 #[.agg #[u0, u1, u2]] w fun e w' => ∃ v0 v1 v2, e = .returned (.agg #[v0, v1, v2]) ∧ w'.ownsRow w.heap.size 46 2 v0 (shortF f0).length ((shortF f0).flatMap flC) ∧ w'.ownsRow w.heap.size 46 2 v1 (shortF f1).length ((shortF f1).flatMap flC) ∧ w'.ownsRow w.heap.size 46 2 v2 (shortF f2).length ((shortF f2).flatMap flC) ∧ Ext w w' := by
  obtain ⟨a0, c0, rfl, _, _, _, _⟩ := h0.opened
  obtain ⟨a1, c1, rfl, _, _, _, _⟩ := h1.opened
  obtain ⟨a2, c2, rfl, _, _, _, _⟩ := h2.opened
  have b0 := blk_old (o := .cells #[.slice none 0 0, .slice none 0 0, .slice none 0 0] 26) (heap_alloc_new w (.cells #[.slice a0 f0.length c0, .slice a1 f1.length c1, .slice a2 f2.length c2] 26))
  have bR := blk_new (w := w.alloc (.cells #[.slice a0 f0.length c0, .slice a1 f1.length c1, .slice a2 f2.length c2] 26)) (b := w.heap.size + 1) (o := .cells #[.slice none 0 0, .slice none 0 0, .slice none 0 0] 26) (by simp)
  have X := ((Ext.refl w).alloc (.cells #[.slice a0 f0.length c0, .slice a1 f1.length c1, .slice a2 f2.length c2] 26)).alloc (.cells #[.slice none 0 0, .slice none 0 0, .slice none 0 0] 26)
  have h0 := h0.ext X
  have h1 := h1.ext X
  have h2 := h2.ext X
  go_enter Tryd.func11, Tryd.ntmps11
  go_wp2_with fail
  generalize (w.alloc (.cells #[.slice a0 f0.length c0, .slice a1 f1.length c1, .slice a2 f2.length c2] 26)).alloc (.cells #[.slice none 0 0, .slice none 0 0, .slice none 0 0] 26) = w2 at *
  obtain ⟨B, hB⟩ : ∃ B, w.heap.size = B := ⟨_, rfl⟩
  have hBw : w.heap.size ≤ B := by omega
  rw [hB] at b0 bR
  rw [hB]
  clear hB
  have k0 : w2.cell? ⟨B, 0, none⟩ = some (.slice a0 f0.length c0) := by rw [block_cell b0]; rfl
  have k1 : w2.cell? ⟨B, 1, none⟩ = some (.slice a1 f1.length c1) := by rw [block_cell b0]; rfl
  have k2 : w2.cell? ⟨B, 2, none⟩ = some (.slice a2 f2.length c2) := by rw [block_cell b0]; rfl
  have hw2 : w.heap.size ≤ w2.heap.size := X.size
  refine wp_region_G 8 (fun v => Ext w2 v) (by kernel_rfl) fun wd hqd hHeld => ?_
  refine C_take (i := 0) (u := ?vc0) [1, 2, 5, 8] rfl (by kernel_rfl) (by kernel_rfl) (by kernel_rfl) (fun _ _ _ h => h) (by kernel_rfl) (by kernel_rfl) (by kernel_rfl) (by kernel_rfl) (Or.inl ⟨by rfl, ?hyc0⟩) hHeld ?_
  case hyc0 => (intro w hSw; go_simp; try with_reducible rfl)
  simp only [Act.put, List.setIfInBounds_toArray, List.set_cons_zero, List.set_cons_succ, List.getElem_toArray, List.getElem_cons_zero, List.getElem_cons_succ]
  refine C_take (i := 1) (u := ?vc1) [2, 5, 8] rfl (by kernel_rfl) (by kernel_rfl) (by kernel_rfl) (fun _ _ _ h => h) (by kernel_rfl) (by kernel_rfl) (by kernel_rfl) (by kernel_rfl) (Or.inl ⟨by rfl, ?hyc1⟩) hHeld ?_
  case hyc1 => (intro w hSw; have k := hSw.cell k0; go_simp; try with_reducible rfl)
  simp only [Act.put, List.setIfInBounds_toArray, List.set_cons_zero, List.set_cons_succ, List.getElem_toArray, List.getElem_cons_zero, List.getElem_cons_succ]
  refine C_take (i := 3) (u := ?vc3) [4, 5, 8] rfl (by kernel_rfl) (by kernel_rfl) (by kernel_rfl) (fun _ _ _ h => h) (by kernel_rfl) (by kernel_rfl) (by kernel_rfl) (by kernel_rfl) (Or.inl ⟨by rfl, ?hyc3⟩) hHeld ?_
  case hyc3 => (intro w hSw; go_simp; try with_reducible rfl)
  simp only [Act.put, List.setIfInBounds_toArray, List.set_cons_zero, List.set_cons_succ, List.getElem_toArray, List.getElem_cons_zero, List.getElem_cons_succ]
  refine C_take (i := 4) (u := ?vc4) [5, 8] rfl (by kernel_rfl) (by kernel_rfl) (by kernel_rfl) (fun _ _ _ h => h) (by kernel_rfl) (by kernel_rfl) (by kernel_rfl) (by kernel_rfl) (Or.inl ⟨by rfl, ?hyc4⟩) hHeld ?_
  case hyc4 => (intro w hSw; have k := hSw.cell k1; go_simp; try with_reducible rfl)
  simp only [Act.put, List.setIfInBounds_toArray, List.set_cons_zero, List.set_cons_succ, List.getElem_toArray, List.getElem_cons_zero, List.getElem_cons_succ]
  refine C_take (i := 6) (u := ?vc6) [7, 8] rfl (by kernel_rfl) (by kernel_rfl) (by kernel_rfl) (fun _ _ _ h => h) (by kernel_rfl) (by kernel_rfl) (by kernel_rfl) (by kernel_rfl) (Or.inl ⟨by rfl, ?hyc6⟩) hHeld ?_
  case hyc6 => (intro w hSw; go_simp; try with_reducible rfl)
  simp only [Act.put, List.setIfInBounds_toArray, List.set_cons_zero, List.set_cons_succ, List.getElem_toArray, List.getElem_cons_zero, List.getElem_cons_succ]
  refine C_take (i := 7) (u := ?vc7) [8] rfl (by kernel_rfl) (by kernel_rfl) (by kernel_rfl) (fun _ _ _ h => h) (by kernel_rfl) (by kernel_rfl) (by kernel_rfl) (by kernel_rfl) (Or.inl ⟨by rfl, ?hyc7⟩) hHeld ?_
  case hyc7 => (intro w hSw; have k := hSw.cell k2; go_simp; try with_reducible rfl)
  simp only [Act.put, List.setIfInBounds_toArray, List.set_cons_zero, List.set_cons_succ, List.getElem_toArray, List.getElem_cons_zero, List.getElem_cons_succ]
  refine G_all (rs := [2]) (by kernel_rfl) (by simp) ?_
  intro i hi; obtain rfl : i = 2 := by simpa using hi
  refine wpOp_run rfl (by rfl) ?_
  go_simp
  have z0 := hHeld.size
  refine Calls.mono (lawShort wd _ f0 (h0.ext hHeld)) ?_
  rintro e wc0 ⟨v0, rfl, own0, xc⟩
  have hHeld := hHeld.trans xc
  clear xc
  first | refine ⟨hHeld, ?_⟩ | refine ⟨fun _ => hHeld, ?_⟩
  try simp only [Act.put, List.setIfInBounds_toArray, List.set_cons_zero, List.set_cons_succ, List.getElem_toArray, List.getElem_cons_zero, List.getElem_cons_succ]
  refine G_all (rs := [5]) (by kernel_rfl) (by simp) ?_
  intro i hi; obtain rfl : i = 5 := by simpa using hi
  refine wpOp_run rfl (by rfl) ?_
  go_simp
  have z1 := hHeld.size
  refine Calls.mono (lawShort wc0 _ f1 (h1.ext hHeld)) ?_
  rintro e wc1 ⟨v1, rfl, own1, xc⟩
  have hHeld := hHeld.trans xc
  have own0 := owns_extU own0 xc
  clear xc
  first | refine ⟨hHeld, ?_⟩ | refine ⟨fun _ => hHeld, ?_⟩
  try simp only [Act.put, List.setIfInBounds_toArray, List.set_cons_zero, List.set_cons_succ, List.getElem_toArray, List.getElem_cons_zero, List.getElem_cons_succ]
  refine G_all (rs := [8]) (by kernel_rfl) (by simp) ?_
  intro i hi; obtain rfl : i = 8 := by simpa using hi
  refine wpOp_run rfl (by rfl) ?_
  go_simp
  have z2 := hHeld.size
  refine Calls.mono (lawShort wc1 _ f2 (h2.ext hHeld)) ?_
  rintro e wc2 ⟨v2, rfl, own2, xc⟩
  have hHeld := hHeld.trans xc
  have own0 := owns_extU own0 xc
  have own1 := owns_extU own1 xc
  clear xc
  try refine ⟨fun e => absurd e (by decide), ?_⟩
  refine G_free _ _ _ _ (by kernel_rfl) ?_
  try simp only [Act.put, List.setIfInBounds_toArray, List.set_cons_zero, List.set_cons_succ, List.getElem_toArray, List.getElem_cons_zero, List.getElem_cons_succ]
  have bR := hHeld.keeps bR
  have X := X.trans hHeld
  obtain ⟨a3, c3, rfl⟩ := slice_shape own0
  obtain ⟨a4, c4, rfl⟩ := slice_shape own1
  obtain ⟨a5, c5, rfl⟩ := slice_shape own2
  refine wpAny_take (i := 9) (v := .agg #[.slice a3 (shortF f0).length c3, .slice a4 (shortF f1).length c4, .slice a5 (shortF f2).length c5]) rfl (by kernel_rfl) (by kernel_rfl) (by kernel_rfl) (fun _ _ _ h => h) (Or.inl ⟨by rfl, ?hyc9⟩) ?_
  case hyc9 => (intro w; go_simp; try with_reducible rfl)
  simp only [Act.put, List.setIfInBounds_toArray, List.set_cons_zero, List.set_cons_succ, List.getElem_toArray, List.getElem_cons_zero, List.getElem_cons_succ]
  refine wpAny_all (rs := [10]) (by kernel_rfl) (by simp) ?_
  intro i hi; obtain rfl : i = 10 := by simpa using hi
  refine wpOp_run rfl (by rfl) ?_
  refine wp_store_row 26 (.tmp 2) (.tmp 12) rfl (B + 1) #[.slice a3 (shortF f0).length c3, .slice a4 (shortF f1).length c4, .slice a5 (shortF f2).length c5] (by rfl) (by rfl) 26 _ bR (info3M _ _ _) rfl (by simp [Value.oneCell']) ?_
  have I0 := (own0.kept (grown_rowM (c := #[.slice a3 (shortF f0).length c3, .slice a4 (shortF f1).length c4, .slice a5 (shortF f2).length c5])) (.inr (own_neU own0 bR (by decide))))
  have I1 := (own1.kept (grown_rowM (c := #[.slice a3 (shortF f0).length c3, .slice a4 (shortF f1).length c4, .slice a5 (shortF f2).length c5])) (.inr (own_neU own1 bR (by decide))))
  have I2 := (own2.kept (grown_rowM (c := #[.slice a3 (shortF f0).length c3, .slice a4 (shortF f1).length c4, .slice a5 (shortF f2).length c5])) (.inr (own_neU own2 bR (by decide))))
  have bR := setRow_heap wc2 (B + 1) _ #[.slice a3 (shortF f0).length c3, .slice a4 (shortF f1).length c4, .slice a5 (shortF f2).length c5] _ _ bR
  have X := X.grown (grown_rowM (g := B + 1) (c := #[.slice a3 (shortF f0).length c3, .slice a4 (shortF f1).length c4, .slice a5 (shortF f2).length c5])) (fun k hk => by cases hk; omega)
  generalize wc2.setRow (B + 1) #[.slice a3 (shortF f0).length c3, .slice a4 (shortF f1).length c4, .slice a5 (shortF f2).length c5] = w4 at *
  refine wpAny_done (by kernel_rfl) ?_ _
  refine NoPanic.normal ?_
  simp only [Act.put, List.setIfInBounds_toArray, List.set_cons_zero, List.set_cons_succ, List.getElem_toArray, List.getElem_cons_zero, List.getElem_cons_succ]
  go_wp2_with fail
  refine bodyPost_ret (results_cell1 rfl _ _ (B + 1) _ _ _ _ (by rfl) bR Tryd.underlying26 rfl (info3M _ _ _)) rfl ?_
  exact ⟨_, _, _, rfl, ownsRow_base I0 (by have := z0; omega), ownsRow_base I1 (by omega), ownsRow_base I2 (by omega), X⟩
end Go.Proofs.YtpcpcjejdngllaaDoor
