/- The walk of tree.Path. -/
import Derived.Test.YtpcpcjejdngllaaDoorTrR
import Derived.Test.YtpcpcjejdngllaaDoorNm
namespace Go.Proofs.YtpcpcjejdngllaaDoor
open Go.RowKit Go.Shelf
attribute [local go_sem] Oper.semAt_some
set_option linter.unusedVariables false
set_option linter.unusedSimpArgs false

/-- Is a text a path? -/
def pathB (s : ByteArray) : Bool := decide (s.size ≤ 64) && (decide ((partsB s).length ≤ 4) && (partsB s).all nameB)
def seqV (b : Nat) : Value := .func (.func 102) #[] #[.pointer (some ⟨b + 1, 0, none⟩), .pointer (some ⟨b, 0, none⟩), .pointer (some ⟨b + 1 + 1, 0, none⟩)]
def seqW (w : World) (s : ByteArray) : World := ((w.alloc (.cells #[.string s] 9)).alloc (.cells #[.string ⟨#[47]⟩] 9)).alloc (.cells #[.int .i64 0] 3)
theorem splitSeqC (w : World) (s : ByteArray) : Calls Tryd.prog 93 #[.string s, .string ⟨#[47]⟩, .int .i64 0] w fun e w' => e = .returned (seqV w.heap.size) ∧ w' = seqW w s := by
  go_enter Tryd.func93, Tryd.ntmps93
  go_wp2
  go_ret
  exact ⟨rfl, rfl⟩
theorem SplitSeqC (w : World) (s : ByteArray) : Calls Tryd.prog 73 #[.string s, .string ⟨#[47]⟩] w fun e w' => e = .returned (seqV w.heap.size) ∧ w' = seqW w s := by
  go_enter Tryd.func73, Tryd.ntmps73
  go_wp2_with fail
  refine Calls.mono (splitSeqC _ s) ?_
  rintro e w1 ⟨rfl, rfl⟩
  go_wp2
  go_ret
  exact ⟨rfl, rfl⟩
theorem namesC (w : World) (s : ByteArray) : Calls Tryd.prog 62 #[.string s] w fun e w' => e = .returned (seqV w.heap.size) ∧ w' = seqW w s := by
  go_enter Tryd.func62, Tryd.ntmps62
  go_wp2_with fail
  refine Calls.mono (SplitSeqC _ s) ?_
  rintro e w1 ⟨rfl, rfl⟩
  go_wp2
  go_ret
  exact ⟨rfl, rfl⟩
theorem seqW_facts (w : World) (s : ByteArray) : (seqW w s).heap[w.heap.size]? = some (.cells #[.string s] 9 (0, 0)) ∧ (seqW w s).heap[w.heap.size + 1]? = some (.cells #[.string ⟨#[47]⟩] 9 (0, 0)) ∧ (seqW w s).heap[w.heap.size + 1 + 1]? = some (.cells #[.int .i64 0] 3 (0, 0)) ∧ (seqW w s).heap.size = w.heap.size + 3 ∧ Ext w (seqW w s) := by
  refine ⟨blk_old (blk_old (heap_alloc_new w _)), blk_old (blk_new (by simp)), blk_new (by simp), by simp [seqW], (((Ext.refl w).alloc _).alloc _).alloc _⟩

set_option maxHeartbeats 4000000 in
set_option maxRecDepth 100000 in
theorem treePath (w : World) (s : ByteArray) (hs : s.size ≤ 140737488355328) :
    Calls Tryd.prog 39 #[.string s] w fun e w' => e = .returned (.bool (pathB s)) ∧ Ext w w' := by
  refine (callsIn_wide (n := 5)).1 ?_
  refine callsIn_of_wp_marks Tryd.func39 rfl trivial ?_ rfl
  simp only [Tryd.ntmps39, List.size_toArray, List.length_cons, List.length_nil, Nat.reduceAdd, Nat.reduceSub, Array.replicate_succ, Array.replicate_zero, List.push_toArray, List.append_toArray, List.nil_append, List.cons_append]
  by_cases hb : (64 : Int) < (s.size : Int)
  · gi_wp2
    have hp : pathB s = false := by unfold pathB; rw [decide_eq_false (show ¬ s.size ≤ 64 by omega)]; rfl
    refine ⟨.bool false, ?_, by rw [hp], (Ext.refl w).alloc _⟩
    simp [results, Tryd.f39, go_sem]
  · gi_wp2
    refine ⟨trivial, ((callsIn_wide (n := 5 - 1)).2 (namesC _ s)).mono ?_⟩
    rintro e w1 ⟨rfl, rfl⟩
    gi_wp2
    have F := seqW_facts ((w.alloc (.cells #[.bool false] 4)).alloc (.cells #[.int .i64 0] 3)) s
    simp only [World.size_alloc] at F
    obtain ⟨f0, f1, f2, fz, fx⟩ := F
    have bR := fx.keeps (blk_old (o := .cells #[.int .i64 0] 3) (heap_alloc_new w (.cells #[.bool false] 4)))
    have bN := fx.keeps (blk_new (w := w.alloc (.cells #[.bool false] 4)) (b := w.heap.size + 1) (o := .cells #[.int .i64 0] 3) (by simp))
    have X2 : Ext w (seqW ((w.alloc (.cells #[.bool false] 4)).alloc (.cells #[.int .i64 0] 3)) s) := (((Ext.refl w).alloc _).alloc _).trans fx
    have hs64 : s.size ≤ 64 := by omega
    clear fx hb
    generalize seqW ((w.alloc (.cells #[.bool false] 4)).alloc (.cells #[.int .i64 0] 3)) s = w2 at *
    generalize hG : w.heap.size = G at *
    have hz2 : w2.heap.size = G + 5 := by omega
    clear fz
    refine wp_rangeParts 5 (by omega) (G + 1 + 1 + 1) (G + 1 + 1) (G + 1 + 1 + 1 + 1) rfl rfl s f1 f0 f2 ⟨by omega, by omega⟩ (by omega)
      (fun pre W => pre.all nameB = true ∧ pre.length ≤ 4 ∧ W.heap[G]? = some (.cells #[.bool false] 4 (0, 0)) ∧ W.heap[G + 1]? = some (.cells #[.int .i64 (pre.length : Int)] 3 (0, 0)) ∧ w2.heap.size ≤ W.heap.size ∧ Ext w W)
      (fun c pre W => c = .ret ∧ ¬ (pre.length ≤ 4 ∧ pre.all nameB = true) ∧ W.heap[G]? = some (.cells #[.bool false] 4 (0, 0)) ∧ Ext w W)
      ?ip ?xp ?is ?ia ?h0
      (fun x => { tmps := #[.string s, undef, .pointer (some ⟨G, 0, none⟩), .pointer (some ⟨G + 1, 0, none⟩), .string x, .string s, .int .i64 (s.size : Int), .bool false, .string s, seqV (G + 1 + 1), .string x, undef, undef, undef, undef, undef, undef, undef, undef, undef], defers := [] })
      ?assign ?body ?done ?stop
    case ip =>
      rintro pre W l o o' ⟨h1, h2, h3, h4, h5, h6⟩ hl ho hc
      exact ⟨h1, h2, (put_other (by omega)).trans h3, (put_other (by omega)).trans h4, by simpa [World.putObj] using h5, h6.grown (grownBy_putObj' W l o') (fun k e => by cases e; omega)⟩
    case xp =>
      rintro c pre W l o o' ⟨h1, h2, h3, h6⟩ hl ho hc
      exact ⟨h1, h2, (put_other (by omega)).trans h3, h6.grown (grownBy_putObj' W l o') (fun k e => by cases e; omega)⟩
    case is =>
      rintro pre W u ⟨h1, h2, h3, h4, h5, h6⟩
      exact ⟨h1, h2, set_other h3 (by omega), set_other h4 (by omega), Nat.le_trans h5 (grown_setCell W (G + 1 + 1) 0 u).size, h6.setCell (p := ⟨G + 1 + 1, 0, none⟩) (by show _ ≤ G + 1 + 1; omega) u⟩
    case ia =>
      rintro pre W o ⟨h1, h2, h3, h4, h5, h6⟩
      exact ⟨h1, h2, blk_old h3, blk_old h4, by rw [World.size_alloc]; omega, h6.alloc o⟩
    case h0 => exact ⟨rfl, by simp, bR, bN, Nat.le_refl _, X2⟩
    case assign =>
      intro l x W K hK
      gi_wp2
      exact hK
    case body =>
      rintro l pre x W hxs ⟨h1, h2, h3, h4, h5, h6⟩
      have cN : W.cell? ⟨G + 1, 0, none⟩ = some (.int .i64 (pre.length : Int)) := by rw [block_cell h4]; rfl
      have fN := block_free h4 0
      have cR : W.cell? ⟨G, 0, none⟩ = some (.bool false) := by rw [block_cell h3]; rfl
      have fR := block_free h3 0
      obtain ⟨W1, hW1⟩ : ∃ W1, W.setCell ⟨G + 1, 0, none⟩ (.int .i64 ((pre.length : Int) + 1)) = W1 := ⟨_, rfl⟩
      have k3 : W1.heap[G]? = some (.cells #[.bool false] 4 (0, 0)) := by rw [← hW1]; exact set_other h3 (by omega)
      have k4 : W1.heap[G + 1]? = some (.cells #[.int .i64 ((pre.length : Int) + 1)] 3 (0, 0)) := by rw [← hW1]; exact block_setCell h4 _
      have kK : RKeeps (G + 1 + 1 + 1) (G + 1 + 1) (G + 1 + 1 + 1 + 1) W W1 := by rw [← hW1]; exact RKeeps.set (by omega) (by omega) (by omega) (by omega) (by omega) (by omega)
      have k5 : w2.heap.size ≤ W1.heap.size := by rw [← hW1]; exact Nat.le_trans h5 (grown_setCell W (G + 1) 0 _).size
      have k6 : Ext w W1 := by rw [← hW1]; exact h6.setCell (p := ⟨G + 1, 0, none⟩) (by show _ ≤ G + 1; omega) _
      have cR1 : W1.cell? ⟨G, 0, none⟩ = some (.bool false) := by rw [block_cell k3]; rfl
      have fR1 := block_free k3 0
      have hlen : (pre ++ [x]).length = pre.length + 1 := by simp
      have hall : (pre ++ [x]).all nameB = nameB x := by rw [List.all_append, h1]; simp
      have HW := Lib.hid hW1
      clear hW1
      by_cases hlt : pre.length < 4
      · have ht : ¬ (4 : Int) < (pre.length : Int) + 1 := by omega
        gi_wp2
        refine ⟨trivial, ?_⟩
        rw [HW.out]
        refine (CallsIn.inRound l ((callsIn_wide (n := 2)).2 (objName W1 x (by omega)))).mono ?_
        rintro e W2 ⟨rfl, y⟩
        have q3 := y.keeps k3
        have q4 := y.keeps k4
        have cR2 := y.cell cR1
        have fR2 := block_free q3 0
        have kK2 := kK.trans (RKeeps.ext (by omega) (by omega) (by omega) y)
        have q5 : w2.heap.size ≤ W2.heap.size := Nat.le_trans k5 y.size
        have q6 := k6.trans y
        cases hx : nameB x with
        | true =>
          gi_wp2
          exact ⟨kK2, by rw [hall, hx], by omega, q3, by rw [hlen]; exact q4, q5, q6⟩
        | false =>
          gi_wp2
          exact ⟨kK2.trans (RKeeps.set (by omega) (by omega) (by omega) (by omega) (by omega) (by omega)), rfl, fun h => by rw [hall, hx] at h; exact absurd h.2 (by decide), block_setCell q3 _, q6.setCell (p := ⟨G, 0, none⟩) (by show _ ≤ G; omega) _⟩
      · have ht : (4 : Int) < (pre.length : Int) + 1 := by omega
        gi_wp2
        refine ⟨trivial, ?_⟩
        rw [HW.out]
        gi_wp2
        exact ⟨kK.trans (RKeeps.set (by omega) (by omega) (by omega) (by omega) (by omega) (by omega)), rfl, fun h => by omega, block_setCell k3 _, k6.setCell (p := ⟨G, 0, none⟩) (by show _ ≤ G; omega) _⟩
    case done =>
      rintro D W hD ⟨h1, h2, h3, h4, h5, h6⟩ hK
      have cR : W.cell? ⟨G, 0, none⟩ = some (.bool false) := by rw [block_cell h3]; rfl
      have fR := block_free h3 0
      have hp : pathB s = true := by unfold pathB; rw [decide_eq_true hs64, decide_eq_true h2, h1]; rfl
      gi_wp2
      have hK' := (KeepsOthers.setCell W ⟨G, 0, none⟩ (.bool true)).same D _ hK rfl
      refine ⟨by simp, .inl ⟨_, _, rfl, run_takeDeferred hK', ?_⟩⟩
      have b5 : ((W.setCell ⟨G, 0, none⟩ (.bool true)).putObj D (.deferred none)).heap[G]? = _ := (put_other (by omega)).trans (block_setCell h3 (i := 0) (.bool true))
      have hc5 : ((W.setCell ⟨G, 0, none⟩ (.bool true)).putObj D (.deferred none)).cell? ⟨G, 0, none⟩ = some (.bool true) := by rw [block_cell b5]; rfl
      refine ⟨.bool true, ?_, by rw [hp], (h6.setCell (p := ⟨G, 0, none⟩) (by show _ ≤ G; omega) _).grown (grownBy_putObj' _ D _) (fun k e => by cases e; omega)⟩
      simp [results, Tryd.f39, go_sem, hc5]
    case stop =>
      rintro D c pre W hD hpre ⟨rfl, h2, h3, h6⟩ hK
      have hp : pathB s = false := by
        unfold pathB
        by_cases hl : (partsB s).length ≤ 4
        · have : (partsB s).all nameB = false := by
            cases ha : (partsB s).all nameB with
            | false => rfl
            | true =>
              refine absurd ⟨Nat.le_trans hpre.length_le hl, ?_⟩ h2
              rw [List.all_eq_true] at ha ⊢
              exact fun y hy => ha y (hpre.subset hy)
          rw [this]
          simp
        · rw [decide_eq_false hl]
          simp
      gi_wp2
      refine ⟨by simp, .inl ⟨_, _, rfl, run_takeDeferred hK, ?_⟩⟩
      have b5 : (W.putObj D (.deferred none)).heap[G]? = _ := (put_other (by omega)).trans h3
      have hc5 : (W.putObj D (.deferred none)).cell? ⟨G, 0, none⟩ = some (.bool false) := by rw [block_cell b5]; rfl
      refine ⟨.bool false, ?_, by rw [hp], h6.grown (grownBy_putObj' _ D _) (fun k e => by cases e; omega)⟩
      simp [results, Tryd.f39, go_sem, hc5]
end Go.Proofs.YtpcpcjejdngllaaDoor
