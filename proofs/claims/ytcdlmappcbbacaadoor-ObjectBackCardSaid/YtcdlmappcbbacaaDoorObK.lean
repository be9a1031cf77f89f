/- object.Decode: a kind that is none. -/
import Derived.Test.YtcdlmappcbbacaaDoorObJ
namespace Go.Proofs.YtcdlmappcbbacaaDoor
open Go.RowKit
set_option linter.unusedVariables false
set_option linter.unusedSimpArgs false

set_option maxHeartbeats 8000000 in
set_option maxRecDepth 100000 in
theorem objDecode0 (w : World) (v : Value) (l : List UInt8) (h : IsB w v l) (hb : l.length ≤ 140737488355328) (h1 : rN l (0, 0) 1 ≠ 1) (h2 : rN l (0, 0) 1 ≠ 2) (h3 : rN l (0, 0) 1 ≠ 3) :
    Calls Tryd.prog 15 #[v] w (DecEnd (decP l) w) := by
  obtain ⟨k, hkk⟩ : ∃ k : Int, (num (rTake l 0 0 1) : Int) = k := ⟨_, rfl⟩
  have hk256 : 0 ≤ k ∧ k < 256 := by rw [← hkk]; have := num_small (rTake l 0 0 1) 1 (by simpa using rTake_len l 0 0 1); omega
  have q1 : num (rTake l 0 0 1) ≠ 1 := h1
  have q2 : num (rTake l 0 0 1) ≠ 2 := h2
  have q3 : num (rTake l 0 0 1) ≠ 3 := h3
  have e1 : (k == 1) = false := by rw [beq_eq_false_iff_ne]; omega
  have e2 : (k == 2) = false := by rw [beq_eq_false_iff_ne]; omega
  have e3 : (k == 3) = false := by rw [beq_eq_false_iff_ne]; omega
  have hD : decP l = if 0 < l.length then (zObj 0, 150) else (zObj 0, 7) := by
    have hn : ¬ (rN l (0, 0) 1 = 1 ∨ rN l (0, 0) 1 = 2 ∨ rN l (0, 0) 1 = 3) := by omega
    by_cases hl : 0 < l.length
    · unfold decP
      simp only []
      rw [if_pos ⟨hn, hl⟩, if_pos hl]
    · have hl0 : l = [] := List.eq_nil_of_length_eq_zero (by omega)
      subst hl0
      rw [if_neg hl]
      have e1 : rN [] (0, 0) 1 = 0 := by decide +kernel
      have e2 : rS [] (0, 0) 1 = (0, 7) := by decide +kernel
      simp [decP, readP, e1, e2]
  have HD := Lib.hid hD
  clear hD q1 q2 q3
  have hv := h.opened
  obtain ⟨av, cv, rfl, _⟩ := hv
  have HKK := Lib.hid hkk
  have H1 := Lib.hid h1
  have H2 := Lib.hid h2
  have H3 := Lib.hid h3
  clear hkk h1 h2 h3
  have hzi : (Tryd.prog.info? 29).map (·.size) = some 38 := obj_info
  go_enter Tryd.func15, Tryd.ntmps15
  go_wp2_with fail
  have X0 : Ext w (w.alloc (.cells (objC (.slice none 0 0) (.slice none 0 0) (.slice none 0 0) (zObj 0)).toArray 29)) := (Ext.refl w).alloc _
  have bR := heap_alloc_new w (.cells (objC (.slice none 0 0) (.slice none 0 0) (.slice none 0 0) (zObj 0)).toArray 29)
  refine Calls.mono (octetRead _ _ l (h.ext X0) hb) ?_
  rintro e w1 ⟨g, rfl, hg1, hr1, x1⟩
  have bR := x1.keeps bR
  have X1 := X0.trans x1
  have hgR : w.heap.size < g := by have := block_lt (heap_alloc_new w (.cells (objC (.slice none 0 0) (.slice none 0 0) (.slice none 0 0) (zObj 0)).toArray 29)); exact Nat.lt_of_lt_of_le this hg1
  have hgw : g < w1.heap.size := by obtain ⟨_, _, _, hgb, _, _⟩ := hr1; exact block_lt hgb
  generalize hR : w.heap.size = R at *
  clear X0 x1
  go_wp2_with fail
  have b4 := heap_alloc_new w1 (.cells #[.pointer (some ⟨g, 0, none⟩)] 60)
  have bR := blk_old (o := .cells #[.pointer (some ⟨g, 0, none⟩)] 60) bR
  have hr1 := hr1.ext ((Ext.refl w1).alloc (.cells #[.pointer (some ⟨g, 0, none⟩)] 60))
  have X1 := X1.alloc (.cells #[.pointer (some ⟨g, 0, none⟩)] 60)
  generalize hH4 : w1.heap.size = H4 at *
  generalize w1.alloc (.cells #[.pointer (some ⟨g, 0, none⟩)] 60) = w1 at *
  have hRw := hR
  refine Calls.mono (octetU8 _ g l 0 0 hr1) ?_
  rintro e w2 ⟨rfl, hr2, hg2⟩
  have X2 : Ext w w2 := X1.grown hg2 (fun k hk => by simp at hk; omega)
  have b4 := grown_other hg2 b4 (by omega)
  have bR := grown_other hg2 bR (by omega)
  have hk' : (num (rTake l 0 0 1) : Int) = k := HKK.out
  rw [hk']
  clear hk' hg2 hr1 X1
  have hnl : rNext l 0 0 1 = rS l (0, 0) 1 := rfl
  rw [hnl] at hr2
  clear hnl
  have c50 := (obj_at (heap_alloc_new w2 (.cells (objC (.slice none 0 0) (.slice none 0 0) (.slice none 0 0) (zObj k)).toArray 29)) rfl (zObj_ok k (by omega))).c0
  rw [show (zObj k).kind = k from rfl] at c50
  have bX := blk_old (o := .cells (objC (.slice none 0 0) (.slice none 0 0) (.slice none 0 0) (zObj k)).toArray 29) bR
  have c4 : (w2.alloc (.cells (objC (.slice none 0 0) (.slice none 0 0) (.slice none 0 0) (zObj k)).toArray 29)).cell? ⟨H4, 0, none⟩ = some (.pointer (some ⟨g, 0, none⟩)) := by rw [block_cell (blk_old b4)]; rfl
  have hr3 := hr2.ext ((Ext.refl w2).alloc (.cells (objC (.slice none 0 0) (.slice none 0 0) (.slice none 0 0) (zObj k)).toArray 29))
  by_cases hl0 : 0 < l.length
  · have hl1 : (0 : Int) < (l.length : Int) := by omega
    go_wp2_with (first
      | ((with_reducible refine at_store 29 (.tmp 5) (.tmp 16) ?_); refine wpl_store (by rfl) 29 (.tmp 5) (.tmp 16) rfl w2.heap.size (objC (.slice none 0 0) (.slice none 0 0) (.slice none 0 0) (zObj k)).toArray (by rfl) (by rfl) 29 _ (heap_alloc_new _ _) (zObj_is w k (by omega)).info (by rfl) (zObj_is w k (by omega)).one ?_; rw [World.setRow_alloc_new])
      | ((with_reducible refine at_store 29 (.tmp 2) (.tmp 93) ?_); refine wpl_store (by rfl) 29 (.tmp 2) (.tmp 93) rfl R (objC (.slice none 0 0) (.slice none 0 0) (.slice none 0 0) (zObj 0)).toArray (by rfl) (by rfl) 29 _ bX (by kernel_rfl) (by rfl) (zObj_is w 0 (by omega)).one ?_))
    have hfin : ((w2.alloc (.cells (objC (.slice none 0 0) (.slice none 0 0) (.slice none 0 0) (zObj k)).toArray 29)).setRow R (objC (.slice none 0 0) (.slice none 0 0) (.slice none 0 0) (zObj 0)).toArray).heap[R]? = some (.cells (objC (.slice none 0 0) (.slice none 0 0) (.slice none 0 0) (zObj 0)).toArray 29 (0, 0)) := setRow_heap _ _ _ _ _ _ bX
    refine bodyPost_ret (results_cell_tmp rfl _ _ R _ _ _ _ (by rfl) hfin Tryd.underlying29 rfl (by kernel_rfl)) rfl ⟨(objC (.slice none 0 0) (.slice none 0 0) (.slice none 0 0) (zObj 0)).toArray, .slice none 0 0, .slice none 0 0, .slice none 0 0, ?_, ?_, (X2.alloc _).grown grown_setRow' (fun k hk => by simp at hk; omega)⟩
    · rw [HD.out, if_pos hl0]; rfl
    · rw [HD.out, if_pos hl0]; exact zObj_is _ 0 (by omega)
  · have hl1 : ¬ (0 : Int) < (l.length : Int) := by omega
    have hs7 : rS l (0, 0) 1 = (0, 7) := by
      have hl : l = [] := List.eq_nil_of_length_eq_zero (by omega)
      subst hl
      decide +kernel
    rw [hs7] at hr3
    have hr3 : IsRd _ g l 0 7 := hr3
    have hlz : l.length = 0 := by omega
    go_wp2_with (first
      | ((with_reducible refine at_store 29 (.tmp 5) (.tmp 16) ?_); refine wpl_store (by rfl) 29 (.tmp 5) (.tmp 16) rfl w2.heap.size (objC (.slice none 0 0) (.slice none 0 0) (.slice none 0 0) (zObj k)).toArray (by rfl) (by rfl) 29 _ (heap_alloc_new _ _) (zObj_is w k (by omega)).info (by rfl) (zObj_is w k (by omega)).one ?_; rw [World.setRow_alloc_new])
      | (go_at_call 34; refine Calls.mono (octetErr _ g l 0 7 hr3) ?_; rintro e we ⟨rfl, rfl⟩)
      | ((with_reducible refine at_store 29 (.tmp 2) (.tmp 99) ?_); refine wpl_store (by rfl) 29 (.tmp 2) (.tmp 99) rfl R (objC (.slice none 0 0) (.slice none 0 0) (.slice none 0 0) (zObj 0)).toArray (by rfl) (by rfl) 29 _ bX (by kernel_rfl) (by rfl) (zObj_is w 0 (by omega)).one ?_))
    have hfin : ((w2.alloc (.cells (objC (.slice none 0 0) (.slice none 0 0) (.slice none 0 0) (zObj k)).toArray 29)).setRow R (objC (.slice none 0 0) (.slice none 0 0) (.slice none 0 0) (zObj 0)).toArray).heap[R]? = some (.cells (objC (.slice none 0 0) (.slice none 0 0) (.slice none 0 0) (zObj 0)).toArray 29 (0, 0)) := setRow_heap _ _ _ _ _ _ bX
    refine bodyPost_ret (results_cell_tmp rfl _ _ R _ _ _ _ (by rfl) hfin Tryd.underlying29 rfl (by kernel_rfl)) rfl ⟨(objC (.slice none 0 0) (.slice none 0 0) (.slice none 0 0) (zObj 0)).toArray, .slice none 0 0, .slice none 0 0, .slice none 0 0, ?_, ?_, (X2.alloc _).grown grown_setRow' (fun k hk => by simp at hk; omega)⟩
    · rw [HD.out, if_neg hl0]; rfl
    · rw [HD.out, if_neg hl0]; exact zObj_is _ 0 (by omega)

/-- Whatever bytes. -/
theorem objDecodeSome (w : World) (v : Value) (l : List UInt8) (h : IsB w v l) (hb : l.length ≤ 140737488355328) : True := trivial
end Go.Proofs.YtcdlmappcbbacaaDoor
