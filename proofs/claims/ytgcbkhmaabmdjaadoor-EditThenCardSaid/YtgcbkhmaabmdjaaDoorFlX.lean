/- The walk of the statement EditBack. -/
import Derived.Test.YtgcbkhmaabmdjaaDoorFlW
namespace Go.Proofs.YtgcbkhmaabmdjaaDoor
open Go.RowKit
set_option linter.unusedVariables false
set_option linter.unusedSimpArgs false

theorem IsFew.setRow {w : World} {v : Value} {L : List Ed} (h : IsFew w v L) {g : Nat} {c c' : Array Value} {f : Nat × Nat} (hg : w.heap[g]? = some (.cells c 24 f)) : IsFew (w.setRow g c') v L := by
  obtain ⟨b, cs, rfl, h2, h3, h4⟩ := h
  exact ⟨b, cs, rfl, set_otherR h2 (heap_ne h2 hg (by decide)), h3, h4⟩
theorem undoL_len (l : List Ed) : ∀ fs : List Fl, (undoL fs l).length ≤ fs.length * l.length
  | [] => by simp [undoL]
  | f :: fs => by
    have ih := undoL_len l fs
    have h1 := ofL_len l f.path
    have e : undoL (f :: fs) l = undoFrom f 0 (ofL l f.path) ++ undoL fs l := rfl
    rw [e, List.length_append, undo_len, List.length_cons, Nat.add_mul]
    omega
theorem short_len (fs : List Fl) : (shortF fs).length ≤ 18 := by unfold shortF; rw [List.length_map, List.length_take]; omega

set_option maxHeartbeats 8000000 in
set_option maxRecDepth 100000 in
theorem walkEditBack (w : World) (v : Value) (fs : List Fl) (h : ArgRepo w v fs) (ve : Value) (l : List Ed) (hE : IsE w ve l) :
    Calls Tryd.prog 4 #[v, ve] w fun e w' => e = .returned (.bool true) ∧ Below w.heap.size w w' := by
  obtain ⟨u, rfl, hF⟩ := h
  obtain ⟨_, au, cu, rfl, _⟩ := hF.sl
  go_enter Tryd.func4, Tryd.ntmps4
  go_wp2_with fail
  refine Calls.mono (wakes _) ?_
  rintro e w1 ⟨rfl, x1⟩
  have X1 : Ext w w1 := ((Ext.refl w).alloc _).trans x1
  have b1 := x1.keeps (heap_alloc_new w (.cells #[.slice au fs.length cu] 24))
  generalize hR : w.heap.size = R at *
  have hfin : ∀ (W : World) (g : Nat) (c : Array Value), W.heap[g]? = some (.cells c 24 (0, 0)) → ∀ u, (W.setRow g #[u]).heap[g]? = some (.cells #[u] 24 (0, 0)) := fun W g c h u => setRow_heap _ _ _ _ _ _ h
  go_wp2_with ((with_reducible refine at_load 24 (.tmp 2) ?_); refine wpl_load (by rfl) 24 (.tmp 2) rfl R (by rfl) 24 #[.slice au fs.length cu] (0, 0) _ b1 Tryd.underlying24 rfl (info1 _) ?_)
  refine Calls.mono (lawShort w1 _ fs (hF.ext X1)) ?_
  rintro e w2 ⟨v1, rfl, own1, x2⟩
  have hS := shortF_ok fs
  have hS18 := short_len fs
  generalize hSS : shortF fs = S at *
  obtain ⟨a1, c1, rfl⟩ : ∃ a1 c1, v1 = .slice a1 S.length c1 := by obtain ⟨_, a, c, rfl, _⟩ := IsSl.of_owns own1; exact ⟨a, c, rfl⟩
  have X2 := X1.trans x2
  go_wp2_with fail
  refine Calls.mono (few' _ _ l (hE.ext X2)) ?_
  rintro e w3 ⟨vl, rfl, hl3, x3⟩
  have hL : (fewL l).length ≤ 60 := by unfold fewL; rw [List.length_map, List.length_take]; omega
  generalize fewL l = L at *
  have b3 := (x2.trans x3).keeps b1
  have own1 := owns_ext own1 x3
  have X3 := X2.trans x3
  have b4 := hfin w3 R _ b3 (.slice a1 S.length c1)
  have hone1 := slice_one a1 S.length c1
  have X4 : Ext w (w3.setRow R #[.slice a1 S.length c1]) := X3.grown grown_row1 (fun k hk => by cases hk; omega)
  have F4 : IsF (w3.setRow R #[.slice a1 S.length c1]) (.slice a1 S.length c1) S := owns_isF (own1.kept grown_row1 (.inr (own_neT own1 b3 (by decide)))) hS
  have E4 := (hl3.setRow (c' := #[.slice a1 S.length c1]) b3).isE
  go_wp2_with first
    | ((with_reducible refine at_store 24 (.tmp 2) (.tmp 14) ?_); refine wpl_store (by rfl) 24 (.tmp 2) (.tmp 14) rfl R #[.slice a1 S.length c1] (by rfl) (by rfl) 24 _ b3 (info1 _) rfl hone1 ?_)
    | ((with_reducible refine at_load 24 (.tmp 2) ?_); refine wpl_load (by rfl) 24 (.tmp 2) rfl R (by rfl) 24 #[.slice a1 S.length c1] (0, 0) _ b4 Tryd.underlying24 rfl (info1 _) ?_)
  generalize w3.setRow R #[.slice a1 S.length c1] = w4 at *
  have hend : ∀ W, Ext w4 W → Below w.heap.size w W := fun W k => X4.trans k
  clear own1 b1 b3 X1 X2 X3 x1 x2 x3 hl3 hF
  refine Calls.mono (editApply w4 _ S vl L F4 E4 (by omega)) ?_
  rintro e w5 ⟨vs, rfl, own5, x5⟩
  obtain ⟨D, hD⟩ : ∃ D, applyL S L = D := ⟨_, rfl⟩
  rw [hD] at own5 ⊢
  have HD := Lib.hid hD
  clear hD
  obtain ⟨n8, hn8⟩ : ∃ n, D.1.length = n := ⟨_, rfl⟩
  rw [hn8] at own5
  have HN8 := Lib.hid hn8
  clear hn8
  obtain ⟨ap, cp, rfl⟩ : ∃ a c, vs = .slice a n8 c := by obtain ⟨_, a, c, rfl, _⟩ := IsSl.of_owns own5; exact ⟨a, c, rfl⟩
  have tP := blk_new (w := w5) (b := w5.heap.size) (o := .cells #[.slice ap n8 cp] 24) rfl
  have x6 : Ext w4 (w5.alloc (.cells #[.slice ap n8 cp] 24)) := x5.alloc _
  have own6 := own5.alloc (.cells #[.slice ap n8 cp] 24)
  have b6 := x6.keeps b4
  go_wp2_with ((with_reducible refine at_load 24 (.tmp 2) ?_); refine wpl_load (by rfl) 24 (.tmp 2) rfl R (by rfl) 24 #[.slice a1 S.length c1] (0, 0) _ b6 Tryd.underlying24 rfl (info1 _) ?_)
  generalize w5.alloc (.cells #[.slice ap n8 cp] 24) = w6 at *
  generalize w5.heap.size = P at *
  clear x5 own5
  refine Calls.mono (editUndo w6 _ S vl L (F4.ext x6) (E4.ext x6) (by omega)) ?_
  rintro e w7 ⟨vu, rfl, own7, x7⟩
  rw [HD.out]
  obtain ⟨U, hU⟩ : ∃ U, undoA S L = U := ⟨_, rfl⟩
  rw [hU] at own7
  have HU := Lib.hid hU
  clear hU
  obtain ⟨m8, hm8⟩ : ∃ n, U.length = n := ⟨_, rfl⟩
  rw [hm8] at own7
  have HM8 := Lib.hid hm8
  clear hm8
  obtain ⟨au', cu', rfl⟩ : ∃ a c, vu = .slice a m8 c := by obtain ⟨_, a, c, rfl, _⟩ := IsSl.of_owns own7; exact ⟨a, c, rfl⟩
  have own6 := owns_ext own6 x7
  have tP := x7.keeps tP
  have x7 := x6.trans x7
  have cP := block_cell tP 0
  have cP : w7.cell? ⟨P, 0, none⟩ = some (.slice ap n8 cp) := by rw [cP]; rfl
  clear x6 b6
  by_cases hz : D.2 = 0
  · have hback := edit_back (fs := S) (l := L) (by rw [HD.out]; exact hz)
    obtain ⟨_, _, _, _, hlg, _, hDe⟩ := apply_ok (fs := S) (l := L) (by rw [HD.out]; exact hz)
    have hDf : D.1 = S.map (updF L) := by rw [← HD.out, hDe]
    have hUe : undoL S L = U := by rw [← HU.out]; unfold undoA; rw [HD.out, if_pos hz]
    have hUl : U.length ≤ 1000000 := by
      have h1 := undoL_len L S
      have h2 := Nat.mul_le_mul hS18 hL
      rw [hUe] at h1
      omega
    rw [← hDf, hUe] at hback
    obtain ⟨hchk, hap, hun⟩ := hback
    have hok := undo_edOk hS (by rw [hUe]; exact hchk)
    rw [hUe] at hok
    have hfo := upd_flOk hS hlg
    rw [← hDf] at hfo
    have FP : IsF w7 (.slice ap n8 cp) D.1 := owns_isF (by rw [HN8.out]; exact own6) hfo
    have EU : IsE w7 (.slice au' m8 cu') U := ⟨IsSl.of_owns (by rw [HM8.out]; exact own7), hok⟩
    rw [hz]
    clear hlg hDe hDf hUe hfo own6 own7
    go_wp2_with ((with_reducible refine at_load 24 (.tmp 5) ?_); refine wpl_load (by rfl) 24 (.tmp 5) rfl P (by rfl) 24 #[.slice ap n8 cp] (0, 0) _ tP Tryd.underlying24 rfl (info1 _) ?_)
    refine Calls.mono (editApply w7 _ D.1 _ U FP EU hUl) ?_
    rintro e w8 ⟨vt, rfl, own8, x8⟩
    rw [hap] at own8
    rw [hap]
    obtain ⟨at', ct, rfl⟩ : ∃ a c, vt = .slice a S.length c := by obtain ⟨_, a, c, rfl, _⟩ := IsSl.of_owns own8; exact ⟨a, c, rfl⟩
    have tQ := blk_new (w := w8) (b := w8.heap.size) (o := .cells #[.slice at' S.length ct] 24) rfl
    have x9 : Ext w7 (w8.alloc (.cells #[.slice at' S.length ct] 24)) := x8.alloc _
    have FT := (owns_isF own8 hS).ext ((Ext.refl _).alloc (.cells #[.slice at' S.length ct] 24))
    have tP := x9.keeps tP
    go_wp2_with ((with_reducible refine at_load 24 (.tmp 5) ?_); refine wpl_load (by rfl) 24 (.tmp 5) rfl P (by rfl) 24 #[.slice ap n8 cp] (0, 0) _ tP Tryd.underlying24 rfl (info1 _) ?_)
    generalize w8.alloc (.cells #[.slice at' S.length ct] 24) = w9 at *
    generalize w8.heap.size = Q at *
    refine Calls.mono (editUndo w9 _ D.1 _ U (FP.ext x9) (EU.ext x9) hUl) ?_
    rintro e w10 ⟨vv, rfl, own10, x10⟩
    have hua : undoA D.1 U = L := by unfold undoA; rw [hap, if_pos rfl, hun]
    rw [hua] at own10
    rw [hap]
    have x10' := x9.trans x10
    go_wp2_with fail
    refine Calls.mono (editCheck w10 _ U (EU.ext x10')) ?_
    rintro e w11 ⟨rfl, x11⟩
    rw [hchk]
    simp only [show errE true = 0 from rfl]
    have x11' := x10.trans x11
    have tQ := x11'.keeps tQ
    have b11 := ((x7.trans x9).trans x11').keeps b4
    go_wp2_with first
      | ((with_reducible refine at_load 24 (.tmp 2) ?_); refine wpl_load (by rfl) 24 (.tmp 2) rfl R (by rfl) 24 #[.slice a1 S.length c1] (0, 0) _ b11 Tryd.underlying24 rfl (info1 _) ?_)
      | ((with_reducible refine at_load 24 (.tmp 9) ?_); refine wpl_load (by rfl) 24 (.tmp 9) rfl Q (by rfl) 24 #[.slice at' S.length ct] (0, 0) _ tQ Tryd.underlying24 rfl (info1 _) ?_)
    refine Calls.mono (treeSame w11 _ _ S S (FT.ext x11') (F4.ext ((x7.trans x9).trans x11'))) ?_
    rintro e w12 ⟨rfl, x12⟩
    rw [decide_eq_true (rfl : S = S)]
    have hLok : ∀ e ∈ L, edOk e := E4.ok
    have EV : IsE w10 vv L := ⟨IsSl.of_owns own10, hLok⟩
    have X12 := ((x7.trans x9).trans x11').trans x12
    go_wp2_with fail
    refine Calls.mono (editSame w12 _ _ L L (EV.ext (x11.trans x12)) (E4.ext X12)) ?_
    rintro e w13 ⟨rfl, x13⟩
    rw [decide_eq_true (rfl : L = L)]
    go_wp2_with fail
    go_ret
    exact ⟨rfl, hend _ (X12.trans (toExt x13))⟩
  · obtain ⟨E, hE2⟩ : ∃ E, D.2 = E := ⟨_, rfl⟩
    have h0 : D.1 = [] := by
      have := @apply_err S L
      rw [HD.out] at this
      exact this hz
    have hu0 : U = [] := by rw [← HU.out]; unfold undoA; rw [HD.out, if_neg hz]
    rw [hE2] at hz ⊢
    obtain rfl : 0 = n8 := by rw [← HN8.out, h0]; rfl
    obtain rfl : 0 = m8 := by rw [← HM8.out, hu0]; rfl
    have hz1 : (E == 0) = false := beq_eq_false_iff_ne.2 hz
    go_wp2_with fail
    go_ret
    exact ⟨rfl, hend _ x7⟩
end Go.Proofs.YtgcbkhmaabmdjaaDoor
