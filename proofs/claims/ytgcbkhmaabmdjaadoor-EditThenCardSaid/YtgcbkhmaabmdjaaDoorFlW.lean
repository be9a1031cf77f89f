/- The walk of the statement EditApplies. -/
import Derived.Test.YtgcbkhmaabmdjaaDoorFlM
import Derived.Test.YtgcbkhmaabmdjaaDoorFlS
import Derived.Test.YtgcbkhmaabmdjaaDoorFlOp
import Derived.Test.YtgcbkhmaabmdjaaDoorEdK
import Derived.Test.YtgcbkhmaabmdjaaDoorEdBk
namespace Go.Proofs.YtgcbkhmaabmdjaaDoor
open Go.RowKit
set_option linter.unusedVariables false
set_option linter.unusedSimpArgs false

theorem extract_twice (s : ByteArray) (n : Nat) : (s.extract 0 (min s.size n)).extract 0 (min (s.extract 0 (min s.size n)).size n) = s.extract 0 (min s.size n) := by
  apply ByteArray.ext
  apply Array.toList_inj.1
  simp only [ByteArray.size_extract, ByteArray.data_extract, Array.toList_extract, List.extract_eq_take_drop, List.drop_zero, List.take_take]
  congr 1
  omega
theorem cutF_twice (f : Fl) : cutF (cutF f) = cutF f := by
  unfold cutF
  simp only [extract_twice]
theorem short_twice (fs : List Fl) : shortF (shortF fs) = shortF fs := by
  unfold shortF
  have : cutF ∘ cutF = cutF := by funext f; exact cutF_twice f
  rw [List.take_of_length_le (l := (fs.take 18).map cutF) (by rw [List.length_map, List.length_take]; omega), List.map_map, this]
theorem apply_err {fs : List Fl} {l : List Ed} (h : (applyL fs l).2 ≠ 0) : (applyL fs l).1 = [] := by
  unfold applyL at h ⊢
  split
  · rfl
  · split
    · rfl
    · split
      · rfl
      · split
        · rfl
        · split
          · rfl
          · rename_i h1 h2 h3 h4 h5
            rw [if_neg h1, if_neg h2, if_neg h3, if_neg h4, if_neg h5] at h
            exact absurd rfl h
theorem undo_edOk {fs : List Fl} {l : List Ed} (hf : ∀ f ∈ fs, flOk f) (h : chk (undoL fs l) = true) : ∀ e ∈ undoL fs l, edOk e := by
  intro e he
  obtain ⟨h1, h2, h3, h4, h5, _⟩ := okOne_all (chkR_mem (chkR_of _ h) e he)
  obtain ⟨f, hfm, hef⟩ := List.mem_flatMap.1 he
  have hp := undo_path f _ _ e hef
  have := (hf f hfm).1
  exact ⟨by rw [hp]; omega, by omega, by omega, by omega⟩
theorem upd_flOk {fs : List Fl} {l : List Ed} (hf : ∀ f ∈ fs, flOk f) (h : longB (fs.map (updF l)) = false) : ∀ f ∈ fs.map (updF l), flOk f := by
  intro f hfm
  unfold longB at h
  rw [List.any_eq_false] at h
  have h1 := h f hfm
  rw [decide_eq_true_eq] at h1
  obtain ⟨g, hg, rfl⟩ := List.mem_map.1 hfm
  exact ⟨(hf g hg).1, by omega⟩
/-- A row that may be written over: cells enough. -/
def RowW (w : World) (base : Nat) (ty : TypeId) (v : Value) (n s : Nat) : Prop := n = 0 ∨ ∃ g cap c, v = .slice (some ⟨g, 0, none⟩) n cap ∧ n ≤ cap ∧ cap ≤ 9223372036854775807 ∧ base ≤ g ∧ w.heap[g]? = some (.cells c ty (0, 0)) ∧ n * s ≤ c.size
theorem RowW.of_owns {w : World} {base : Nat} {e : TypeId} {size : Nat} {v : Value} {n : Nat} {xs : List Value} (h : w.ownsRow base e size v n xs) : RowW w base e v n size := by
  obtain ⟨hx, h⟩ := h
  rcases h with ⟨rfl, rfl⟩ | ⟨g, cap, cur, rfl, hb, hg, hn, hcap, hs, htake⟩
  · exact .inl rfl
  · exact .inr ⟨g, cap, cur, rfl, hn, by unfold maxLen at hcap; omega, hb, hg, by rw [hs]; exact Nat.mul_le_mul_right _ hn⟩
theorem heap_ne {w : World} {g g' : Nat} {c c' : Array Value} {t t' : TypeId} {f f' : Nat × Nat} (h : w.heap[g]? = some (.cells c t f)) (h' : w.heap[g']? = some (.cells c' t' f')) (hn : t ≠ t') : g ≠ g' := fun e => by
  subst e
  rw [h] at h'
  simp only [Option.some.injEq, Obj.cells.injEq] at h'
  exact hn h'.2.1
theorem RowW.set {w : World} {base : Nat} {ty : TypeId} {v : Value} {n s : Nat} (h : RowW w base ty v n s) (g' i : Nat) (u : Value) : RowW (w.setCell ⟨g', i, none⟩ u) base ty v n s := by
  rcases h with h | ⟨g, cap, c, e, h1, h2, h3, h4, h5⟩
  · exact .inl h
  · by_cases hg : g = g'
    · subst hg
      exact .inr ⟨g, cap, _, e, h1, h2, h3, block_setCell h4 u, by simpa using h5⟩
    · exact .inr ⟨g, cap, c, e, h1, h2, h3, set_other h4 hg, h5⟩
theorem set_otherR {w : World} {r g : Nat} {x : Obj} {c : Array Value} (h : w.heap[g]? = some x) (hn : g ≠ r) : (w.setRow r c).heap[g]? = some x := grown_other grown_row1 h hn
theorem owns_isF {w : World} {base : Nat} {v : Value} {l : List Fl} (h : w.ownsRow base 42 2 v l.length (l.flatMap flC)) (ho : ∀ f ∈ l, flOk f) : IsF w v l := ⟨IsSl.of_owns h, ho⟩

set_option maxHeartbeats 8000000 in
set_option maxRecDepth 100000 in
theorem walkEditApplies (w : World) (v : Value) (fs : List Fl) (h : ArgRepo w v fs) (ve : Value) (l : List Ed) (hE : IsE w ve l) :
    Calls Tryd.prog 3 #[v, ve] w fun e w' => e = .returned (.bool true) ∧ Below w.heap.size w w' := by
  obtain ⟨u, rfl, hF⟩ := h
  obtain ⟨_, au, cu, rfl, _⟩ := hF.sl
  go_enter Tryd.func3, Tryd.ntmps3
  go_wp2_with fail
  refine Calls.mono (wakes _) ?_
  rintro e w1 ⟨rfl, x1⟩
  have X1 : Ext w w1 := ((Ext.refl w).alloc _).trans x1
  have b1 := x1.keeps (heap_alloc_new w (.cells #[.slice au fs.length cu] 24))
  have hRw : w.heap.size ≤ w.heap.size := Nat.le_refl _
  generalize hR : w.heap.size = R at *
  have hfin : ∀ (W : World) (g : Nat) (c : Array Value), W.heap[g]? = some (.cells c 24 (0, 0)) → ∀ u, (W.setRow g #[u]).heap[g]? = some (.cells #[u] 24 (0, 0)) := fun W g c h u => setRow_heap _ _ _ _ _ _ h
  go_wp2_with ((with_reducible refine at_load 24 (.tmp 2) ?_); refine wpl_load (by rfl) 24 (.tmp 2) rfl R (by rfl) 24 #[.slice au fs.length cu] (0, 0) _ b1 Tryd.underlying24 rfl (info1 _) ?_)
  refine Calls.mono (lawShort w1 _ fs (hF.ext X1)) ?_
  rintro e w2 ⟨v1, rfl, own1, x2⟩
  have b2 := x2.keeps b1
  have b3 := hfin w2 R _ b2 v1
  have hS := shortF_ok fs
  generalize hSS : shortF fs = S at *
  obtain ⟨a1, c1, rfl⟩ : ∃ a1 c1, v1 = .slice a1 S.length c1 := by obtain ⟨_, a, c, rfl, _⟩ := IsSl.of_owns own1; exact ⟨a, c, rfl⟩
  have hone1 := slice_one a1 S.length c1
  have X2 := X1.trans x2
  have X3 : Ext w (w2.setRow R #[.slice a1 S.length c1]) := X2.grown grown_row1 (fun k hk => by cases hk; omega)
  have F3 : IsF (w2.setRow R #[.slice a1 S.length c1]) (.slice a1 S.length c1) S := owns_isF (own1.kept grown_row1 (.inr (own_neT own1 b2 (by decide)))) hS
  go_wp2_with first
    | ((with_reducible refine at_store 24 (.tmp 2) (.tmp 19) ?_); refine wpl_store (by rfl) 24 (.tmp 2) (.tmp 19) rfl R #[.slice a1 S.length c1] (by rfl) (by rfl) 24 _ b2 (info1 _) rfl hone1 ?_)
    | ((with_reducible refine at_load 24 (.tmp 2) ?_); refine wpl_load (by rfl) 24 (.tmp 2) rfl R (by rfl) 24 #[.slice a1 S.length c1] (0, 0) _ b3 Tryd.underlying24 rfl (info1 _) ?_)
  generalize w2.setRow R #[.slice a1 S.length c1] = w3 at *
  refine Calls.mono (lawShort w3 _ S F3) ?_
  rintro e w4 ⟨v2, rfl, own2, x4⟩
  rw [← hSS, short_twice, hSS] at own2
  obtain ⟨a2, c2, rfl⟩ : ∃ a2 c2, v2 = .slice a2 S.length c2 := by obtain ⟨_, a, c, rfl, _⟩ := IsSl.of_owns own2; exact ⟨a, c, rfl⟩
  have F4 := owns_isF own2 hS
  clear own1 own2 b1 b2 X1 X2 x1 x2
  have b4 := x4.keeps b3
  have b5 := blk_old (o := .cells #[.slice a2 S.length c2] 24) b4
  have t5 := blk_new (w := w4) (b := w4.heap.size) (o := .cells #[.slice a2 S.length c2] 24) rfl
  have x5 : Ext w4 (w4.alloc (.cells #[.slice a2 S.length c2] 24)) := (Ext.refl _).alloc _
  have F1 := (F3.ext x4).ext x5
  have F2 := F4.ext x5
  have X5 := (X3.trans x4).trans x5
  clear b3 b4 F3 F4 X3 x4 x5
  go_wp2_with fail
  generalize w4.alloc (.cells #[.slice a2 S.length c2] 24) = w5 at *
  generalize w4.heap.size = T at *
  refine Calls.mono (few' _ _ l (hE.ext X5)) ?_
  rintro e w6 ⟨vl, rfl, hl6, x6⟩
  go_wp2_with fail
  refine Calls.mono (few' _ _ l (hE.ext (X5.trans x6))) ?_
  rintro e w7 ⟨vw, rfl, hw7, x7⟩
  have hL : (fewL l).length ≤ 1000000 := by unfold fewL; rw [List.length_map, List.length_take]; omega
  generalize fewL l = L at *
  have HL := hl6.ext x7
  have x67 := x6.trans x7
  have b7 := x67.keeps b5
  have t7 := x67.keeps t5
  have F1 := F1.ext x67
  have F2 := F2.ext x67
  have X7 := X5.trans x67
  clear hl6 x6 x7 x67 b5 t5 X5
  go_wp2_with ((with_reducible refine at_load 24 (.tmp 2) ?_); refine wpl_load (by rfl) 24 (.tmp 2) rfl R (by rfl) 24 #[.slice a1 S.length c1] (0, 0) _ b7 Tryd.underlying24 rfl (info1 _) ?_)
  refine Calls.mono (editApply w7 _ S vl L F1 HL.isE hL) ?_
  rintro e w8 ⟨vs, rfl, own8, x8⟩
  obtain ⟨D, hD⟩ : ∃ D, applyL S L = D := ⟨_, rfl⟩
  rw [hD] at own8 ⊢
  have HD := Lib.hid hD
  clear hD
  obtain ⟨n8, hn8⟩ : ∃ n, D.1.length = n := ⟨_, rfl⟩
  rw [hn8] at own8
  have HN8 := Lib.hid hn8
  clear hn8
  obtain ⟨ap, cp, rfl⟩ : ∃ a c, vs = .slice a n8 c := by obtain ⟨_, a, c, rfl, _⟩ := IsSl.of_owns own8; exact ⟨a, c, rfl⟩
  have tP := blk_new (w := w8) (b := w8.heap.size) (o := .cells #[.slice ap n8 cp] 24) rfl
  have x8a : Ext w7 (w8.alloc (.cells #[.slice ap n8 cp] 24)) := x8.alloc _
  have own8 := own8.alloc (.cells #[.slice ap n8 cp] 24)
  have b8 := x8a.keeps b7
  have hP : w7.heap.size ≤ w8.heap.size := x8.size
  go_wp2_with ((with_reducible refine at_load 24 (.tmp 2) ?_); refine wpl_load (by rfl) 24 (.tmp 2) rfl R (by rfl) 24 #[.slice a1 S.length c1] (0, 0) _ b8 Tryd.underlying24 rfl (info1 _) ?_)
  have h79' := x8a.size
  generalize w8.alloc (.cells #[.slice ap n8 cp] 24) = w9 at *
  generalize w8.heap.size = P at *
  clear x8
  refine Calls.mono (editUndo w9 _ S vl L (F1.ext x8a) (HL.ext x8a).isE hL) ?_
  rintro e w10 ⟨vu, rfl, own10, x10⟩
  rw [HD.out]
  obtain ⟨U, hU⟩ : ∃ U, undoA S L = U := ⟨_, rfl⟩
  rw [hU] at own10
  have HU := Lib.hid hU
  clear hU
  obtain ⟨m8, hm8⟩ : ∃ n, U.length = n := ⟨_, rfl⟩
  rw [hm8] at own10
  have HM8 := Lib.hid hm8
  clear hm8
  obtain ⟨au', cu', rfl⟩ : ∃ a c, vu = .slice a m8 c := by obtain ⟨_, a, c, rfl, _⟩ := IsSl.of_owns own10; exact ⟨a, c, rfl⟩
  have own8 := owns_ext own8 x10
  have tP := x10.keeps tP
  have x10 := x8a.trans x10
  have h79 := h79'
  clear b8 x8a
  go_wp2_with fail
  refine Calls.mono (whole w10 _ _ L L (HL.ext x10) (hw7.ext x10).isE) ?_
  rintro e w11 ⟨rfl, x11⟩
  rw [decide_eq_true (rfl : L = L)]
  have own8 := owns_ext own8 x11
  have own10 := owns_ext own10 x11
  have tP := x11.keeps tP
  have x11 := x10.trans x11
  have b11 := x11.keeps b7
  have t11 := x11.keeps t7
  clear x10
  go_wp2_with first
    | ((with_reducible refine at_load 24 (.tmp 2) ?_); refine wpl_load (by rfl) 24 (.tmp 2) rfl R (by rfl) 24 #[.slice a1 S.length c1] (0, 0) _ b11 Tryd.underlying24 rfl (info1 _) ?_)
    | ((with_reducible refine at_load 24 (.tmp 5) ?_); refine wpl_load (by rfl) 24 (.tmp 5) rfl T (by rfl) 24 #[.slice a2 S.length c2] (0, 0) _ t11 Tryd.underlying24 rfl (info1 _) ?_)
  refine Calls.mono (refSame07 w11 _ _ S S (F1.ext x11) (F2.ext x11)) ?_
  rintro e w12 ⟨rfl, x12⟩
  rw [decide_eq_true (rfl : S = S)]
  have own8 := owns_ext own8 x12
  have own10 := owns_ext own10 x12
  have tP := x12.keeps tP
  have x12 := x11.trans x12
  clear x11 b11 t11
  have hPN := block_lt tP
  have tN := blk_new (w := w12) (b := w12.heap.size) (o := .cells #[.slice none 0 0] 24) rfl
  have x13 : Ext w12 (w12.alloc (.cells #[.slice none 0 0] 24)) := (Ext.refl _).alloc _
  have own8 := owns_ext own8 x13
  have own10 := owns_ext own10 x13
  have tP := x13.keeps tP
  have hN : w7.heap.size ≤ w12.heap.size := x12.size
  have x13 := x12.trans x13
  clear x12
  go_wp2_with fail
  have hPN : P ≠ w12.heap.size := Nat.ne_of_lt hPN
  generalize w12.alloc (.cells #[.slice none 0 0] 24) = w13 at *
  generalize w12.heap.size = N at *
  refine Calls.mono (refRight w13 _ L (hw7.ext x13).isE) ?_
  rintro e w14 ⟨rfl, x14⟩
  have own8 := owns_ext own8 x14
  have own10 := owns_ext own10 x14
  have tP := x14.keeps tP
  have tN := x14.keeps tN
  have x14 := x13.trans x14
  clear x13
  have cP := block_cell tP 0
  have cP : w14.cell? ⟨P, 0, none⟩ = some (.slice ap n8 cp) := by rw [cP]; rfl
  have hend : ∀ W, Ext w7 W → Below w.heap.size w W := fun W k => X7.trans k
  cases hc : chk L with
  | false =>
    have hDe : D = ([], 280) := by rw [← HD.out]; unfold applyL; rw [hc]; rfl
    subst hDe
    obtain rfl : 0 = n8 := HN8.out
    obtain rfl : 0 = m8 := by rw [← HM8.out, ← HU.out]; unfold undoA; rw [HD.out]; rfl
    go_wp2_with fail
    go_ret
    exact ⟨rfl, hend _ x14⟩
  | true =>
  have HC := Lib.hid hc
  clear hc
  have t14 := x14.keeps t7
  go_wp2_with ((with_reducible refine at_load 24 (.tmp 5) ?_); refine wpl_load (by rfl) 24 (.tmp 5) rfl T (by rfl) 24 #[.slice a2 S.length c2] (0, 0) _ t14 Tryd.underlying24 rfl (info1 _) ?_)
  refine Calls.mono (refRight07 w14 _ S (F2.ext x14)) ?_
  rintro e w15 ⟨rfl, x15⟩
  have own8 := owns_ext own8 x15
  have own10 := owns_ext own10 x15
  have tP := x15.keeps tP
  have tN := x15.keeps tN
  have cP := x15.cell cP
  have x15 := x14.trans x15
  have t15 := x15.keeps t7
  clear x14 t14
  cases hr : repoB S with
  | false =>
    have hDe : D = ([], 170) := by rw [← HD.out]; unfold applyL; rw [HC.out, hr]; rfl
    subst hDe
    obtain rfl : 0 = n8 := HN8.out
    obtain rfl : 0 = m8 := by rw [← HM8.out, ← HU.out]; unfold undoA; rw [HD.out]; rfl
    go_wp2_with fail
    go_ret
    exact ⟨rfl, hend _ x15⟩
  | true =>
  go_wp2_with ((with_reducible refine at_load 24 (.tmp 5) ?_); refine wpl_load (by rfl) 24 (.tmp 5) rfl T (by rfl) 24 #[.slice a2 S.length c2] (0, 0) _ t15 Tryd.underlying24 rfl (info1 _) ?_)
  refine Calls.mono (refApply w15 _ S vw L (F2.ext x15) (hw7.ext x15).isE hL HC.out hr) ?_
  rintro e w16 ⟨vm, rfl, own16, x16⟩
  rw [HD.out, HN8.out] at own16
  rw [HD.out]
  obtain ⟨am, cm, rfl⟩ : ∃ a c, vm = .slice a n8 c := by obtain ⟨_, a, c, rfl, _⟩ := IsSl.of_owns own16; exact ⟨a, c, rfl⟩
  have own8 := owns_ext own8 x16
  have own10 := owns_ext own10 x16
  have tP := x16.keeps tP
  have tN := x16.keeps tN
  have x16 := x15.trans x16
  clear x15 t15 cP
  have honeM := slice_one am n8 cm
  have tP := set_otherR (c := #[.slice am n8 cm]) tP hPN
  have tN2 := hfin _ N _ tN (.slice am n8 cm)
  have tN0 := tN
  have own8 := own8.kept (grown_row1 (g := N) (c := #[.slice am n8 cm])) (.inr (own_neT own8 tN (by decide)))
  have own10 := own10.kept (grown_row1 (g := N) (c := #[.slice am n8 cm])) (.inr (own_neT own10 tN (by decide)))
  have own16 := own16.kept (grown_row1 (g := N) (c := #[.slice am n8 cm])) (.inr (own_neT own16 tN (by decide)))
  have x17 := x16.grown (grown_row1 (g := N) (c := #[.slice am n8 cm])) (fun k hk => by cases hk; exact hN)
  have cP := block_cell tP 0
  have cP : (w16.setRow N #[.slice am n8 cm]).cell? ⟨P, 0, none⟩ = some (.slice ap n8 cp) := by rw [cP]; rfl
  by_cases hz : D.2 = 0
  · obtain ⟨_, _, _, _, hlg, _, hDe⟩ := apply_ok (fs := S) (l := L) (by rw [HD.out]; exact hz)
    have hback := edit_back (fs := S) (l := L) (by rw [HD.out]; exact hz)
    have hDf : D.1 = S.map (updF L) := by rw [← HD.out, hDe]
    have hUe : undoL S L = U := by rw [← HU.out]; unfold undoA; rw [HD.out, if_pos hz]
    have hok := undo_edOk hS hback.1
    rw [hUe] at hok
    have hfo := upd_flOk hS hlg
    rw [← hDf] at hfo
    have t17 := x17.keeps t7
    have FP : IsF (w16.setRow N #[.slice am n8 cm]) (.slice ap n8 cp) D.1 := owns_isF (by rw [HN8.out]; exact own8) hfo
    have FN : IsF (w16.setRow N #[.slice am n8 cm]) (.slice am n8 cm) D.1 := owns_isF (by rw [HN8.out]; exact own16) hfo
    have EU : IsE (w16.setRow N #[.slice am n8 cm]) (.slice au' m8 cu') U := ⟨IsSl.of_owns (by rw [HM8.out]; exact own10), hok⟩
    rw [hz]
    have hzz : (applyL S L).2 = 0 := by rw [HD.out]; exact hz
    clear hlg hDe hback hDf hfo tN
    go_wp2_with first
      | ((with_reducible refine at_store 24 (.tmp 13) (.tmp 53) ?_); refine wpl_store (by rfl) 24 (.tmp 13) (.tmp 53) rfl N #[.slice am n8 cm] (by rfl) (by rfl) 24 _ tN0 (info1 _) rfl honeM ?_)
      | ((with_reducible refine at_load 24 (.tmp 8) ?_); refine wpl_load (by rfl) 24 (.tmp 8) rfl P (by rfl) 24 #[.slice ap n8 cp] (0, 0) _ tP Tryd.underlying24 rfl (info1 _) ?_)
      | ((with_reducible refine at_load 24 (.tmp 13) ?_); refine wpl_load (by rfl) 24 (.tmp 13) rfl N (by rfl) 24 #[.slice am n8 cm] (0, 0) _ tN2 Tryd.underlying24 rfl (info1 _) ?_)
    generalize w16.setRow N #[.slice am n8 cm] = w17 at *
    refine Calls.mono (refSame07 w17 _ _ D.1 D.1 FP FN) ?_
    rintro e w18 ⟨rfl, x18⟩
    rw [decide_eq_true (rfl : D.1 = D.1)]
    have own8 := owns_ext own8 x18
    have own10 := owns_ext own10 x18
    have tP := x18.keeps tP
    have EU := EU.ext x18
    have x18 := x17.trans x18
    have t18 := x18.keeps t7
    clear x17 t17 tN2 FP FN tN0
    go_wp2_with ((with_reducible refine at_load 24 (.tmp 5) ?_); refine wpl_load (by rfl) 24 (.tmp 5) rfl T (by rfl) 24 #[.slice a2 S.length c2] (0, 0) _ t18 Tryd.underlying24 rfl (info1 _) ?_)
    refine Calls.mono (refUndo w18 _ S vw L (F2.ext x18) (hw7.ext x18).isE hL hzz) ?_
    rintro e w19 ⟨vr, rfl, own19, x19⟩
    rw [hUe] at own19
    have ER : IsE w19 vr U := ⟨IsSl.of_owns own19, hok⟩
    go_wp2_with fail
    refine Calls.mono (refSameE w19 _ _ U U (EU.ext x19) ER) ?_
    rintro e w20 ⟨rfl, x20⟩
    have x20 := x19.trans (toExt x20)
    rw [decide_eq_true (rfl : U = U)]
    have own8 := owns_ext own8 x20
    have own10 := owns_ext own10 x20
    have tP := x20.keeps tP
    have x20 := x18.trans x20
    clear x19 x18 t18 EU ER own19
    have rU := RowW.of_owns (ownsRow_base own10 h79)
    have rF := RowW.of_owns own8
    clear own8 own10
    go_wp2_with fail
    go_loopg [104] m8 (fun g s104 wr => ∃ k : Nat, k ≤ m8 ∧ m8 - k ≤ g ∧ s104 = .int .i64 (k : Int) ∧ RowW wr w7.heap.size 40 (.slice au' m8 cu') m8 4 ∧ RowW wr w7.heap.size 42 (.slice ap n8 cp) n8 2 ∧ wr.heap[P]? = some (.cells #[.slice ap n8 cp] 24 (0, 0)) ∧ Ext w7 wr)
    case atStart => exact ⟨0, by omega, by omega, rfl, rU, rF, tP, x20⟩
    case round =>
      clear rU rF tP x20
      obtain ⟨k, hk, hg, rfl, rU, rF, tP, xr⟩ := hrel
      by_cases hlt : k < m8
      · have rU2 := rU
        rcases rU with rU | ⟨gu, cap, c, e1, h1, h2, h3, h4, h5⟩
        · omega
        · simp only [Value.slice.injEq, true_and] at e1
          obtain ⟨rfl, rfl⟩ := e1
          have f0 := block_free h4 (k * 4)
          have k0 : wr.cell? ⟨gu, k * 4, none⟩ = some (c[k * 4]'(by omega)) := by rw [block_cell h4]; exact Array.getElem?_eq_getElem _
          go_wp2_with fail
          go_roundg (m8 - (k + 1))
          case measure => omega
          case rel => exact ⟨k + 1, by omega, by omega, by go_num, rU2.set _ _ _, rF.set _ _ _, set_other tP (heap_ne tP h4 (by decide)), xr.setCell (p := ⟨gu, k * 4, none⟩) h3 _⟩
      · obtain rfl : k = m8 := by omega
        clear rU
        have cP := block_cell tP 0
        have cP : wr.cell? ⟨P, 0, none⟩ = some (.slice ap n8 cp) := by rw [cP]; rfl
        go_wp2_with fail
        go_loopg [115] n8 (fun g s115 wr => ∃ k : Nat, k ≤ n8 ∧ n8 - k ≤ g ∧ s115 = .int .i64 (k : Int) ∧ RowW wr w7.heap.size 42 (.slice ap n8 cp) n8 2 ∧ wr.heap[P]? = some (.cells #[.slice ap n8 cp] 24 (0, 0)) ∧ Ext w7 wr)
        case atStart => exact ⟨0, by omega, by omega, rfl, rF, tP, xr⟩
        case round =>
          clear rF tP xr cP
          obtain ⟨j, hj, hgj, rfl, rF, tP, xr⟩ := hrel
          have cP := block_cell tP 0
          have cP : wr.cell? ⟨P, 0, none⟩ = some (.slice ap n8 cp) := by rw [cP]; rfl
          by_cases hlt : j < n8
          · have rF2 := rF
            rcases rF with rF | ⟨gf, cap, c, e1, h1, h2, h3, h4, h5⟩
            · omega
            · simp only [Value.slice.injEq, true_and] at e1
              obtain ⟨rfl, rfl⟩ := e1
              have f0 := block_free h4 (j * 2)
              have k0 : wr.cell? ⟨gf, j * 2, none⟩ = some (c[j * 2]'(by omega)) := by rw [block_cell h4]; exact Array.getElem?_eq_getElem _
              go_wp2_with fail
              go_roundg (n8 - (j + 1))
              case measure => omega
              case rel => exact ⟨j + 1, by omega, by omega, by go_num, rF2.set _ _ _, set_other tP (heap_ne tP h4 (by decide)), xr.setCell (p := ⟨gf, j * 2, none⟩) h3 _⟩
          · obtain rfl : j = n8 := by omega
            clear rF cP tP
            go_wp2_with fail
            refine Calls.mono (whole wr _ _ L L (HL.ext xr) (hw7.ext xr).isE) ?_
            rintro e w21 ⟨rfl, x21⟩
            rw [decide_eq_true (rfl : L = L)]
            have x21 := xr.trans x21
            have b21 := x21.keeps b7
            have t21 := x21.keeps t7
            go_wp2_with first
              | ((with_reducible refine at_load 24 (.tmp 2) ?_); refine wpl_load (by rfl) 24 (.tmp 2) rfl R (by rfl) 24 #[.slice a1 S.length c1] (0, 0) _ b21 Tryd.underlying24 rfl (info1 _) ?_)
              | ((with_reducible refine at_load 24 (.tmp 5) ?_); refine wpl_load (by rfl) 24 (.tmp 5) rfl T (by rfl) 24 #[.slice a2 S.length c2] (0, 0) _ t21 Tryd.underlying24 rfl (info1 _) ?_)
            refine Calls.mono (refSame07 w21 _ _ S S (F1.ext x21) (F2.ext x21)) ?_
            rintro e w22 ⟨rfl, x22⟩
            rw [decide_eq_true (rfl : S = S)]
            go_wp2_with fail
            go_ret
            exact ⟨rfl, hend _ (x21.trans x22)⟩
  · obtain ⟨E, hE2⟩ : ∃ E, D.2 = E := ⟨_, rfl⟩
    have h0 : D.1 = [] := by
      have := @apply_err S L
      rw [HD.out] at this
      exact this hz
    have hu0 : U = [] := by rw [← HU.out]; unfold undoA; rw [HD.out, if_neg hz]
    rw [hE2] at hz ⊢
    obtain rfl : 0 = n8 := by rw [← HN8.out, h0]; rfl
    obtain rfl : 0 = m8 := by rw [← HM8.out, hu0]; rfl
    have hz1 : (E == 0) = false := beq_eq_false_iff_ne.2 hz
    go_wp2_with ((with_reducible refine at_store 24 (.tmp 13) (.tmp 53) ?_); refine wpl_store (by rfl) 24 (.tmp 13) (.tmp 53) rfl N #[.slice am 0 cm] (by rfl) (by rfl) 24 _ tN (info1 _) rfl honeM ?_)
    go_ret
    exact ⟨rfl, hend _ x17⟩
end Go.Proofs.YtgcbkhmaabmdjaaDoor
