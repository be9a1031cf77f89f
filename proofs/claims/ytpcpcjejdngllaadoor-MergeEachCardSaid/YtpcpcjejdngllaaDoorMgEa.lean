/- The walk of the statement MergeEach. -/
import Derived.Test.YtpcpcjejdngllaaDoorMgFe
import Derived.Test.YtpcpcjejdngllaaDoorMgTh
import Derived.Test.YtpcpcjejdngllaaDoorMgGt
import Derived.Test.YtpcpcjejdngllaaDoorMgMp
import Derived.Test.YtpcpcjejdngllaaDoorMgR
import Derived.Maps.OwnSet
namespace Go.Proofs.YtpcpcjejdngllaaDoor
open Go.RowKit Go.Maps
set_option linter.unusedVariables false
set_option linter.unusedSimpArgs false

theorem ret_bool2 {a b : Bool} (h : a = b) : Ending.returned (.bool a) = Ending.returned (.bool b) := by rw [h]
theorem mergeL_ok {f0 f1 f2 : List Fl} (h0 : ∀ f ∈ f0, flOk f) (h1 : ∀ f ∈ f1, flOk f) (h2 : ∀ f ∈ f2, flOk f) : ∀ f ∈ (mergeL f0 f1 f2).1, flOk f := by
  unfold mergeL
  split
  · intro f hf; cases hf
  · split
    · intro f hf; cases hf
    · split
      · intro f hf; cases hf
      · exact mgdM_ok h0 h1 h2
theorem mergeL_cases (f0 f1 f2 : List Fl) : mergeL f0 f1 f2 = ([], [], 170) ∨ mergeL f0 f1 f2 = ([], [], 6) ∨ (∃ C, 0 < C.length ∧ mergeL f0 f1 f2 = ([], C, 0)) ∨ ∃ R, mergeL f0 f1 f2 = (R, [], 0) := by
  unfold mergeL
  split
  · exact .inl rfl
  · split
    · rename_i h; exact .inr (.inr (.inl ⟨_, h, rfl⟩))
    · split
      · exact .inr (.inl rfl)
      · exact .inr (.inr (.inr ⟨_, rfl⟩))
theorem changed_ok {f0 f1 : List Fl} (h0 : repoB f0 = true) (h1 : repoB f1 = true) : changedL f0 f1 = (chL f0 f1, 0) := by
  have e : pathsL [f0, f1, []] = pathsL [f0, f1] := by unfold pathsL allP; simp
  have e2 : chxL (trosL f0 f1 [] (pathsL [f0, f1, []])) = chL f0 f1 := by
    rw [e]
    unfold chxL trosL chL
    rw [List.filter_map, List.map_map]
    have : Prod.fst ∘ (fun p => ((p, atM f0 p, atM f1 p, atM [] p) : Tr)) = id := rfl
    rw [this, List.map_id]
    rfl
  unfold changedL
  rw [h0, h1, e2]
  rfl
theorem chL_size {f0 f1 : List Fl} (h0 : ∀ f ∈ f0, flOk f) (h1 : ∀ f ∈ f1, flOk f) {p : ByteArray} (h : p ∈ chL f0 f1) : p.size ≤ 140737488355328 := by
  have := (List.mem_filter.1 h).1
  obtain ⟨fs, h3, g, h4, rfl⟩ := mem_allP ((pathsL_mem _ _).1 this)
  simp only [List.mem_cons, List.not_mem_nil, or_false] at h3
  rcases h3 with rfl | rfl
  · exact (h0 g h4).1
  · exact (h1 g h4).1
theorem chL_len (f0 f1 : List Fl) : (chL f0 f1).length ≤ f0.length + f1.length := by
  unfold chL pathsL
  refine Nat.le_trans (List.length_filter_le _ _) ?_
  have := foldP_len (allP [f0, f1]) []
  simp [allP] at this
  simp [allP]
  omega
/-- The number at a path: 1 for one's, 2 for the other's, 3 for both. -/
def FV (a t : Prop) (c : Int) : Prop := (a → t → c = 3) ∧ (a → ¬t → c = 1) ∧ (¬a → t → c = 2) ∧ (¬a → ¬t → c = 0)
theorem nodup_take {l : List ByteArray} (h : l.Nodup) {k : Nat} (hk : k < l.length) : l[k] ∉ l.take k := by
  intro hm
  obtain ⟨i, hi, e⟩ := List.getElem_of_mem hm
  rw [List.getElem_take] at e
  have hik : i < k := by rw [List.length_take] at hi; omega
  exact (List.pairwise_iff_getElem.1 h i k (by omega) hk hik) e
theorem mem_take_succ {l : List ByteArray} {k : Nat} (hk : k < l.length) : ∀ p, p ∈ l.take (k + 1) ↔ p ∈ l.take k ∨ p = l[k] := fun p => by
  rw [List.take_succ_eq_append_getElem hk, List.mem_append, List.mem_singleton]
open scoped Classical in
theorem mem_ite {L : List ByteArray} {x p : ByteArray} : p ∈ (if x ∈ L then L else x :: L) ↔ p = x ∨ p ∈ L := by
  split
  · rename_i h; exact ⟨.inr, fun q => q.elim (fun e => by rw [e]; exact h) id⟩
  · exact List.mem_cons
theorem MapV.at {D : DataW Unit} {L : List ByteArray} {f : ByteArray → Int} (h : MapV D L f) {x : ByteArray} {c : Int} (e : D.atKey (Kp x) (.lit (.int .i64 0)) = .lit (.int .i64 c)) : c = f x := by
  have := h.val x
  rw [e] at this
  injection this with this
  injection this
theorem ownsMap_ext {P : Program} {k : TypeId} {R : Value → Option (DataW Unit × List MemPlace)} {w w' : World} {b n : Nat} {D : DataW Unit} (h : w.ownsMap P k R b n D) (x : Ext w w') : w'.ownsMap P k R b n D := by
  obtain ⟨es, clock, hb, F, hs, hD⟩ := h
  exact ⟨es, clock, x.keeps hb, F, hs, hD⟩
theorem zeroI (w : World) : (zeroValue 3).run Tryd.prog w = .ok (.int .i64 0) w := by kernel_rfl
theorem mapLaw : Keyed Tryd.prog 9 := string_keyed Tryd.underlying9
set_option maxHeartbeats 16000000 in
set_option maxRecDepth 100000 in
theorem walkMergeEachI (w : World) (u0 u1 u2 : Value) (f0 f1 f2 : List Fl) (h0 : IsF w u0 f0) (h1 : IsF w u1 f1) (h2 : IsF w u2 f2) :
    Calls Tryd.prog 8 #[.agg #[u0, u1, u2]] w fun e w' => e = .returned (.bool true) ∧ Ext w w' := by
  obtain ⟨a0, c0, rfl, _, _, _, _⟩ := h0.opened
  obtain ⟨a1, c1, rfl, _, _, _, _⟩ := h1.opened
  obtain ⟨a2, c2, rfl, _, _, _, _⟩ := h2.opened
  have b0 := heap_alloc_new w (.cells #[.slice a0 f0.length c0, .slice a1 f1.length c1, .slice a2 f2.length c2] 26)
  have X := (Ext.refl w).alloc (.cells #[.slice a0 f0.length c0, .slice a1 f1.length c1, .slice a2 f2.length c2] 26)
  have h0 := h0.ext X
  have h1 := h1.ext X
  have h2 := h2.ext X
  go_enter Tryd.func8, Tryd.ntmps8
  go_wp2_with fail
  generalize w.alloc (.cells #[.slice a0 f0.length c0, .slice a1 f1.length c1, .slice a2 f2.length c2] 26) = w1 at *
  obtain ⟨B, hB⟩ : ∃ B, w.heap.size = B := ⟨_, rfl⟩
  have hBw : w.heap.size ≤ B := by omega
  rw [hB] at b0
  rw [hB]
  clear hB
  refine Calls.mono (mWakes _) ?_
  rintro e w2 ⟨rfl, x1⟩
  have X := X.trans x1
  have b0 := x1.keeps b0
  have h0 := h0.ext x1
  have h1 := h1.ext x1
  have h2 := h2.ext x1
  clear x1
  have k0 : w2.cell? ⟨B, 0, none⟩ = some (.slice a0 f0.length c0) := by rw [block_cell b0]; rfl
  have k1 : w2.cell? ⟨B, 1, none⟩ = some (.slice a1 f1.length c1) := by rw [block_cell b0]; rfl
  have k2 : w2.cell? ⟨B, 2, none⟩ = some (.slice a2 f2.length c2) := by rw [block_cell b0]; rfl
  go_wp2_with fail
  refine Calls.mono (lawFew w2 _ _ _ f0 f1 f2 h0 h1 h2) ?_
  rintro e w3 ⟨v0, v1, v2, rfl, o0, o1, o2, x⟩
  have X := X.trans x
  have b0 := x.keeps b0
  clear k0 k1 k2 x h0 h1 h2
  obtain ⟨a3, c3, rfl⟩ := slice_shape o0
  obtain ⟨a4, c4, rfl⟩ := slice_shape o1
  obtain ⟨a5, c5, rfl⟩ := slice_shape o2
  have gr := grown_rowM (w := w3) (g := B) (c := #[.slice a3 (shortF f0).length c3, .slice a4 (shortF f1).length c4, .slice a5 (shortF f2).length c5])
  have H0 := isF_own (o0.kept gr (.inr (own_neU o0 b0 (by decide)))) (shortF_ok f0)
  have H1 := isF_own (o1.kept gr (.inr (own_neU o1 b0 (by decide)))) (shortF_ok f1)
  have H2 := isF_own (o2.kept gr (.inr (own_neU o2 b0 (by decide)))) (shortF_ok f2)
  have X := X.grown gr (fun k hk => by cases hk; exact hBw)
  have b4 := setRow_heap w3 B _ #[.slice a3 (shortF f0).length c3, .slice a4 (shortF f1).length c4, .slice a5 (shortF f2).length c5] _ _ b0
  clear o0 o1 o2 gr
  go_wp2_with ((with_reducible refine at_store 26 (.tmp 1) (.tmp 27) ?_); refine wpl_store (by rfl) 26 (.tmp 1) (.tmp 27) rfl B #[.slice a3 (shortF f0).length c3, .slice a4 (shortF f1).length c4, .slice a5 (shortF f2).length c5] (by rfl) (by rfl) 26 _ b0 (info3M _ _ _) rfl (by simp [Value.oneCell']) ?_; generalize hW4 : w3.setRow B #[.slice a3 (shortF f0).length c3, .slice a4 (shortF f1).length c4, .slice a5 (shortF f2).length c5] = w4 at *; have k0 : w4.cell? ⟨B, 0, none⟩ = some (.slice a3 (shortF f0).length c3) := (by rw [block_cell b4]; rfl); have k1 : w4.cell? ⟨B, 1, none⟩ = some (.slice a4 (shortF f1).length c4) := (by rw [block_cell b4]; rfl); have k2 : w4.cell? ⟨B, 2, none⟩ = some (.slice a5 (shortF f2).length c5) := (by rw [block_cell b4]; rfl))
  have OK := mergeL_ok H0.ok H1.ok H2.ok
  refine Calls.mono (mergeMerge w4 _ _ _ _ _ _ H0 H1 H2) ?_
  rintro e w5 ⟨vr, vc, rfl, ownR, ownC, x5⟩
  generalize shortF f0 = s0 at *
  generalize shortF f1 = s1 at *
  generalize shortF f2 = s2 at *
  obtain ⟨D, hD⟩ : ∃ D, mergeL s0 s1 s2 = D := ⟨_, rfl⟩
  rw [hD] at OK ownR ownC
  rw [hD]
  have MC := mergeL_cases s0 s1 s2
  rw [hD] at MC
  have HD := Lib.hid hD
  clear hD b0 b4 hW4
  obtain ⟨R, C, er⟩ := D
  dsimp only at OK ownR ownC ⊢
  have HOK := Lib.hid OK
  clear OK
  obtain ⟨ra, rc, rfl⟩ := slice_shape ownR
  obtain ⟨ca, cc, rfl⟩ := slice_shape ownC
  have IR := isF_own ownR HOK.out
  have bR := heap_alloc_new w5 (.cells #[.slice ra R.length rc] 24)
  have y := (Ext.refl w5).alloc (.cells #[.slice ra R.length rc] 24)
  have IR := IR.ext y
  have r0 := (block_cell bR 0).trans (show _ = some (Value.slice ra R.length rc) from rfl)
  have y := x5.trans y
  have k0 := y.cell k0
  have k1 := y.cell k1
  have k2 := y.cell k2
  have H0 := H0.ext y
  have H1 := H1.ext y
  have H2 := H2.ext y
  have X := X.trans y
  clear y x5 ownR ownC bR
  simp only [Prod.mk.injEq] at MC
  rcases MC with ⟨rfl, rfl, rfl⟩ | ⟨rfl, rfl, rfl⟩ | ⟨C', hC', rfl, rfl, rfl⟩ | ⟨R', rfl, rfl, rfl⟩
  · go_wp2_with fail
    go_ret
    exact ⟨rfl, X⟩
  · go_wp2_with fail
    go_ret
    exact ⟨rfl, X⟩
  · have hp2 : (0 : Int) < (C.length : Int) := by omega
    go_wp2_with fail
    go_ret
    exact ⟨rfl, X⟩
  · have hm := HD.out
    obtain ⟨-, -, hrr, hb⟩ := merge_at hm ByteArray.empty
    have hb2 := hb
    simp only [Bool.and_eq_true] at hb2
    obtain ⟨hb0, hb1, hb2⟩ := hb2
    have HM := Lib.hid (merge_changes hm)
    clear hm hb
    have hw6 := X.size
    have hmm := @run_makeMap Tryd.prog
    go_wp2_with fail
    generalize w5.alloc (.cells #[.slice ra R.length rc] 24) = w6 at *
    generalize w5.heap.size = N1 at *
    have EC := mergeChanged w6 _ _ s0 s1 H0 H1
    rw [changed_ok hb0 hb1] at EC
    refine Calls.mono EC ?_
    rintro e w6x ⟨vv, rfl, ownv, y⟩
    obtain ⟨av1, cv1, rfl⟩ := slice_shape ownv
    have I1 : IsStr w6x (.slice av1 (chL s0 s1).length cv1) (chL s0 s1) := IsSl.of_owns ownv
    have k0 := y.cell k0
    have k1 := y.cell k1
    have k2 := y.cell k2
    have r0 := y.cell r0
    have H0 := H0.ext y
    have H1 := H1.ext y
    have H2 := H2.ext y
    have IR := IR.ext y
    have X := X.trans y
    clear y EC ownv
    have EC := mergeChanged w6x _ _ s0 s2 H0 H2
    rw [changed_ok hb0 hb2] at EC
    go_wp2_with fail
    refine Calls.mono EC ?_
    rintro e w6xx ⟨vv, rfl, ownv, y⟩
    obtain ⟨av2, cv2, rfl⟩ := slice_shape ownv
    have I2 : IsStr w6xx (.slice av2 (chL s0 s2).length cv2) (chL s0 s2) := IsSl.of_owns ownv
    have k0 := y.cell k0
    have k1 := y.cell k1
    have k2 := y.cell k2
    have r0 := y.cell r0
    have H0 := H0.ext y
    have H1 := H1.ext y
    have H2 := H2.ext y
    have IR := IR.ext y
    have I1 := I1.ext y
    have X := X.trans y
    clear y EC ownv
    have EC := mergeChanged w6xx _ _ s0 R H0 IR
    rw [changed_ok hb0 hrr] at EC
    go_wp2_with fail
    refine Calls.mono EC ?_
    rintro e w6xxx ⟨vv, rfl, ownv, y⟩
    obtain ⟨av3, cv3, rfl⟩ := slice_shape ownv
    have I3 : IsStr w6xxx (.slice av3 (chL s0 R).length cv3) (chL s0 R) := IsSl.of_owns ownv
    have k0 := y.cell k0
    have k1 := y.cell k1
    have k2 := y.cell k2
    have r0 := y.cell r0
    have H0 := H0.ext y
    have H1 := H1.ext y
    have H2 := H2.ext y
    have IR := IR.ext y
    have I1 := I1.ext y
    have I2 := I2.ext y
    have X := X.trans y
    clear y EC ownv

    go_wp2_with fail
    have hown0 := World.ownsMap_made w6xxx Tryd.prog 9 (plainElem (H := Unit) Tryd.prog 3)
    have hx7 := (Ext.refl w6xxx).alloc (.map #[] 0)
    have S1 : ∀ p ∈ chL s0 s1, p.size ≤ maxLen := fun p hp => Nat.le_trans (chL_size H0.ok H1.ok hp) (by unfold maxLen; omega)
    have S2 : ∀ p ∈ chL s0 s2, p.size ≤ maxLen := fun p hp => Nat.le_trans (chL_size H0.ok H2.ok hp) (by unfold maxLen; omega)
    have S3 : ∀ p ∈ chL s0 R, p.size ≤ maxLen := fun p hp => Nat.le_trans (chL_size H0.ok IR.ok hp) (by unfold maxLen; omega)
    have ND1 := chL_nodup s0 s1
    have ND2 := chL_nodup s0 s2
    have ND3 := chL_nodup s0 R
    have N1' := chL_len s0 s1
    have N2' := chL_len s0 s2
    have e0 := repo_len hb0
    have e1 := repo_len hb1
    have e2 := repo_len hb2
    have HMM := HM.out
    have GE1 : ∀ p, p ∈ chL s0 s1 → getE R p = getE s1 p := fun p hp => by
      unfold getE; rw [hrr, hb1, (HMM p).2.1 hp]
    have GE2 : ∀ p, p ∈ chL s0 s2 → getE R p = getE s2 p := fun p hp => by
      unfold getE; rw [hrr, hb2, (HMM p).2.2 hp]
    have HG1 := Lib.hid GE1
    have HG2 := Lib.hid GE2
    have HRR := Lib.hid hrr
    clear GE1 GE2
    generalize chL s0 s1 = A1 at *
    generalize chL s0 s2 = A2 at *
    generalize chL s0 R = A3 at *
    obtain ⟨_, _, e1, hc1, hm1, _, g1⟩ := I1.opened
    simp only [Value.slice.injEq, true_and] at e1
    obtain ⟨rfl, rfl⟩ := e1
    obtain ⟨_, _, e1, hc2, hm2, _, g2⟩ := I2.opened
    simp only [Value.slice.injEq, true_and] at e1
    obtain ⟨rfl, rfl⟩ := e1
    obtain ⟨_, _, e1, hc3, hm3, _, g3⟩ := I3.opened
    simp only [Value.slice.injEq, true_and] at e1
    obtain ⟨rfl, rfl⟩ := e1
    have G1 := Lib.hid g1
    have G2 := Lib.hid g2
    have G3 := Lib.hid g3
    have HS1 := Lib.hid S1
    have HS2 := Lib.hid S2
    have HS3 := Lib.hid S3
    have HMC := Lib.hid (fun p => (HMM p).1)
    clear HMM
    clear g1 g2 g3 I1 I2 I3 S1 S2 S3 HM HD HOK
    generalize w6xxx.alloc (.map #[] 0) = w7 at *
    obtain ⟨N, hN⟩ : ∃ N, w6xxx.heap.size = N := ⟨_, rfl⟩
    have hNle : w6xxx.heap.size ≤ N := by omega
    rw [hN] at hown0
    rw [hN]
    clear hN
    go_loopg [86] A1.length (fun g s86 wr => ∃ (k : Nat) (D : DataW Unit) (L : List ByteArray) (f : ByteArray → Int), k ≤ A1.length ∧ A1.length - k ≤ g ∧ s86 = .int .i64 (k : Int) ∧ wr.ownsMap Tryd.prog 9 (plainElem Tryd.prog 3) N k D ∧ MapV D L f ∧ (∀ p, p ∈ L ↔ p ∈ A1.take k) ∧ (∀ p, p ∈ A1.take k → f p = 1) ∧ (∀ p, p ∉ A1.take k → f p = 0) ∧ Ext w6xxx wr)
    case atStart => exact ⟨0, _, _, _, by omega, by omega, rfl, hown0, MapV.empty, fun p => by simp, fun p hp => by simp at hp, fun p _ => rfl, hx7⟩
    case round =>
      clear hown0 hx7
      obtain ⟨k, D, L, f, hk, hg, rfl, hown, hV, hL, hf1, hf0, xr⟩ := hrel
      by_cases hlt : k < A1.length
      · obtain ⟨pb, o, rfl, e0⟩ := G1.out k hlt
        have e0 := xr.cell e0
        have hkey : keyOf Tryd.prog 9 (.string A1[k]) = some (Kp A1[k]) := Go.WideMaps.keyOf_string_mk Tryd.underlying9 (HS1.out _ (List.getElem_mem hlt))
        have hnt : A1[k] ∉ A1.take k := nodup_take ND1 hlt
        have hfx : f A1[k] = 0 := hf0 _ hnt
        have HT := Lib.hid (mem_take_succ hlt)
        have HNX := Lib.hid hnt
        have HF1 := Lib.hid hf1
        have HF0 := Lib.hid hf0
        have HLL := Lib.hid hL
        clear hf1 hf0 hL hnt
        generalize A1[k] = x at *
        have hxx := xr.size
        go_wp2_with (first
          | (at_lookup; refine wpList_lookup_own_int _ rfl _ _ 53 rfl 9 3 .i64 mapLaw Tryd.underlying53 Tryd.underlying3 (zeroI _) N k _ rfl hown _ _ rfl hkey ?_; intro c hat hwc; obtain rfl : c = 0 := (hV.at hat).trans hfx)
          | (at_mapUpdate; refine wpList_mapUpdate_own _ rfl _ _ _ 53 rfl 9 3 mapLaw Tryd.underlying53 _ N k _ rfl hown (by unfold maxLen; omega) _ _ _ rfl rfl hkey _ [] (plainElem_int (q := .i64) (a := 1) Tryd.underlying3 rfl) ?_; intro w8 hown8 hgrow8)
          | fail)
        go_roundg (A1.length - (k + 1))
        case measure => omega
        case rel =>
          refine ⟨k + 1, _, _, _, by omega, by omega, by go_num, hown8, hV.put x 1, fun p => ?_, fun p hp => ?_, fun p hp => ?_, xr.grown hgrow8 (fun j hj => by cases hj; omega)⟩
          · rw [HT.out, mem_ite, HLL.out]
            exact ⟨fun h => h.elim .inr .inl, fun h => h.elim .inr .inl⟩
          · rw [HT.out] at hp
            by_cases e : p = x
            · exact if_pos e
            · rw [if_neg e]; exact HF1.out p (hp.resolve_right e)
          · rw [HT.out] at hp
            rw [if_neg (fun e => hp (.inr e))]
            exact HF0.out p (fun h => hp (.inl h))
      · obtain rfl : k = A1.length := by omega
        rw [List.take_of_length_le (Nat.le_refl _)] at hL hf1 hf0
        obtain ⟨wL, rfl⟩ : ∃ x, x = wr := ⟨_, rfl⟩
        have hFF : ∀ p, FV (p ∈ A1) (p ∈ A2.take 0) (f p) := fun p => ⟨fun _ h => by simp at h, fun h _ => hf1 p h, fun _ h => by simp at h, fun h _ => hf0 p h⟩
        have hL0 : ∀ p, p ∈ L ↔ p ∈ A1 ∨ p ∈ A2.take 0 := fun p => by simp [hL p]
        clear hL hf1 hf0
        go_wp2_with fail
        go_loopg [97] A2.length (fun g s97 wr => ∃ (k : Nat) (D : DataW Unit) (L : List ByteArray) (f : ByteArray → Int), k ≤ A2.length ∧ A2.length - k ≤ g ∧ s97 = .int .i64 (k : Int) ∧ wr.ownsMap Tryd.prog 9 (plainElem Tryd.prog 3) N (A1.length + k) D ∧ MapV D L f ∧ (∀ p, p ∈ L ↔ p ∈ A1 ∨ p ∈ A2.take k) ∧ (∀ p, FV (p ∈ A1) (p ∈ A2.take k) (f p)) ∧ Ext w6xxx wr)
        case atStart => exact ⟨0, _, _, _, by omega, by omega, rfl, hown, hV, hL0, hFF, xr⟩
        case round =>
          clear hown hV hL0 hFF xr
          obtain ⟨k, D, L, f, hk, hg, rfl, hown, hV, hL, hF, xr⟩ := hrel
          by_cases hlt : k < A2.length
          · obtain ⟨pb, o, rfl, e0⟩ := G2.out k hlt
            have e0 := xr.cell e0
            have hkey : keyOf Tryd.prog 9 (.string A2[k]) = some (Kp A2[k]) := Go.WideMaps.keyOf_string_mk Tryd.underlying9 (HS2.out _ (List.getElem_mem hlt))
            have hnt : A2[k] ∉ A2.take k := nodup_take ND2 hlt
            have hfv := hF A2[k]
            have HT := Lib.hid (mem_take_succ hlt)
            have HFF := Lib.hid hF
            have HLL := Lib.hid hL
            clear hF hL
            generalize A2[k] = x at *
            have hxx := xr.size
            by_cases hxa : x ∈ A1
            · have hfx : f x = 1 := hfv.2.1 hxa hnt
              clear hfv hnt
              go_wp2_with (first
                | (at_lookup; refine wpList_lookup_own_int _ rfl _ _ 53 rfl 9 3 .i64 mapLaw Tryd.underlying53 Tryd.underlying3 (zeroI _) N (A1.length + k) _ rfl hown _ _ rfl hkey ?_; intro c hat hwc; obtain rfl : c = 1 := (hV.at hat).trans hfx)
                | (at_mapUpdate; refine wpList_mapUpdate_own _ rfl _ _ _ 53 rfl 9 3 mapLaw Tryd.underlying53 _ N (A1.length + k) _ rfl hown (by unfold maxLen; omega) _ _ _ rfl rfl hkey _ [] (plainElem_int (q := .i64) (a := 3) Tryd.underlying3 rfl) ?_; intro w8 hown8 hgrow8)
                | fail)
              go_roundg (A2.length - (k + 1))
              case measure => omega
              case rel =>
                refine ⟨k + 1, _, _, _, by omega, by omega, by go_num, hown8, hV.put x 3, fun p => ?_, fun p => ?_, xr.grown hgrow8 (fun j hj => by cases hj; omega)⟩
                · rw [HT.out, mem_ite, HLL.out]
                  constructor
                  · rintro (h | h | h)
                    · exact .inr (.inr h)
                    · exact .inl h
                    · exact .inr (.inl h)
                  · rintro (h | h | h)
                    · exact .inr (.inl h)
                    · exact .inr (.inr h)
                    · exact .inl h
                · rw [HT.out]
                  by_cases e : p = x
                  · subst e
                    rw [if_pos rfl]
                    exact ⟨fun a _ => rfl, fun _ h => absurd (.inr rfl) h, fun a _ => absurd hxa a, fun _ h => absurd (.inr rfl) h⟩
                  · rw [if_neg e]
                    obtain ⟨v1, v2, v3, v4⟩ := HFF.out p
                    exact ⟨fun a t => v1 a (t.resolve_right e), fun a t => v2 a (fun h => t (.inl h)), fun a t => v3 a (t.resolve_right e), fun a t => v4 a (fun h => t (.inl h))⟩
            · have hfx : f x = 0 := hfv.2.2.2 hxa hnt
              clear hfv hnt
              go_wp2_with (first
                | (at_lookup; refine wpList_lookup_own_int _ rfl _ _ 53 rfl 9 3 .i64 mapLaw Tryd.underlying53 Tryd.underlying3 (zeroI _) N (A1.length + k) _ rfl hown _ _ rfl hkey ?_; intro c hat hwc; obtain rfl : c = 0 := (hV.at hat).trans hfx)
                | (at_mapUpdate; refine wpList_mapUpdate_own _ rfl _ _ _ 53 rfl 9 3 mapLaw Tryd.underlying53 _ N (A1.length + k) _ rfl hown (by unfold maxLen; omega) _ _ _ rfl rfl hkey _ [] (plainElem_int (q := .i64) (a := 2) Tryd.underlying3 rfl) ?_; intro w8 hown8 hgrow8)
                | fail)
              go_roundg (A2.length - (k + 1))
              case measure => omega
              case rel =>
                refine ⟨k + 1, _, _, _, by omega, by omega, by go_num, hown8, hV.put x 2, fun p => ?_, fun p => ?_, xr.grown hgrow8 (fun j hj => by cases hj; omega)⟩
                · rw [HT.out, mem_ite, HLL.out]
                  constructor
                  · rintro (h | h | h)
                    · exact .inr (.inr h)
                    · exact .inl h
                    · exact .inr (.inl h)
                  · rintro (h | h | h)
                    · exact .inr (.inl h)
                    · exact .inr (.inr h)
                    · exact .inl h
                · rw [HT.out]
                  by_cases e : p = x
                  · subst e
                    rw [if_pos rfl]
                    exact ⟨fun a _ => absurd a hxa, fun _ h => absurd (.inr rfl) h, fun a _ => rfl, fun _ h => absurd (.inr rfl) h⟩
                  · rw [if_neg e]
                    obtain ⟨v1, v2, v3, v4⟩ := HFF.out p
                    exact ⟨fun a t => v1 a (t.resolve_right e), fun a t => v2 a (fun h => t (.inl h)), fun a t => v3 a (t.resolve_right e), fun a t => v4 a (fun h => t (.inl h))⟩
          · obtain rfl : k = A2.length := by omega
            rw [List.take_of_length_le (Nat.le_refl _)] at hL hF
            have hsz : Maps.size D = A3.length := by
              rw [hV.size]
              exact nodup_len hV.nodup ND3 (fun p => by rw [hL, HMC.out])
            have HFF := Lib.hid hF
            clear hF hL
            obtain ⟨wL, rfl⟩ : ∃ x, x = wr := ⟨_, rfl⟩
            have hnn : ((A3.length : Int) != (A3.length : Int)) = false := by simp
            go_wp2_with (first
              | (at_len; refine wpList_len_own _ rfl (.tmp 108) 53 rfl 9 3 Tryd.underlying53 _ N (A1.length + A2.length) D rfl hown ?_; rw [hsz])
              | fail)
            go_loopg [113] A3.length (fun g s113 wr => ∃ k : Nat, k ≤ A3.length ∧ A3.length - k ≤ g ∧ s113 = .int .i64 (k : Int) ∧ wr.ownsMap Tryd.prog 9 (plainElem Tryd.prog 3) N (A1.length + A2.length) D ∧ Ext w6xxx wr)
            case atStart => exact ⟨0, by omega, by omega, rfl, hown, xr⟩
            case round =>
              clear hown xr
              obtain ⟨k, hk, hg, rfl, hown, xr⟩ := hrel
              by_cases hlt : k < A3.length
              · obtain ⟨pb, o, rfl, e0⟩ := G3.out k hlt
                have e0 := xr.cell e0
                have k1 := xr.cell k1
                have k2 := xr.cell k2
                have r0 := xr.cell r0
                have hkey : keyOf Tryd.prog 9 (.string A3[k]) = some (Kp A3[k]) := Go.WideMaps.keyOf_string_mk Tryd.underlying9 (HS3.out _ (List.getElem_mem hlt))
                have hmem := (HMC.out A3[k]).1 (List.getElem_mem hlt)
                have hfv := HFF.out A3[k]
                have hE1 := HG1.out A3[k]
                have hE2 := HG2.out A3[k]
                have E := treeGet wr _ R (IR.ext xr) A3[k]
                generalize A3[k] = x at *
                obtain ⟨⟨gt, ge⟩, hg1⟩ : ∃ q, getE R x = q := ⟨_, rfl⟩
                rw [hg1] at E hE1 hE2
                clear hg1
                go_wp2_with fail
                refine Calls.mono E ?_
                rintro e w9 ⟨rfl, y⟩
                have k1 := y.cell k1
                have k2 := y.cell k2
                have r0 := y.cell r0
                have hown := ownsMap_ext hown y
                have X9 := xr.trans y
                clear E y e0
                by_cases hx1 : x ∈ A1
                · have HE1 := Lib.hid (hE1 hx1).symm
                  by_cases hx2 : x ∈ A2
                  · have HE2 := Lib.hid (hE2 hx2).symm
                    have hfx : f x = 3 := hfv.1 hx1 hx2
                    clear hfv hmem hE1 hE2
                    have hw10 := (Ext.refl w9).alloc (.cells #[.slice a4 s1.length c4, .slice a5 s2.length c5] 24)
                    have bS := heap_alloc_new w9 (.cells #[.slice a4 s1.length c4, .slice a5 s2.length c5] 24)
                    have n1 := (block_cell bS 0).trans (show _ = some (Value.slice a4 s1.length c4) from rfl)
                    have n2 := (block_cell bS 1).trans (show _ = some (Value.slice a5 s2.length c5) from rfl)
                    have hown := ownsMap_ext hown hw10
                    have X9 := X9.trans hw10
                    clear hw10 bS
                    go_wp2_with fail
                    generalize w9.alloc (.cells #[.slice a4 s1.length c4, .slice a5 s2.length c5] 24) = w10 at *
                    generalize w9.heap.size = NB at *
                    go_loopg [129] 2 (fun g s129 wr => ∃ j : Nat, j ≤ 2 ∧ 2 - j ≤ g ∧ s129 = .int .i64 (j : Int) ∧ wr.ownsMap Tryd.prog 9 (plainElem Tryd.prog 3) N (A1.length + A2.length) D ∧ Ext w10 wr)
                    case atStart => exact ⟨0, by omega, by omega, rfl, hown, Ext.refl _⟩
                    case round =>
                      clear hown
                      obtain ⟨j, hj, hgj, rfl, hown, xi⟩ := hrel
                      rcases (show j = 0 ∨ j = 1 ∨ j = 2 by omega) with rfl | rfl | rfl
                      · have n1 := xi.cell n1
                        have y := (Ext.refl wr).alloc (.cells #[.slice a4 s1.length c4] 24)
                        have bB := heap_alloc_new wr (.cells #[.slice a4 s1.length c4] 24)
                        have b0 := (block_cell bB 0).trans (show _ = some (Value.slice a4 s1.length c4) from rfl)
                        have hown := ownsMap_ext hown y
                        have xi := xi.trans y
                        have E := treeGet _ _ s1 (H1.ext (X9.trans xi)) x
                        rw [HE1.out] at E
                        skip
                        clear y bB
                        go_wp2_with fail
                        refine Calls.mono E ?_
                        rintro e w11 ⟨rfl, y⟩
                        have hown := ownsMap_ext hown y
                        have xi := xi.trans y
                        clear E y
                        go_wp2_with (first
                          | (at_lookup; refine wpList_lookup_own_int _ rfl _ _ 53 rfl 9 3 .i64 mapLaw Tryd.underlying53 Tryd.underlying3 (zeroI _) N (A1.length + A2.length) _ rfl hown _ _ rfl hkey ?_; intro c hat hwc; obtain rfl : c = 3 := (hV.at hat).trans hfx)
                          | fail)
                        go_roundg (2 - (0 + 1))
                        case measure => omega
                        case rel => exact ⟨0 + 1, by omega, by omega, by go_num, hown, xi⟩
                      · have n2 := xi.cell n2
                        have y := (Ext.refl wr).alloc (.cells #[.slice a5 s2.length c5] 24)
                        have bB := heap_alloc_new wr (.cells #[.slice a5 s2.length c5] 24)
                        have b0 := (block_cell bB 0).trans (show _ = some (Value.slice a5 s2.length c5) from rfl)
                        have hown := ownsMap_ext hown y
                        have xi := xi.trans y
                        have E := treeGet _ _ s2 (H2.ext (X9.trans xi)) x
                        rw [HE2.out] at E
                        skip
                        clear y bB
                        go_wp2_with fail
                        refine Calls.mono E ?_
                        rintro e w11 ⟨rfl, y⟩
                        have hown := ownsMap_ext hown y
                        have xi := xi.trans y
                        clear E y
                        go_wp2_with (first
                          | (at_lookup; refine wpList_lookup_own_int _ rfl _ _ 53 rfl 9 3 .i64 mapLaw Tryd.underlying53 Tryd.underlying3 (zeroI _) N (A1.length + A2.length) _ rfl hown _ _ rfl hkey ?_; intro c hat hwc; obtain rfl : c = 3 := (hV.at hat).trans hfx)
                          | fail)
                        go_roundg (2 - (1 + 1))
                        case measure => omega
                        case rel => exact ⟨1 + 1, by omega, by omega, by go_num, hown, xi⟩
                      · go_wp2_with fail
                        go_roundg (A3.length - (k + 1))
                        case measure => omega
                        case rel => exact ⟨k + 1, by omega, by omega, by go_num, hown, X9.trans xi⟩
                  · have hfx : f x = 1 := hfv.2.1 hx1 hx2
                    clear hfv hmem hE1 hE2
                    have hw10 := (Ext.refl w9).alloc (.cells #[.slice a4 s1.length c4, .slice a5 s2.length c5] 24)
                    have bS := heap_alloc_new w9 (.cells #[.slice a4 s1.length c4, .slice a5 s2.length c5] 24)
                    have n1 := (block_cell bS 0).trans (show _ = some (Value.slice a4 s1.length c4) from rfl)
                    have n2 := (block_cell bS 1).trans (show _ = some (Value.slice a5 s2.length c5) from rfl)
                    have hown := ownsMap_ext hown hw10
                    have X9 := X9.trans hw10
                    clear hw10 bS
                    go_wp2_with fail
                    generalize w9.alloc (.cells #[.slice a4 s1.length c4, .slice a5 s2.length c5] 24) = w10 at *
                    generalize w9.heap.size = NB at *
                    go_loopg [129] 2 (fun g s129 wr => ∃ j : Nat, j ≤ 2 ∧ 2 - j ≤ g ∧ s129 = .int .i64 (j : Int) ∧ wr.ownsMap Tryd.prog 9 (plainElem Tryd.prog 3) N (A1.length + A2.length) D ∧ Ext w10 wr)
                    case atStart => exact ⟨0, by omega, by omega, rfl, hown, Ext.refl _⟩
                    case round =>
                      clear hown
                      obtain ⟨j, hj, hgj, rfl, hown, xi⟩ := hrel
                      rcases (show j = 0 ∨ j = 1 ∨ j = 2 by omega) with rfl | rfl | rfl
                      · have n1 := xi.cell n1
                        have y := (Ext.refl wr).alloc (.cells #[.slice a4 s1.length c4] 24)
                        have bB := heap_alloc_new wr (.cells #[.slice a4 s1.length c4] 24)
                        have b0 := (block_cell bB 0).trans (show _ = some (Value.slice a4 s1.length c4) from rfl)
                        have hown := ownsMap_ext hown y
                        have xi := xi.trans y
                        have E := treeGet _ _ s1 (H1.ext (X9.trans xi)) x
                        rw [HE1.out] at E
                        skip
                        clear y bB
                        go_wp2_with fail
                        refine Calls.mono E ?_
                        rintro e w11 ⟨rfl, y⟩
                        have hown := ownsMap_ext hown y
                        have xi := xi.trans y
                        clear E y
                        go_wp2_with (first
                          | (at_lookup; refine wpList_lookup_own_int _ rfl _ _ 53 rfl 9 3 .i64 mapLaw Tryd.underlying53 Tryd.underlying3 (zeroI _) N (A1.length + A2.length) _ rfl hown _ _ rfl hkey ?_; intro c hat hwc; obtain rfl : c = 1 := (hV.at hat).trans hfx)
                          | fail)
                        go_roundg (2 - (0 + 1))
                        case measure => omega
                        case rel => exact ⟨0 + 1, by omega, by omega, by go_num, hown, xi⟩
                      · have n2 := xi.cell n2
                        have y := (Ext.refl wr).alloc (.cells #[.slice a5 s2.length c5] 24)
                        have bB := heap_alloc_new wr (.cells #[.slice a5 s2.length c5] 24)
                        have b0 := (block_cell bB 0).trans (show _ = some (Value.slice a5 s2.length c5) from rfl)
                        have hown := ownsMap_ext hown y
                        have xi := xi.trans y
                        have E := treeGet _ _ s2 (H2.ext (X9.trans xi)) x
                        obtain ⟨⟨ht, he⟩, hg2⟩ : ∃ q, getE s2 x = q := ⟨_, rfl⟩
                        rw [hg2] at E
                        clear y bB
                        go_wp2_with fail
                        refine Calls.mono E ?_
                        rintro e w11 ⟨rfl, y⟩
                        have hown := ownsMap_ext hown y
                        have xi := xi.trans y
                        clear E y
                        go_wp2_with (first
                          | (at_lookup; refine wpList_lookup_own_int _ rfl _ _ 53 rfl 9 3 .i64 mapLaw Tryd.underlying53 Tryd.underlying3 (zeroI _) N (A1.length + A2.length) _ rfl hown _ _ rfl hkey ?_; intro c hat hwc; obtain rfl : c = 1 := (hV.at hat).trans hfx)
                          | fail)
                        go_roundg (2 - (1 + 1))
                        case measure => omega
                        case rel => exact ⟨1 + 1, by omega, by omega, by go_num, hown, xi⟩
                      · go_wp2_with fail
                        go_roundg (A3.length - (k + 1))
                        case measure => omega
                        case rel => exact ⟨k + 1, by omega, by omega, by go_num, hown, X9.trans xi⟩
                · have hx2 := hmem.resolve_left hx1
                  have HE2 := Lib.hid (hE2 hx2).symm
                  have hfx : f x = 2 := hfv.2.2.1 hx1 hx2
                  clear hfv hmem hE1 hE2
                  have hw10 := (Ext.refl w9).alloc (.cells #[.slice a4 s1.length c4, .slice a5 s2.length c5] 24)
                  have bS := heap_alloc_new w9 (.cells #[.slice a4 s1.length c4, .slice a5 s2.length c5] 24)
                  have n1 := (block_cell bS 0).trans (show _ = some (Value.slice a4 s1.length c4) from rfl)
                  have n2 := (block_cell bS 1).trans (show _ = some (Value.slice a5 s2.length c5) from rfl)
                  have hown := ownsMap_ext hown hw10
                  have X9 := X9.trans hw10
                  clear hw10 bS
                  go_wp2_with fail
                  generalize w9.alloc (.cells #[.slice a4 s1.length c4, .slice a5 s2.length c5] 24) = w10 at *
                  generalize w9.heap.size = NB at *
                  go_loopg [129] 2 (fun g s129 wr => ∃ j : Nat, j ≤ 2 ∧ 2 - j ≤ g ∧ s129 = .int .i64 (j : Int) ∧ wr.ownsMap Tryd.prog 9 (plainElem Tryd.prog 3) N (A1.length + A2.length) D ∧ Ext w10 wr)
                  case atStart => exact ⟨0, by omega, by omega, rfl, hown, Ext.refl _⟩
                  case round =>
                    clear hown
                    obtain ⟨j, hj, hgj, rfl, hown, xi⟩ := hrel
                    rcases (show j = 0 ∨ j = 1 ∨ j = 2 by omega) with rfl | rfl | rfl
                    · have n1 := xi.cell n1
                      have y := (Ext.refl wr).alloc (.cells #[.slice a4 s1.length c4] 24)
                      have bB := heap_alloc_new wr (.cells #[.slice a4 s1.length c4] 24)
                      have b0 := (block_cell bB 0).trans (show _ = some (Value.slice a4 s1.length c4) from rfl)
                      have hown := ownsMap_ext hown y
                      have xi := xi.trans y
                      have E := treeGet _ _ s1 (H1.ext (X9.trans xi)) x
                      obtain ⟨⟨ht, he⟩, hg2⟩ : ∃ q, getE s1 x = q := ⟨_, rfl⟩
                      rw [hg2] at E
                      clear y bB
                      go_wp2_with fail
                      refine Calls.mono E ?_
                      rintro e w11 ⟨rfl, y⟩
                      have hown := ownsMap_ext hown y
                      have xi := xi.trans y
                      clear E y
                      go_wp2_with (first
                        | (at_lookup; refine wpList_lookup_own_int _ rfl _ _ 53 rfl 9 3 .i64 mapLaw Tryd.underlying53 Tryd.underlying3 (zeroI _) N (A1.length + A2.length) _ rfl hown _ _ rfl hkey ?_; intro c hat hwc; obtain rfl : c = 2 := (hV.at hat).trans hfx)
                        | fail)
                      go_roundg (2 - (0 + 1))
                      case measure => omega
                      case rel => exact ⟨0 + 1, by omega, by omega, by go_num, hown, xi⟩
                    · have n2 := xi.cell n2
                      have y := (Ext.refl wr).alloc (.cells #[.slice a5 s2.length c5] 24)
                      have bB := heap_alloc_new wr (.cells #[.slice a5 s2.length c5] 24)
                      have b0 := (block_cell bB 0).trans (show _ = some (Value.slice a5 s2.length c5) from rfl)
                      have hown := ownsMap_ext hown y
                      have xi := xi.trans y
                      have E := treeGet _ _ s2 (H2.ext (X9.trans xi)) x
                      rw [HE2.out] at E
                      skip
                      clear y bB
                      go_wp2_with fail
                      refine Calls.mono E ?_
                      rintro e w11 ⟨rfl, y⟩
                      have hown := ownsMap_ext hown y
                      have xi := xi.trans y
                      clear E y
                      go_wp2_with (first
                        | (at_lookup; refine wpList_lookup_own_int _ rfl _ _ 53 rfl 9 3 .i64 mapLaw Tryd.underlying53 Tryd.underlying3 (zeroI _) N (A1.length + A2.length) _ rfl hown _ _ rfl hkey ?_; intro c hat hwc; obtain rfl : c = 2 := (hV.at hat).trans hfx)
                        | fail)
                      go_roundg (2 - (1 + 1))
                      case measure => omega
                      case rel => exact ⟨1 + 1, by omega, by omega, by go_num, hown, xi⟩
                    · go_wp2_with fail
                      go_roundg (A3.length - (k + 1))
                      case measure => omega
                      case rel => exact ⟨k + 1, by omega, by omega, by go_num, hown, X9.trans xi⟩
              · obtain rfl : k = A3.length := by omega
                have r0 := xr.cell r0
                have E := treeCheck wr _ R (IR.ext xr)
                rw [HRR.out] at E
                go_wp2_with fail
                refine Calls.mono E ?_
                rintro e w9 ⟨rfl, y⟩
                go_wp2_with fail
                go_ret
                exact ⟨ret_bool2 (by decide), (X.trans xr).trans y⟩
theorem walkMergeEach (w : World) (v0 : Value) (fs : List Fl × List Fl × List Fl) (h0 : ArgThree w v0 fs) :
    Calls Tryd.prog 8 #[v0] w fun e w' => e = .returned (.bool true) ∧ Below w.heap.size w w' := by
  obtain ⟨u0, u1, u2, rfl, k0, k1, k2⟩ := h0
  exact walkMergeEachI w u0 u1 u2 _ _ _ k0 k1 k2
end Go.Proofs.YtpcpcjejdngllaaDoor
