/- The reference of merging: Merged, where nothing is settled. -/
import Derived.Test.YtpcpcjejdngllaaDoorMgRd
import Derived.Test.YtpcpcjejdngllaaDoorMgQ
import Derived.Test.YtpcpcjejdngllaaDoorMgS
namespace Go.Proofs.YtpcpcjejdngllaaDoor
open Go.RowKit
set_option linter.unusedVariables false
set_option linter.unusedSimpArgs false

theorem KeepS.cell {S : Nat → Prop} {w w' : World} (k : KeepS S w w') {b o : Nat} {v : Value} (hb : S b) (h : w.cell? ⟨b, o, none⟩ = some v) : w'.cell? ⟨b, o, none⟩ = some v := by
  rw [← h]
  unfold World.cell?
  rw [k b hb]
/-- A string's cell lies in no block of slices. -/
theorem str_off {w : World} {N b o : Nat} {s : ByteArray} {a : Option Addr} {n c : Nat} {t : TypeId} {f : Nat × Nat} (hN : w.heap[N]? = some (.cells #[.slice a n c] t f)) (h : w.cell? ⟨b, o, none⟩ = some (.string s)) : b ≠ N := by
  intro e
  subst e
  rw [block_cell hN] at h
  match o with
  | 0 => cases h
  | o + 1 => cases h
theorem stand_snoc (m : ByteArray → Mb) (ps : List ByteArray) (p : ByteArray) : standL m (ps ++ [p]) = standL m ps ++ (if (m p).1 = true then [⟨p, (m p).2⟩] else []) := by
  unfold standL; rw [List.flatMap_append]; simp
theorem stand_len (m : ByteArray → Mb) : ∀ (ps : List ByteArray), (standL m ps).length ≤ ps.length
  | [] => Nat.le_refl _
  | p :: ps => by
    have ih := stand_len m ps
    have e : standL m (p :: ps) = (if (m p).1 = true then [⟨p, (m p).2⟩] else []) ++ standL m ps := rfl
    rw [e, List.length_append, List.length_cons]
    split <;> simp <;> omega
def fmL (f0 f1 f2 : List Fl) : List Fl := standL (fun p => mergedM (atM f0 p) (atM f1 p) (atM f2 p)) (pathsL [f0, f1, f2])

set_option maxHeartbeats 16000000 in
set_option maxRecDepth 100000 in
theorem refMerged (w : World) (v0 v1 v2 : Value) (f0 f1 f2 : List Fl) (h0 : IsF w v0 f0) (h1 : IsF w v1 f1) (h2 : IsF w v2 f2) (l0 : f0.length ≤ 1000) (l1 : f1.length ≤ 1000) (l2 : f2.length ≤ 1000) :
    Calls Tryd.prog 18 #[.agg #[v0], .agg #[v1], .agg #[v2], .slice none 0 0] w fun e w' => ∃ v, e = .returned (.agg #[v]) ∧
      w'.ownsRow w.heap.size 46 2 v (fmL f0 f1 f2).length ((fmL f0 f1 f2).flatMap flC) ∧ Ext w w' := by
  obtain ⟨R, hR⟩ : ∃ R, fmL f0 f1 f2 = R := ⟨_, rfl⟩
  rw [hR]
  have HR := Lib.hid hR
  clear hR
  obtain ⟨a0, c0, rfl, -⟩ := h0.opened
  obtain ⟨a1, c1, rfl, -⟩ := h1.opened
  obtain ⟨a2, c2, rfl, -⟩ := h2.opened
  have X : Ext w ((((((w.alloc (.cells #[.slice a0 f0.length c0] 24)).alloc (.cells #[.slice a1 f1.length c1] 24)).alloc (.cells #[.slice a2 f2.length c2] 24)).alloc (.cells #[.slice none 0 0] 24)).alloc (.cells #[.slice none 0 0] 24)).alloc (.cells #[.slice a0 f0.length c0, .slice a1 f1.length c1, .slice a2 f2.length c2] 24)) := ((((((Ext.refl w).alloc _).alloc _).alloc _).alloc _).alloc _).alloc _
  have g0 := blk_old (o := (.cells #[.slice a0 f0.length c0, .slice a1 f1.length c1, .slice a2 f2.length c2] 24)) (blk_old (o := (.cells #[.slice none 0 0] 24)) (blk_old (o := (.cells #[.slice none 0 0] 24)) (blk_old (o := (.cells #[.slice a2 f2.length c2] 24)) (blk_old (o := (.cells #[.slice a1 f1.length c1] 24)) (heap_alloc_new w (.cells #[.slice a0 f0.length c0] 24))))))
  have g1 := blk_old (o := (.cells #[.slice a0 f0.length c0, .slice a1 f1.length c1, .slice a2 f2.length c2] 24)) (blk_old (o := (.cells #[.slice none 0 0] 24)) (blk_old (o := (.cells #[.slice none 0 0] 24)) (blk_old (o := (.cells #[.slice a2 f2.length c2] 24)) (blk_new (w := w.alloc (.cells #[.slice a0 f0.length c0] 24)) (b := w.heap.size + 1) (o := (.cells #[.slice a1 f1.length c1] 24)) (by simp)))))
  have g2 := blk_old (o := (.cells #[.slice a0 f0.length c0, .slice a1 f1.length c1, .slice a2 f2.length c2] 24)) (blk_old (o := (.cells #[.slice none 0 0] 24)) (blk_old (o := (.cells #[.slice none 0 0] 24)) (blk_new (w := (w.alloc (.cells #[.slice a0 f0.length c0] 24)).alloc (.cells #[.slice a1 f1.length c1] 24)) (b := w.heap.size + 1 + 1) (o := (.cells #[.slice a2 f2.length c2] 24)) (by simp))))
  have bR := blk_old (o := (.cells #[.slice a0 f0.length c0, .slice a1 f1.length c1, .slice a2 f2.length c2] 24)) (blk_old (o := (.cells #[.slice none 0 0] 24)) (blk_new (w := ((w.alloc (.cells #[.slice a0 f0.length c0] 24)).alloc (.cells #[.slice a1 f1.length c1] 24)).alloc (.cells #[.slice a2 f2.length c2] 24)) (b := w.heap.size + 1 + 1 + 1) (o := (.cells #[.slice none 0 0] 24)) (by simp)))
  have bN := blk_old (o := (.cells #[.slice a0 f0.length c0, .slice a1 f1.length c1, .slice a2 f2.length c2] 24)) (blk_new (w := (((w.alloc (.cells #[.slice a0 f0.length c0] 24)).alloc (.cells #[.slice a1 f1.length c1] 24)).alloc (.cells #[.slice a2 f2.length c2] 24)).alloc (.cells #[.slice none 0 0] 24)) (b := w.heap.size + 1 + 1 + 1 + 1) (o := (.cells #[.slice none 0 0] 24)) (by simp))
  have q4 := blk_new (w := ((((w.alloc (.cells #[.slice a0 f0.length c0] 24)).alloc (.cells #[.slice a1 f1.length c1] 24)).alloc (.cells #[.slice a2 f2.length c2] 24)).alloc (.cells #[.slice none 0 0] 24)).alloc (.cells #[.slice none 0 0] 24)) (b := w.heap.size + 1 + 1 + 1 + 1 + 1) (o := (.cells #[.slice a0 f0.length c0, .slice a1 f1.length c1, .slice a2 f2.length c2] 24)) (by simp)
  have k0 := (block_cell g0 0).trans (show _ = some (Value.slice a0 f0.length c0) from rfl)
  have k1 := (block_cell g1 0).trans (show _ = some (Value.slice a1 f1.length c1) from rfl)
  have k2 := (block_cell g2 0).trans (show _ = some (Value.slice a2 f2.length c2) from rfl)
  have H0 := Lib.hid h0
  have H1 := Lib.hid h1
  have H2 := Lib.hid h2
  have h0 := h0.ext X
  have h1 := h1.ext X
  have h2 := h2.ext X
  clear g0 g1 g2
  have hpl : (allP [f0, f1, f2]).length ≤ 10000 := by simp [allP]; omega
  have hpl2 : (pathsL [f0, f1, f2]).length ≤ 10000 := by
    have := foldP_len (allP [f0, f1, f2]) []
    unfold pathsL
    simp only [List.length_nil] at this
    omega
  go_enter Tryd.func18, Tryd.ntmps18
  go_wp2_with fail
  generalize (((((w.alloc (.cells #[.slice a0 f0.length c0] 24)).alloc (.cells #[.slice a1 f1.length c1] 24)).alloc (.cells #[.slice a2 f2.length c2] 24)).alloc (.cells #[.slice none 0 0] 24)).alloc (.cells #[.slice none 0 0] 24)).alloc (.cells #[.slice a0 f0.length c0, .slice a1 f1.length c1, .slice a2 f2.length c2] 24) = w5 at *
  generalize hG : w.heap.size = G at *
  refine Calls.mono (refPaths w5 _ [(_, f0), (_, f1), (_, f2)] (isRs3 q4 h0 h1 h2) hpl) ?_
  rintro e w6 ⟨vq, rfl, IQ, y⟩
  have IQ : IsStr w6 vq (pathsL [f0, f1, f2]) := IQ
  have k0 := y.cell k0
  have k1 := y.cell k1
  have k2 := y.cell k2
  have bR := y.keeps bR
  have bN := y.keeps bN
  have X := X.trans y
  have hN6 := block_lt bN
  clear y q4 hpl h0 h1 h2
  have HR2 := Lib.hid (show standL (fun p => mergedM (atM f0 p) (atM f1 p) (atM f2 p)) (pathsL [f0, f1, f2]) = R from HR.out)
  generalize pathsL [f0, f1, f2] = PS at *
  obtain ⟨aq, cq, rfl, hcq, hcq2, _, gq⟩ := IQ.opened
  have GQ := Lib.hid gq
  have BN := Lib.hid bN
  clear gq IQ HR
  go_wp2_with fail
  go_loopg [26] PS.length (fun g s26 wr => ∃ (k : Nat) (vo : Value), k ≤ PS.length ∧ PS.length - k ≤ g ∧ s26 = .int .i64 (k : Int) ∧ wr.heap[G + 1 + 1 + 1 + 1]? = some (.cells #[vo] 24 (0, 0)) ∧ wr.ownsRow w6.heap.size 46 2 vo (standL (fun p => mergedM (atM f0 p) (atM f1 p) (atM f2 p)) (PS.take k)).length ((standL (fun p => mergedM (atM f0 p) (atM f1 p) (atM f2 p)) (PS.take k)).flatMap flC) ∧ Ext w wr ∧ KeepS (fun b => b < w6.heap.size ∧ b ≠ G + 1 + 1 + 1 + 1) w6 wr ∧ w6.heap.size ≤ wr.heap.size)
  case atStart => exact ⟨0, _, by omega, by omega, rfl, bN, World.ownsRow_nil _ _ _ _, X, KeepS.refl _ _, Nat.le_refl _⟩
  case round =>
    clear bN X
    obtain ⟨k, vo, hk, hg, rfl, bN, own, X, kS, hs⟩ := hrel
    have hlt6 := block_lt bR
    by_cases hlt : k < PS.length
    · obtain ⟨pb, o, rfl, e0⟩ := GQ.out k hlt
      have hpb : pb ≠ G + 1 + 1 + 1 + 1 := str_off BN.out e0
      have e0 := kS.cell ⟨World.block_lt_of_cell? _ _ e0, hpb⟩ e0
      have k0 := kS.cell (show G < w6.heap.size ∧ G ≠ G + 1 + 1 + 1 + 1 by omega) k0
      have k1 := kS.cell (show G + 1 < w6.heap.size ∧ G + 1 ≠ G + 1 + 1 + 1 + 1 by omega) k1
      have k2 := kS.cell (show G + 1 + 1 < w6.heap.size ∧ G + 1 + 1 ≠ G + 1 + 1 + 1 + 1 by omega) k2
      have h0 := H0.out.ext X
      have h1 := H1.out.ext X
      have h2 := H2.out.ext X
      have hst := stand_len (fun p => mergedM (atM f0 p) (atM f1 p) (atM f2 p)) (PS.take k)
      rw [List.length_take] at hst
      have HS := Lib.hid (stand_snoc (fun p => mergedM (atM f0 p) (atM f1 p) (atM f2 p)) (PS.take k) PS[k])
      have HT := Lib.hid (List.take_succ_eq_append_getElem hlt)
      rw [← HT.out] at HS
      generalize standL (fun p => mergedM (atM f0 p) (atM f1 p) (atM f2 p)) (PS.take k) = F at *
      generalize PS[k] = x at *

      have E0 := refAt wr _ f0 x h0
      obtain ⟨m0, hm0⟩ : ∃ m, atM f0 x = m := ⟨_, rfl⟩
      obtain ⟨m1, hm1⟩ : ∃ m, atM f1 x = m := ⟨_, rfl⟩
      obtain ⟨m2, hm2⟩ : ∃ m, atM f2 x = m := ⟨_, rfl⟩
      rw [hm0] at E0 HS
      rw [hm1, hm2] at HS
      have HM0 := Lib.hid hm0
      have HM1 := Lib.hid hm1
      have HM2 := Lib.hid hm2
      clear hm0 hm1 hm2 HT
      obtain ⟨q0, t0⟩ := m0
      obtain ⟨q1, t1⟩ := m1
      obtain ⟨q2, t2⟩ := m2
      have hnil : ∀ W : World, W.ownsRow 0 46 2 (.slice none 0 0) 0 [] := fun W => World.ownsRow_nil _ _ _ _
      clear hnil
      go_wp2_with fail
      refine Calls.mono E0 ?_
      rintro e w7 ⟨rfl, y⟩
      have Y := y
      have k0 := y.cell k0
      have k1 := y.cell k1
      have k2 := y.cell k2
      have h0 := h0.ext y
      have h1 := h1.ext y
      have h2 := h2.ext y
      have E1 := refAt w7 _ f1 x h1
      rw [HM1.out] at E1
      clear E0 e0 y
      go_wp2_with fail
      refine Calls.mono E1 ?_
      rintro e w8 ⟨rfl, y⟩
      have Y := Y.trans y
      have k0 := y.cell k0
      have k1 := y.cell k1
      have k2 := y.cell k2
      have h0 := h0.ext y
      have h1 := h1.ext y
      have h2 := h2.ext y
      clear E1 y
      have D10 := mb_cases (q1, t1) (q0, t0)
      have Hmm : mergedM (q0, t0) (q1, t1) (q2, t2) = if decide (((q1, t1) : Mb) = (q0, t0)) = true then (q2, t2) else (q1, t1) := rfl
      rw [Hmm] at HS
      clear Hmm
      have hcs : decide (((q1, t1) : Mb) = (q0, t0)) = true → clashM (q0, t0) (q1, t1) (q2, t2) = false := fun h => by
        have e := of_decide_eq_true h
        rw [e]
        exact clash_01 _ _
      rcases D10 with ⟨s10, z10⟩ | ⟨s10, b10, z10⟩ | ⟨s10, b10, z10⟩
      · rw [z10] at HS
        simp only [Bool.false_eq_true, if_false] at HS
        cases hcc : clashM (q0, t0) (q1, t1) (q2, t2) with
        | false =>
          have EC := refClash w8 _ _ _ f0 f1 f2 x h0 h1 h2
          rw [HM0.out, HM1.out, HM2.out] at EC
          rw [hcc] at EC
          go_wp2_with fail
          refine Calls.mono EC ?_
          rintro e w10 ⟨rfl, y⟩
          have Y := Y.trans y
          have Y := Y.trans ((Ext.refl w10).alloc (.cells #[.string x, .string t0, .string t1, .string t2, .bool q0, .bool q1, .bool q2] 40))
          clear EC y k0 k1 k2 h0 h1 h2
          obtain ⟨ao, co, rfl⟩ := slice_shape own
          have own := owns_extU own Y
          have bN := Y.keeps bN
          have X := X.trans Y
          have kS := kS.trans (KeepS.ext (S := fun b => b < w6.heap.size ∧ b ≠ G + 1 + 1 + 1 + 1) (fun b hb => Nat.lt_of_lt_of_le hb.1 hs) Y)
          have hs := Nat.le_trans hs Y.size
          have cN := (block_cell bN 0).trans (show _ = some (Value.slice ao F.length co) from rfl)
          have fN := block_free bN 0
          clear Y
          cases q1 with
          | false =>
            go_wp2_with fail
            go_roundg (PS.length - (k + 1))
            case measure => omega
            case rel => exact ⟨k + 1, _, by omega, by omega, by go_num, bN, by rw [HS.out]; simpa using own, X, kS, hs⟩
          | true =>
            have own6 := own.alloc (.cells #[.string x, .string t1] 46)
            have yb := (Ext.refl (w10.alloc (.cells #[.string x, .string t0, .string t1, .string t2, .bool q0, .bool true, .bool q2] 40))).alloc (.cells #[.string x, .string t1] 46)
            have X6 := X.trans yb
            have hs6 := Nat.le_trans hs yb.size
            have bN6 := yb.keeps bN
            have kS6 := kS.trans (KeepS.ext (S := fun b => b < w6.heap.size ∧ b ≠ G + 1 + 1 + 1 + 1) (fun b hb => Nat.lt_of_lt_of_le hb.1 hs) yb)
            have hone : ∀ u ∈ [Value.string x, Value.string t1], u.oneCell' = true := flC_oneM ⟨x, t1⟩
            clear yb
            go_wp2_with (at_builtin; go_must (refine wp_app (w := ((w10.alloc (.cells #[.string x, .string t0, .string t1, .string t2, .bool q0, .bool true, .bool q2] 40))).alloc (.cells #[.string x, .string t1] 46)) tyFl rfl (.tmp 80) (.tmp 84) rfl w6.heap.size _ F.length _ own6 (by rfl) _ 1 [.string x, .string t1] (sl_one_new (H := w10.heap.size + 1) (w := (w10.alloc (.cells #[.string x, .string t0, .string t1, .string t2, .bool q0, .bool true, .bool q2] 40))) (n := 2) (e := 46) (Q := [.string x, .string t1]) (by simp) rfl) (by rfl) hone (by omega) (by omega) hs6 ?_); intro v7 w15 own7 gr7; have bN7 := grown_otherO gr7 bN6 (own_neU own6 bN6 (by decide)); have fN7 := block_free bN7 0; have cN7 := block_cell bN7 0; obtain ⟨a7, c7, rfl⟩ := slice_shape own7)
            have xw7 := X6.grown gr7 (fun k hk => by have := (own6.lt k hk).1; omega)
            have kS7 := kS6.trans (KeepS.own (S := fun b => b < w6.heap.size ∧ b ≠ G + 1 + 1 + 1 + 1) own6 gr7 (fun b hb => ⟨Nat.lt_of_lt_of_le hb.1 hs6, hb.1⟩))
            have hs7 := Nat.le_trans hs6 gr7.size
            have gr8 := grown_setCell w15 (G + 1 + 1 + 1 + 1) 0 (.slice a7 (F.length + 1) c7)
            go_roundg (PS.length - (k + 1))
            case measure => omega
            case rel =>
              refine ⟨k + 1, _, by omega, by omega, by go_num, block_setCell bN7 _, ?_, xw7.grown gr8 (fun k hk => by cases hk; omega), kS7.trans (KeepS.grown gr8 (fun b hb => Nat.lt_of_lt_of_le hb.1 hs7) (fun h => h.2 rfl)), Nat.le_trans hs7 gr8.size⟩
              have := own7.kept gr8 (.inr (own_neU own7 bN7 (by decide)))
              rw [HS.out]
              simp only [if_true, List.flatMap_append, List.length_append]
              simpa [flC] using this
        | true =>
          have EC := refClash w8 _ _ _ f0 f1 f2 x h0 h1 h2
          rw [HM0.out, HM1.out, HM2.out] at EC
          rw [hcc] at EC
          go_wp2_with fail
          refine Calls.mono EC ?_
          rintro e w10 ⟨rfl, y⟩
          have Y := Y.trans y
          have Y := Y.trans ((Ext.refl w10).alloc (.cells #[.string x, .string t0, .string t1, .string t2, .bool q0, .bool q1, .bool q2] 40))
          clear EC y k0 k1 k2 h0 h1 h2
          obtain ⟨ao, co, rfl⟩ := slice_shape own
          have own := owns_extU own Y
          have bN := Y.keeps bN
          have X := X.trans Y
          have kS := kS.trans (KeepS.ext (S := fun b => b < w6.heap.size ∧ b ≠ G + 1 + 1 + 1 + 1) (fun b hb => Nat.lt_of_lt_of_le hb.1 hs) Y)
          have hs := Nat.le_trans hs Y.size
          have cN := (block_cell bN 0).trans (show _ = some (Value.slice ao F.length co) from rfl)
          have fN := block_free bN 0
          clear Y
          go_wp2_with fail
          generalize w10.alloc (.cells #[.string x, .string t0, .string t1, .string t2, .bool q0, .bool q1, .bool q2] 40) = w11 at *
          go_loopg [14, 15, 67] 0 (fun g s14 s15 s67 wq => s14 = .string t1 ∧ s15 = .bool q1 ∧ s67 = .int .i64 0 ∧ wq = w11)
          case atStart => exact ⟨rfl, rfl, rfl, rfl⟩
          case round =>
            obtain ⟨rfl, rfl, rfl, rfl⟩ := hrel
            cases q1 with
            | false =>
              go_wp2_with fail
              go_roundg (PS.length - (k + 1))
              case measure => omega
              case rel => exact ⟨k + 1, _, by omega, by omega, by go_num, bN, by rw [HS.out]; simpa using own, X, kS, hs⟩
            | true =>
              have own6 := own.alloc (.cells #[.string x, .string t1] 46)
              have yb := (Ext.refl wr).alloc (.cells #[.string x, .string t1] 46)
              have X6 := X.trans yb
              have hs6 := Nat.le_trans hs yb.size
              have bN6 := yb.keeps bN
              have kS6 := kS.trans (KeepS.ext (S := fun b => b < w6.heap.size ∧ b ≠ G + 1 + 1 + 1 + 1) (fun b hb => Nat.lt_of_lt_of_le hb.1 hs) yb)
              have hone : ∀ u ∈ [Value.string x, Value.string t1], u.oneCell' = true := flC_oneM ⟨x, t1⟩
              clear yb
              go_wp2_with (at_builtin; go_must (refine wp_app (w := (wr).alloc (.cells #[.string x, .string t1] 46)) tyFl rfl (.tmp 80) (.tmp 84) rfl w6.heap.size _ F.length _ own6 (by rfl) _ 1 [.string x, .string t1] (sl_one_new (H := wr.heap.size) (w := wr) (n := 2) (e := 46) (Q := [.string x, .string t1]) (by simp) rfl) (by rfl) hone (by omega) (by omega) hs6 ?_); intro v7 w15 own7 gr7; have bN7 := grown_otherO gr7 bN6 (own_neU own6 bN6 (by decide)); have fN7 := block_free bN7 0; have cN7 := block_cell bN7 0; obtain ⟨a7, c7, rfl⟩ := slice_shape own7)
              have xw7 := X6.grown gr7 (fun k hk => by have := (own6.lt k hk).1; omega)
              have kS7 := kS6.trans (KeepS.own (S := fun b => b < w6.heap.size ∧ b ≠ G + 1 + 1 + 1 + 1) own6 gr7 (fun b hb => ⟨Nat.lt_of_lt_of_le hb.1 hs6, hb.1⟩))
              have hs7 := Nat.le_trans hs6 gr7.size
              have gr8 := grown_setCell w15 (G + 1 + 1 + 1 + 1) 0 (.slice a7 (F.length + 1) c7)
              go_roundg (PS.length - (k + 1))
              case measure => omega
              case rel =>
                refine ⟨k + 1, _, by omega, by omega, by go_num, block_setCell bN7 _, ?_, xw7.grown gr8 (fun k hk => by cases hk; omega), kS7.trans (KeepS.grown gr8 (fun b hb => Nat.lt_of_lt_of_le hb.1 hs7) (fun h => h.2 rfl)), Nat.le_trans hs7 gr8.size⟩
                have := own7.kept gr8 (.inr (own_neU own7 bN7 (by decide)))
                rw [HS.out]
                simp only [if_true, List.flatMap_append, List.length_append]
                simpa [flC] using this
      · rw [z10] at HS
        simp only [Bool.false_eq_true, if_false] at HS
        cases hcc : clashM (q0, t0) (q1, t1) (q2, t2) with
        | false =>
          have EC := refClash w8 _ _ _ f0 f1 f2 x h0 h1 h2
          rw [HM0.out, HM1.out, HM2.out] at EC
          rw [hcc] at EC
          go_wp2_with fail
          refine Calls.mono EC ?_
          rintro e w10 ⟨rfl, y⟩
          have Y := Y.trans y
          have Y := Y.trans ((Ext.refl w10).alloc (.cells #[.string x, .string t0, .string t1, .string t2, .bool q0, .bool q1, .bool q2] 40))
          clear EC y k0 k1 k2 h0 h1 h2
          obtain ⟨ao, co, rfl⟩ := slice_shape own
          have own := owns_extU own Y
          have bN := Y.keeps bN
          have X := X.trans Y
          have kS := kS.trans (KeepS.ext (S := fun b => b < w6.heap.size ∧ b ≠ G + 1 + 1 + 1 + 1) (fun b hb => Nat.lt_of_lt_of_le hb.1 hs) Y)
          have hs := Nat.le_trans hs Y.size
          have cN := (block_cell bN 0).trans (show _ = some (Value.slice ao F.length co) from rfl)
          have fN := block_free bN 0
          clear Y
          cases q1 with
          | false =>
            go_wp2_with fail
            go_roundg (PS.length - (k + 1))
            case measure => omega
            case rel => exact ⟨k + 1, _, by omega, by omega, by go_num, bN, by rw [HS.out]; simpa using own, X, kS, hs⟩
          | true =>
            have own6 := own.alloc (.cells #[.string x, .string t1] 46)
            have yb := (Ext.refl (w10.alloc (.cells #[.string x, .string t0, .string t1, .string t2, .bool q0, .bool true, .bool q2] 40))).alloc (.cells #[.string x, .string t1] 46)
            have X6 := X.trans yb
            have hs6 := Nat.le_trans hs yb.size
            have bN6 := yb.keeps bN
            have kS6 := kS.trans (KeepS.ext (S := fun b => b < w6.heap.size ∧ b ≠ G + 1 + 1 + 1 + 1) (fun b hb => Nat.lt_of_lt_of_le hb.1 hs) yb)
            have hone : ∀ u ∈ [Value.string x, Value.string t1], u.oneCell' = true := flC_oneM ⟨x, t1⟩
            clear yb
            go_wp2_with (at_builtin; go_must (refine wp_app (w := ((w10.alloc (.cells #[.string x, .string t0, .string t1, .string t2, .bool q0, .bool true, .bool q2] 40))).alloc (.cells #[.string x, .string t1] 46)) tyFl rfl (.tmp 80) (.tmp 84) rfl w6.heap.size _ F.length _ own6 (by rfl) _ 1 [.string x, .string t1] (sl_one_new (H := w10.heap.size + 1) (w := (w10.alloc (.cells #[.string x, .string t0, .string t1, .string t2, .bool q0, .bool true, .bool q2] 40))) (n := 2) (e := 46) (Q := [.string x, .string t1]) (by simp) rfl) (by rfl) hone (by omega) (by omega) hs6 ?_); intro v7 w15 own7 gr7; have bN7 := grown_otherO gr7 bN6 (own_neU own6 bN6 (by decide)); have fN7 := block_free bN7 0; have cN7 := block_cell bN7 0; obtain ⟨a7, c7, rfl⟩ := slice_shape own7)
            have xw7 := X6.grown gr7 (fun k hk => by have := (own6.lt k hk).1; omega)
            have kS7 := kS6.trans (KeepS.own (S := fun b => b < w6.heap.size ∧ b ≠ G + 1 + 1 + 1 + 1) own6 gr7 (fun b hb => ⟨Nat.lt_of_lt_of_le hb.1 hs6, hb.1⟩))
            have hs7 := Nat.le_trans hs6 gr7.size
            have gr8 := grown_setCell w15 (G + 1 + 1 + 1 + 1) 0 (.slice a7 (F.length + 1) c7)
            go_roundg (PS.length - (k + 1))
            case measure => omega
            case rel =>
              refine ⟨k + 1, _, by omega, by omega, by go_num, block_setCell bN7 _, ?_, xw7.grown gr8 (fun k hk => by cases hk; omega), kS7.trans (KeepS.grown gr8 (fun b hb => Nat.lt_of_lt_of_le hb.1 hs7) (fun h => h.2 rfl)), Nat.le_trans hs7 gr8.size⟩
              have := own7.kept gr8 (.inr (own_neU own7 bN7 (by decide)))
              rw [HS.out]
              simp only [if_true, List.flatMap_append, List.length_append]
              simpa [flC] using this
        | true =>
          have EC := refClash w8 _ _ _ f0 f1 f2 x h0 h1 h2
          rw [HM0.out, HM1.out, HM2.out] at EC
          rw [hcc] at EC
          go_wp2_with fail
          refine Calls.mono EC ?_
          rintro e w10 ⟨rfl, y⟩
          have Y := Y.trans y
          have Y := Y.trans ((Ext.refl w10).alloc (.cells #[.string x, .string t0, .string t1, .string t2, .bool q0, .bool q1, .bool q2] 40))
          clear EC y k0 k1 k2 h0 h1 h2
          obtain ⟨ao, co, rfl⟩ := slice_shape own
          have own := owns_extU own Y
          have bN := Y.keeps bN
          have X := X.trans Y
          have kS := kS.trans (KeepS.ext (S := fun b => b < w6.heap.size ∧ b ≠ G + 1 + 1 + 1 + 1) (fun b hb => Nat.lt_of_lt_of_le hb.1 hs) Y)
          have hs := Nat.le_trans hs Y.size
          have cN := (block_cell bN 0).trans (show _ = some (Value.slice ao F.length co) from rfl)
          have fN := block_free bN 0
          clear Y
          go_wp2_with fail
          generalize w10.alloc (.cells #[.string x, .string t0, .string t1, .string t2, .bool q0, .bool q1, .bool q2] 40) = w11 at *
          go_loopg [14, 15, 67] 0 (fun g s14 s15 s67 wq => s14 = .string t1 ∧ s15 = .bool q1 ∧ s67 = .int .i64 0 ∧ wq = w11)
          case atStart => exact ⟨rfl, rfl, rfl, rfl⟩
          case round =>
            obtain ⟨rfl, rfl, rfl, rfl⟩ := hrel
            cases q1 with
            | false =>
              go_wp2_with fail
              go_roundg (PS.length - (k + 1))
              case measure => omega
              case rel => exact ⟨k + 1, _, by omega, by omega, by go_num, bN, by rw [HS.out]; simpa using own, X, kS, hs⟩
            | true =>
              have own6 := own.alloc (.cells #[.string x, .string t1] 46)
              have yb := (Ext.refl wr).alloc (.cells #[.string x, .string t1] 46)
              have X6 := X.trans yb
              have hs6 := Nat.le_trans hs yb.size
              have bN6 := yb.keeps bN
              have kS6 := kS.trans (KeepS.ext (S := fun b => b < w6.heap.size ∧ b ≠ G + 1 + 1 + 1 + 1) (fun b hb => Nat.lt_of_lt_of_le hb.1 hs) yb)
              have hone : ∀ u ∈ [Value.string x, Value.string t1], u.oneCell' = true := flC_oneM ⟨x, t1⟩
              clear yb
              go_wp2_with (at_builtin; go_must (refine wp_app (w := (wr).alloc (.cells #[.string x, .string t1] 46)) tyFl rfl (.tmp 80) (.tmp 84) rfl w6.heap.size _ F.length _ own6 (by rfl) _ 1 [.string x, .string t1] (sl_one_new (H := wr.heap.size) (w := wr) (n := 2) (e := 46) (Q := [.string x, .string t1]) (by simp) rfl) (by rfl) hone (by omega) (by omega) hs6 ?_); intro v7 w15 own7 gr7; have bN7 := grown_otherO gr7 bN6 (own_neU own6 bN6 (by decide)); have fN7 := block_free bN7 0; have cN7 := block_cell bN7 0; obtain ⟨a7, c7, rfl⟩ := slice_shape own7)
              have xw7 := X6.grown gr7 (fun k hk => by have := (own6.lt k hk).1; omega)
              have kS7 := kS6.trans (KeepS.own (S := fun b => b < w6.heap.size ∧ b ≠ G + 1 + 1 + 1 + 1) own6 gr7 (fun b hb => ⟨Nat.lt_of_lt_of_le hb.1 hs6, hb.1⟩))
              have hs7 := Nat.le_trans hs6 gr7.size
              have gr8 := grown_setCell w15 (G + 1 + 1 + 1 + 1) 0 (.slice a7 (F.length + 1) c7)
              go_roundg (PS.length - (k + 1))
              case measure => omega
              case rel =>
                refine ⟨k + 1, _, by omega, by omega, by go_num, block_setCell bN7 _, ?_, xw7.grown gr8 (fun k hk => by cases hk; omega), kS7.trans (KeepS.grown gr8 (fun b hb => Nat.lt_of_lt_of_le hb.1 hs7) (fun h => h.2 rfl)), Nat.le_trans hs7 gr8.size⟩
                have := own7.kept gr8 (.inr (own_neU own7 bN7 (by decide)))
                rw [HS.out]
                simp only [if_true, List.flatMap_append, List.length_append]
                simpa [flC] using this
      · rw [z10] at HS
        simp only [if_true] at HS
        have hcc := hcs z10
        have E2 := refAt w8 _ f2 x h2
        rw [HM2.out] at E2
        go_wp2_with fail
        refine Calls.mono E2 ?_
        rintro e w9 ⟨rfl, y⟩
        have Y := Y.trans y
        have k0 := y.cell k0
        have k1 := y.cell k1
        have k2 := y.cell k2
        have h0 := h0.ext y
        have h1 := h1.ext y
        have h2 := h2.ext y
        clear E2 y
        have EC := refClash w9 _ _ _ f0 f1 f2 x h0 h1 h2
        rw [HM0.out, HM1.out, HM2.out] at EC
        rw [hcc] at EC
        go_wp2_with fail
        refine Calls.mono EC ?_
        rintro e w10 ⟨rfl, y⟩
        have Y := Y.trans y
        have Y := Y.trans ((Ext.refl w10).alloc (.cells #[.string x, .string t0, .string t1, .string t2, .bool q0, .bool q1, .bool q2] 40))
        clear EC y k0 k1 k2 h0 h1 h2
        obtain ⟨ao, co, rfl⟩ := slice_shape own
        have own := owns_extU own Y
        have bN := Y.keeps bN
        have X := X.trans Y
        have kS := kS.trans (KeepS.ext (S := fun b => b < w6.heap.size ∧ b ≠ G + 1 + 1 + 1 + 1) (fun b hb => Nat.lt_of_lt_of_le hb.1 hs) Y)
        have hs := Nat.le_trans hs Y.size
        have cN := (block_cell bN 0).trans (show _ = some (Value.slice ao F.length co) from rfl)
        have fN := block_free bN 0
        clear Y
        cases q2 with
        | false =>
          go_wp2_with fail
          go_roundg (PS.length - (k + 1))
          case measure => omega
          case rel => exact ⟨k + 1, _, by omega, by omega, by go_num, bN, by rw [HS.out]; simpa using own, X, kS, hs⟩
        | true =>
          have own6 := own.alloc (.cells #[.string x, .string t2] 46)
          have yb := (Ext.refl (w10.alloc (.cells #[.string x, .string t0, .string t1, .string t2, .bool q0, .bool q1, .bool true] 40))).alloc (.cells #[.string x, .string t2] 46)
          have X6 := X.trans yb
          have hs6 := Nat.le_trans hs yb.size
          have bN6 := yb.keeps bN
          have kS6 := kS.trans (KeepS.ext (S := fun b => b < w6.heap.size ∧ b ≠ G + 1 + 1 + 1 + 1) (fun b hb => Nat.lt_of_lt_of_le hb.1 hs) yb)
          have hone : ∀ u ∈ [Value.string x, Value.string t2], u.oneCell' = true := flC_oneM ⟨x, t2⟩
          clear yb
          go_wp2_with (at_builtin; go_must (refine wp_app (w := ((w10.alloc (.cells #[.string x, .string t0, .string t1, .string t2, .bool q0, .bool q1, .bool true] 40))).alloc (.cells #[.string x, .string t2] 46)) tyFl rfl (.tmp 80) (.tmp 84) rfl w6.heap.size _ F.length _ own6 (by rfl) _ 1 [.string x, .string t2] (sl_one_new (H := w10.heap.size + 1) (w := (w10.alloc (.cells #[.string x, .string t0, .string t1, .string t2, .bool q0, .bool q1, .bool true] 40))) (n := 2) (e := 46) (Q := [.string x, .string t2]) (by simp) rfl) (by rfl) hone (by omega) (by omega) hs6 ?_); intro v7 w15 own7 gr7; have bN7 := grown_otherO gr7 bN6 (own_neU own6 bN6 (by decide)); have fN7 := block_free bN7 0; have cN7 := block_cell bN7 0; obtain ⟨a7, c7, rfl⟩ := slice_shape own7)
          have xw7 := X6.grown gr7 (fun k hk => by have := (own6.lt k hk).1; omega)
          have kS7 := kS6.trans (KeepS.own (S := fun b => b < w6.heap.size ∧ b ≠ G + 1 + 1 + 1 + 1) own6 gr7 (fun b hb => ⟨Nat.lt_of_lt_of_le hb.1 hs6, hb.1⟩))
          have hs7 := Nat.le_trans hs6 gr7.size
          have gr8 := grown_setCell w15 (G + 1 + 1 + 1 + 1) 0 (.slice a7 (F.length + 1) c7)
          go_roundg (PS.length - (k + 1))
          case measure => omega
          case rel =>
            refine ⟨k + 1, _, by omega, by omega, by go_num, block_setCell bN7 _, ?_, xw7.grown gr8 (fun k hk => by cases hk; omega), kS7.trans (KeepS.grown gr8 (fun b hb => Nat.lt_of_lt_of_le hb.1 hs7) (fun h => h.2 rfl)), Nat.le_trans hs7 gr8.size⟩
            have := own7.kept gr8 (.inr (own_neU own7 bN7 (by decide)))
            rw [HS.out]
            simp only [if_true, List.flatMap_append, List.length_append]
            simpa [flC] using this
    · obtain rfl : k = PS.length := by omega
      rw [List.take_of_length_le (Nat.le_refl _), HR2.out] at own
      obtain ⟨ao, co, rfl⟩ := slice_shape own
      have cN := (block_cell bN 0).trans (show _ = some (Value.slice ao R.length co) from rfl)
      have bR := (kS (G + 1 + 1 + 1) ⟨hlt6, by omega⟩).trans bR
      have fR := block_free bR 0
      have cR := block_cell bR 0
      have gr8 := grown_setCell wr (G + 1 + 1 + 1) 0 (.slice ao R.length co)
      go_wp2_with fail
      refine bodyPost_ret (results_cell1 rfl _ _ (G + 1 + 1 + 1) _ _ _ _ (by rfl) (block_setCell bR _) Tryd.underlying24 rfl (info1M _)) rfl ?_
      exact ⟨_, rfl, ownsRow_base (own.kept gr8 (.inr (own_neU own bR (by decide)))) (by omega), X.grown gr8 (fun k hk => by cases hk; omega)⟩
end Go.Proofs.YtpcpcjejdngllaaDoor
