/- The walk of the reference's Same. -/
import Derived.Test.YtpadfabjihaapaaGreatDoorObE
namespace Go.Proofs.YtpadfabjihaapaaGreatDoor
open Go.RowKit
set_option linter.unusedVariables false
set_option linter.unusedSimpArgs false

set_option maxHeartbeats 8000000 in
set_option maxRecDepth 100000 in
theorem refSameO (w : World) (QA QB : Array Value) (va1 va2 va3 vb1 vb2 vb3 : Value) (a b : ObjL) (ha : IsObj w QA va1 va2 va3 a) (hb : IsObj w QB vb1 vb2 vb3 b) :
    Calls Tryz.prog 15 #[.agg QA, .agg QB] w fun e w' => e = .returned (.bool (sameB a b)) ∧ Ext w w' := by
  have X : Ext w ((w.alloc (.cells QA 45)).alloc (.cells QB 45)) := ((Ext.refl w).alloc _).alloc _
  have hA := obj_at (blk_old (o := .cells QB 45) (heap_alloc_new w (.cells QA 45))) ha.eq ha.ok
  have hB := obj_at (blk_new (w := w.alloc (.cells QA 45)) (b := w.heap.size + 1) (o := .cells QB 45) (by simp)) hb.eq hb.ok
  have ha := ha.ext X
  have hb := hb.ext X
  obtain ⟨R, hR⟩ : ∃ R, R = sameB a b := ⟨_, rfl⟩
  rw [← hR]
  unfold sameB at hR
  have HR := Lib.hid hR
  have hti := fun w => neq_id w a.tree b.tree ha.ok.tree hb.ok.tree
  have hia := id_info ha.ok.tree
  have hib := id_info hb.ok.tree
  have hle := listEq_len entEq a.ents b.ents
  have hlp := listEq_len idEq a.pars b.pars
  clear hR
  obtain ⟨ae, ce, rfl⟩ := sl_len ha.ve
  obtain ⟨be, de, rfl⟩ := sl_len hb.ve
  obtain ⟨ap, cp, rfl⟩ := sl_len ha.vp
  obtain ⟨bp, dp, rfl⟩ := sl_len hb.vp
  cases qk : (a.kind == b.kind) with
  | false =>
    have hF : R = false := by rw [HR.out, qk]; simp only [Bool.false_and, Bool.and_false]
    have HF := Lib.hid hF
    clear hF
    have f1 : (a.kind != b.kind) = true := by rw [bne, qk]; rfl
    clear qk
    have a0 := hA.c0
    have a1 := hA.c1
    have a2 := hA.c2
    have a4 := hA.c4
    have a5 := hA.c5
    have a6 := hA.c6
    have b0 := hB.c0
    have b1 := hB.c1
    have b2 := hB.c2
    have b4 := hB.c4
    have b5 := hB.c5
    have b6 := hB.c6
    have HA := Lib.hid ha
    have HB := Lib.hid hb
    clear ha hb hle hlp
    generalize hG : w.heap.size = G at *
    go_enter Tryz.func15, Tryz.ntmps15
    go_wp2_with (first
      | ((with_reducible refine at_load 31 (.tmp 30) ?_); refine wpl_mid (by rfl) 31 (.tmp 30) rfl G 3 (by rfl) (a.tree.map bc) _ hA.c3 Tryz.underlying31 rfl hia ?_)
      | ((with_reducible refine at_load 31 (.tmp 32) ?_); refine wpl_mid (by rfl) 31 (.tmp 32) rfl (G + 1) 3 (by rfl) (b.tree.map bc) _ hB.c3 Tryz.underlying31 rfl hib ?_)
      | (go_at_call 34; refine Calls.mono (refSame _ _ _ a.bytes b.bytes HA.out.vb HB.out.vb) ?_; rintro e w2 ⟨rfl, x⟩; have X := X.trans (toExt x); have HA := Lib.hid (HA.out.ext (toExt x)); have HB := Lib.hid (HB.out.ext (toExt x)); have hA := hA.ext (toExt x); have hB := hB.ext (toExt x); clear x; have a2 := hA.c2; have b2 := hB.c2; have a4 := hA.c4; have b4 := hB.c4; have a5 := hA.c5; have b5 := hB.c5; have a6 := hA.c6; have b6 := hB.c6))
    go_ret
    exact ⟨ret_bool HF.out.symm, X⟩
  | true =>
    have HR2 := HR.out
    rw [qk] at HR2
    have HR := Lib.hid HR2
    clear HR2
    have f1 : (a.kind != b.kind) = false := by rw [bne, qk]; rfl
    clear qk
    cases qb : (a.bytes == b.bytes) with
    | false =>
      have hF : R = false := by rw [HR.out, qb]; simp only [Bool.false_and, Bool.and_false]
      have HF := Lib.hid hF
      clear hF
      have a0 := hA.c0
      have a1 := hA.c1
      have a2 := hA.c2
      have a4 := hA.c4
      have a5 := hA.c5
      have a6 := hA.c6
      have b0 := hB.c0
      have b1 := hB.c1
      have b2 := hB.c2
      have b4 := hB.c4
      have b5 := hB.c5
      have b6 := hB.c6
      have HA := Lib.hid ha
      have HB := Lib.hid hb
      clear ha hb hle hlp
      generalize hG : w.heap.size = G at *
      go_enter Tryz.func15, Tryz.ntmps15
      go_wp2_with (first
        | ((with_reducible refine at_load 31 (.tmp 30) ?_); refine wpl_mid (by rfl) 31 (.tmp 30) rfl G 3 (by rfl) (a.tree.map bc) _ hA.c3 Tryz.underlying31 rfl hia ?_)
        | ((with_reducible refine at_load 31 (.tmp 32) ?_); refine wpl_mid (by rfl) 31 (.tmp 32) rfl (G + 1) 3 (by rfl) (b.tree.map bc) _ hB.c3 Tryz.underlying31 rfl hib ?_)
        | (go_at_call 34; refine Calls.mono (refSame _ _ _ a.bytes b.bytes HA.out.vb HB.out.vb) ?_; rintro e w2 ⟨rfl, x⟩; have X := X.trans (toExt x); have HA := Lib.hid (HA.out.ext (toExt x)); have HB := Lib.hid (HB.out.ext (toExt x)); have hA := hA.ext (toExt x); have hB := hB.ext (toExt x); clear x; have a2 := hA.c2; have b2 := hB.c2; have a4 := hA.c4; have b4 := hB.c4; have a5 := hA.c5; have b5 := hB.c5; have a6 := hA.c6; have b6 := hB.c6))
      go_ret
      exact ⟨ret_bool HF.out.symm, X⟩
    | true =>
      have HR2 := HR.out
      rw [qb] at HR2
      have HR := Lib.hid HR2
      clear HR2
      cases qe : ((a.ents.length : Int) == (b.ents.length : Int)) with
      | false =>
        have hF : R = false := by rw [HR.out, hle (fun e => by rw [e] at qe; simp at qe)]; simp only [Bool.false_and, Bool.and_false]
        have HF := Lib.hid hF
        clear hF
        have f3 : ((a.ents.length : Int) != (b.ents.length : Int)) = true := by rw [bne, qe]; rfl
        clear qe
        have a0 := hA.c0
        have a1 := hA.c1
        have a2 := hA.c2
        have a4 := hA.c4
        have a5 := hA.c5
        have a6 := hA.c6
        have b0 := hB.c0
        have b1 := hB.c1
        have b2 := hB.c2
        have b4 := hB.c4
        have b5 := hB.c5
        have b6 := hB.c6
        have HA := Lib.hid ha
        have HB := Lib.hid hb
        clear ha hb hle hlp
        generalize hG : w.heap.size = G at *
        go_enter Tryz.func15, Tryz.ntmps15
        go_wp2_with (first
          | ((with_reducible refine at_load 31 (.tmp 30) ?_); refine wpl_mid (by rfl) 31 (.tmp 30) rfl G 3 (by rfl) (a.tree.map bc) _ hA.c3 Tryz.underlying31 rfl hia ?_)
          | ((with_reducible refine at_load 31 (.tmp 32) ?_); refine wpl_mid (by rfl) 31 (.tmp 32) rfl (G + 1) 3 (by rfl) (b.tree.map bc) _ hB.c3 Tryz.underlying31 rfl hib ?_)
          | (go_at_call 34; refine Calls.mono (refSame _ _ _ a.bytes b.bytes HA.out.vb HB.out.vb) ?_; rintro e w2 ⟨rfl, x⟩; have X := X.trans (toExt x); have HA := Lib.hid (HA.out.ext (toExt x)); have HB := Lib.hid (HB.out.ext (toExt x)); have hA := hA.ext (toExt x); have hB := hB.ext (toExt x); clear x; have a2 := hA.c2; have b2 := hB.c2; have a4 := hA.c4; have b4 := hB.c4; have a5 := hA.c5; have b5 := hB.c5; have a6 := hA.c6; have b6 := hB.c6))
        go_ret
        exact ⟨ret_bool HF.out.symm, X⟩
      | true =>
        have f3 : ((a.ents.length : Int) != (b.ents.length : Int)) = false := by rw [bne, qe]; rfl
        have HLE := Lib.hid (Int.ofNat.inj (beq_iff_eq.1 qe))
        clear qe
        cases qt : decide (a.tree = b.tree) with
        | false =>
          have hF : R = false := by rw [HR.out, qt]; simp only [Bool.false_and, Bool.and_false]
          have HF := Lib.hid hF
          clear hF
          rw [qt] at hti
          have a0 := hA.c0
          have a1 := hA.c1
          have a2 := hA.c2
          have a4 := hA.c4
          have a5 := hA.c5
          have a6 := hA.c6
          have b0 := hB.c0
          have b1 := hB.c1
          have b2 := hB.c2
          have b4 := hB.c4
          have b5 := hB.c5
          have b6 := hB.c6
          have HA := Lib.hid ha
          have HB := Lib.hid hb
          clear ha hb hle hlp
          generalize hG : w.heap.size = G at *
          go_enter Tryz.func15, Tryz.ntmps15
          go_wp2_with (first
            | ((with_reducible refine at_load 31 (.tmp 30) ?_); refine wpl_mid (by rfl) 31 (.tmp 30) rfl G 3 (by rfl) (a.tree.map bc) _ hA.c3 Tryz.underlying31 rfl hia ?_)
            | ((with_reducible refine at_load 31 (.tmp 32) ?_); refine wpl_mid (by rfl) 31 (.tmp 32) rfl (G + 1) 3 (by rfl) (b.tree.map bc) _ hB.c3 Tryz.underlying31 rfl hib ?_)
            | (go_at_call 34; refine Calls.mono (refSame _ _ _ a.bytes b.bytes HA.out.vb HB.out.vb) ?_; rintro e w2 ⟨rfl, x⟩; have X := X.trans (toExt x); have HA := Lib.hid (HA.out.ext (toExt x)); have HB := Lib.hid (HB.out.ext (toExt x)); have hA := hA.ext (toExt x); have hB := hB.ext (toExt x); clear x; have a2 := hA.c2; have b2 := hB.c2; have a4 := hA.c4; have b4 := hB.c4; have a5 := hA.c5; have b5 := hB.c5; have a6 := hA.c6; have b6 := hB.c6))
          go_ret
          exact ⟨ret_bool HF.out.symm, X⟩
        | true =>
          have HR2 := HR.out
          rw [qt] at HR2
          have HR := Lib.hid HR2
          clear HR2
          rw [qt] at hti
          cases qp : ((a.pars.length : Int) == (b.pars.length : Int)) with
          | false =>
            have hF : R = false := by rw [HR.out, hlp (fun e => by rw [e] at qp; simp at qp)]; simp only [Bool.false_and, Bool.and_false]
            have HF := Lib.hid hF
            clear hF
            have f5 : ((a.pars.length : Int) != (b.pars.length : Int)) = true := by rw [bne, qp]; rfl
            clear qp
            have a0 := hA.c0
            have a1 := hA.c1
            have a2 := hA.c2
            have a4 := hA.c4
            have a5 := hA.c5
            have a6 := hA.c6
            have b0 := hB.c0
            have b1 := hB.c1
            have b2 := hB.c2
            have b4 := hB.c4
            have b5 := hB.c5
            have b6 := hB.c6
            have HA := Lib.hid ha
            have HB := Lib.hid hb
            clear ha hb hle hlp
            generalize hG : w.heap.size = G at *
            go_enter Tryz.func15, Tryz.ntmps15
            go_wp2_with (first
              | ((with_reducible refine at_load 31 (.tmp 30) ?_); refine wpl_mid (by rfl) 31 (.tmp 30) rfl G 3 (by rfl) (a.tree.map bc) _ hA.c3 Tryz.underlying31 rfl hia ?_)
              | ((with_reducible refine at_load 31 (.tmp 32) ?_); refine wpl_mid (by rfl) 31 (.tmp 32) rfl (G + 1) 3 (by rfl) (b.tree.map bc) _ hB.c3 Tryz.underlying31 rfl hib ?_)
              | (go_at_call 34; refine Calls.mono (refSame _ _ _ a.bytes b.bytes HA.out.vb HB.out.vb) ?_; rintro e w2 ⟨rfl, x⟩; have X := X.trans (toExt x); have HA := Lib.hid (HA.out.ext (toExt x)); have HB := Lib.hid (HB.out.ext (toExt x)); have hA := hA.ext (toExt x); have hB := hB.ext (toExt x); clear x; have a2 := hA.c2; have b2 := hB.c2; have a4 := hA.c4; have b4 := hB.c4; have a5 := hA.c5; have b5 := hB.c5; have a6 := hA.c6; have b6 := hB.c6))
            go_ret
            exact ⟨ret_bool HF.out.symm, X⟩
          | true =>
            have f5 : ((a.pars.length : Int) != (b.pars.length : Int)) = false := by rw [bne, qp]; rfl
            have HLP := Lib.hid (Int.ofNat.inj (beq_iff_eq.1 qp))
            clear qp
            cases qn : ((a.num : Int) == (b.num : Int)) with
            | false =>
              have hF : R = false := by rw [HR.out, qn]; simp only [Bool.false_and, Bool.and_false]
              have HF := Lib.hid hF
              clear hF
              have f6 : ((a.num : Int) != (b.num : Int)) = true := by rw [bne, qn]; rfl
              clear qn
              have a0 := hA.c0
              have a1 := hA.c1
              have a2 := hA.c2
              have a4 := hA.c4
              have a5 := hA.c5
              have a6 := hA.c6
              have b0 := hB.c0
              have b1 := hB.c1
              have b2 := hB.c2
              have b4 := hB.c4
              have b5 := hB.c5
              have b6 := hB.c6
              have HA := Lib.hid ha
              have HB := Lib.hid hb
              clear ha hb hle hlp
              generalize hG : w.heap.size = G at *
              go_enter Tryz.func15, Tryz.ntmps15
              go_wp2_with (first
                | ((with_reducible refine at_load 31 (.tmp 30) ?_); refine wpl_mid (by rfl) 31 (.tmp 30) rfl G 3 (by rfl) (a.tree.map bc) _ hA.c3 Tryz.underlying31 rfl hia ?_)
                | ((with_reducible refine at_load 31 (.tmp 32) ?_); refine wpl_mid (by rfl) 31 (.tmp 32) rfl (G + 1) 3 (by rfl) (b.tree.map bc) _ hB.c3 Tryz.underlying31 rfl hib ?_)
                | (go_at_call 34; refine Calls.mono (refSame _ _ _ a.bytes b.bytes HA.out.vb HB.out.vb) ?_; rintro e w2 ⟨rfl, x⟩; have X := X.trans (toExt x); have HA := Lib.hid (HA.out.ext (toExt x)); have HB := Lib.hid (HB.out.ext (toExt x)); have hA := hA.ext (toExt x); have hB := hB.ext (toExt x); clear x; have a2 := hA.c2; have b2 := hB.c2; have a4 := hA.c4; have b4 := hB.c4; have a5 := hA.c5; have b5 := hB.c5; have a6 := hA.c6; have b6 := hB.c6))
              go_ret
              exact ⟨ret_bool HF.out.symm, X⟩
            | true =>
              have HR2 := HR.out
              rw [qn] at HR2
              have HR := Lib.hid HR2
              clear HR2
              have f6 : ((a.num : Int) != (b.num : Int)) = false := by rw [bne, qn]; rfl
              clear qn
              cases qs : (a.note.toList == b.note.toList) with
              | false =>
                have hF : R = false := by rw [HR.out, qs]; simp only [Bool.false_and, Bool.and_false]
                have HF := Lib.hid hF
                clear hF
                have a0 := hA.c0
                have a1 := hA.c1
                have a2 := hA.c2
                have a4 := hA.c4
                have a5 := hA.c5
                have a6 := hA.c6
                have b0 := hB.c0
                have b1 := hB.c1
                have b2 := hB.c2
                have b4 := hB.c4
                have b5 := hB.c5
                have b6 := hB.c6
                have HA := Lib.hid ha
                have HB := Lib.hid hb
                clear ha hb hle hlp
                generalize hG : w.heap.size = G at *
                go_enter Tryz.func15, Tryz.ntmps15
                go_wp2_with (first
                  | ((with_reducible refine at_load 31 (.tmp 30) ?_); refine wpl_mid (by rfl) 31 (.tmp 30) rfl G 3 (by rfl) (a.tree.map bc) _ hA.c3 Tryz.underlying31 rfl hia ?_)
                  | ((with_reducible refine at_load 31 (.tmp 32) ?_); refine wpl_mid (by rfl) 31 (.tmp 32) rfl (G + 1) 3 (by rfl) (b.tree.map bc) _ hB.c3 Tryz.underlying31 rfl hib ?_)
                  | (go_at_call 34; refine Calls.mono (refSame _ _ _ a.bytes b.bytes HA.out.vb HB.out.vb) ?_; rintro e w2 ⟨rfl, x⟩; have X := X.trans (toExt x); have HA := Lib.hid (HA.out.ext (toExt x)); have HB := Lib.hid (HB.out.ext (toExt x)); have hA := hA.ext (toExt x); have hB := hB.ext (toExt x); clear x; have a2 := hA.c2; have b2 := hB.c2; have a4 := hA.c4; have b4 := hB.c4; have a5 := hA.c5; have b5 := hB.c5; have a6 := hA.c6; have b6 := hB.c6))
                go_ret
                exact ⟨ret_bool HF.out.symm, X⟩
              | true =>
                have HR2 := HR.out
                rw [qs] at HR2
                have HR := Lib.hid HR2
                clear HR2
                have a0 := hA.c0
                have a1 := hA.c1
                have a2 := hA.c2
                have a4 := hA.c4
                have a5 := hA.c5
                have a6 := hA.c6
                have b0 := hB.c0
                have b1 := hB.c1
                have b2 := hB.c2
                have b4 := hB.c4
                have b5 := hB.c5
                have b6 := hB.c6
                have HA := Lib.hid ha
                have HB := Lib.hid hb
                clear ha hb hle hlp
                generalize hG : w.heap.size = G at *
                go_enter Tryz.func15, Tryz.ntmps15
                go_wp2_with (first
                  | ((with_reducible refine at_load 31 (.tmp 30) ?_); refine wpl_mid (by rfl) 31 (.tmp 30) rfl G 3 (by rfl) (a.tree.map bc) _ hA.c3 Tryz.underlying31 rfl hia ?_)
                  | ((with_reducible refine at_load 31 (.tmp 32) ?_); refine wpl_mid (by rfl) 31 (.tmp 32) rfl (G + 1) 3 (by rfl) (b.tree.map bc) _ hB.c3 Tryz.underlying31 rfl hib ?_)
                  | (go_at_call 34; refine Calls.mono (refSame _ _ _ a.bytes b.bytes HA.out.vb HB.out.vb) ?_; rintro e w2 ⟨rfl, x⟩; have X := X.trans (toExt x); have HA := Lib.hid (HA.out.ext (toExt x)); have HB := Lib.hid (HB.out.ext (toExt x)); have hA := hA.ext (toExt x); have hB := hB.ext (toExt x); clear x; have a2 := hA.c2; have b2 := hB.c2; have a4 := hA.c4; have b4 := hB.c4; have a5 := hA.c5; have b5 := hB.c5; have a6 := hA.c6; have b6 := hB.c6))
                have HR2 : R = (listEq entEq a.ents b.ents && listEq idEq a.pars b.pars) := by
                  rw [HR.out]; simp only [Bool.true_and, Bool.and_true]
                have HR := Lib.hid HR2
                clear HR2
                generalize hLs : listEq entEq a.ents b.ents = L at *
                have o1 := HA.out.ok.ents
                have o2 := HB.out.ok.ents
                have s1 := HA.out.ve
                have s2 := HB.out.ve
                obtain ⟨_, k1, m1⟩ := sl_cap s1
                obtain ⟨_, k2, m2⟩ := sl_cap s2
                have O1 := Lib.hid o1
                have O2 := Lib.hid o2
                have S1 := Lib.hid s1
                have S2 := Lib.hid s2
                have HLS := Lib.hid hLs
                clear o1 o2 s1 s2 hLs
                obtain ⟨wo, rfl⟩ : ∃ wo : World, wo = w2 := ⟨_, rfl⟩
                have hA0 := hA
                have hB0 := hB
                go_loopg [5] a.ents.length (fun g s5 wr => ∃ i : Nat, i ≤ a.ents.length ∧ a.ents.length - i ≤ g ∧ s5 = .int .i64 i ∧ L = listEq entEq (a.ents.drop i) (b.ents.drop i) ∧ Ext wo wr)
                case atStart => exact ⟨0, Nat.zero_le _, by omega, rfl, HLS.out.symm, Ext.refl _⟩
                case round =>
                  obtain ⟨i, hi, hg, rfl, hL, xr⟩ := hrel
                  have hA := hA0.ext xr
                  have hB := hB0.ext xr
                  have a2 := hA.c2
                  have b2 := hB.c2
                  by_cases hlt : i < a.ents.length
                  · have hlt2 : i < b.ents.length := by have := HLE.out; omega
                    obtain ⟨p1, f1, rfl, hra1⟩ := ent_at S1.out O1.out i hlt
                    obtain ⟨p2, f2, rfl, hra2⟩ := ent_at S2.out O2.out i hlt2
                    have q1 := O1.out _ (List.getElem_mem hlt)
                    have q2 := O2.out _ (List.getElem_mem hlt2)
                    rw [List.drop_eq_getElem_cons hlt, List.drop_eq_getElem_cons hlt2, listEq] at hL
                    generalize a.ents[i] = x at *
                    generalize b.ents[i] = y at *
                    have hra1 := rangeAt_ext hra1 xr
                    have hra2 := rangeAt_ext hra2 xr
                    have hinf1 := ent_info q1
                    have hinf2 := ent_info q2
                    have hne := fun w => neq_ent w x y q1 q2
                    have i0 : (0 : Int) ≤ (i : Int) := Int.natCast_nonneg _
                    have i1 : (i : Int) < (a.ents.length : Int) := by omega
                    have i2 : (i : Int) < (b.ents.length : Int) := by omega
                    cases hxy : entEq x y with
                    | true =>
                      rw [hxy] at hL
                      have HL := Lib.hid hL
                      rw [show entEq x y = true from hxy] at hne
                      have HX := Lib.hid hxy
                      clear hL hxy q1 q2
                      go_wp2_with fail
                      refine wp_region_ext (by kernel_rfl) fun wd hqd xd hHeld => ?_
                      refine wpAnyH_take (i := 0) (v := ?vpa0) rfl (by kernel_rfl) (by kernel_rfl) (by kernel_rfl) (fun _ _ _ h => h) (Or.inl ⟨by rfl, ?hypa0⟩) hHeld ?_
                      case hypa0 => (intro w hSw; go_simp; try with_reducible rfl)
                      simp only [Act.put, List.setIfInBounds_toArray, List.set_cons_zero, List.set_cons_succ, List.getElem_toArray, List.getElem_cons_zero, List.getElem_cons_succ]
                      refine wpAnyH_take (i := 1) (v := ?vpa1) rfl (by kernel_rfl) (by kernel_rfl) (by kernel_rfl) (fun _ _ _ h => h) (Or.inl ⟨by rfl, ?hypa1⟩) hHeld ?_
                      case hypa1 => (intro w hSw; have k := hSw.cell (xd.cell a2); go_simp; try with_reducible rfl)
                      simp only [Act.put, List.setIfInBounds_toArray, List.set_cons_zero, List.set_cons_succ, List.getElem_toArray, List.getElem_cons_zero, List.getElem_cons_succ]
                      refine wpAnyH_take (i := 2) (v := ?vpa2) rfl (by kernel_rfl) (by kernel_rfl) (by kernel_rfl) (fun _ _ _ h => h) (Or.inl ⟨by rfl, ?hypa2⟩) hHeld ?_
                      case hypa2 => (intro w hSw; go_simp; try with_reducible rfl)
                      simp only [Act.put, List.setIfInBounds_toArray, List.set_cons_zero, List.set_cons_succ, List.getElem_toArray, List.getElem_cons_zero, List.getElem_cons_succ]
                      refine wpAnyH_take (i := 3) (v := ?vpa3) rfl (by kernel_rfl) (by kernel_rfl) (by kernel_rfl) (fun _ _ _ h => h) (Or.inl ⟨by rfl, ?hypa3⟩) hHeld ?_
                      case hypa3 => (intro w hSw; go_simp; try with_reducible rfl)
                      simp only [Act.put, List.setIfInBounds_toArray, List.set_cons_zero, List.set_cons_succ, List.getElem_toArray, List.getElem_cons_zero, List.getElem_cons_succ]
                      refine wpAnyH_take (i := 4) rfl (by kernel_rfl) (by kernel_rfl) (by kernel_rfl) (fun _ _ _ h => h) (yieldsIf_load_mid (by rfl) _ _ rfl _ _ rfl (entC x) _ (fun w h => rangeAt_ext (rangeAt_ext hra1 xd) h) Tryz.underlying80 rfl hinf1) hHeld ?_
                      simp only [Act.put, List.setIfInBounds_toArray, List.set_cons_zero, List.set_cons_succ, List.getElem_toArray, List.getElem_cons_zero, List.getElem_cons_succ]
                      refine wpAnyH_take (i := 5) (v := ?vpa5) rfl (by kernel_rfl) (by kernel_rfl) (by kernel_rfl) (fun _ _ _ h => h) (Or.inl ⟨by rfl, ?hypa5⟩) hHeld ?_
                      case hypa5 => (intro w hSw; go_simp; try with_reducible rfl)
                      simp only [Act.put, List.setIfInBounds_toArray, List.set_cons_zero, List.set_cons_succ, List.getElem_toArray, List.getElem_cons_zero, List.getElem_cons_succ]
                      refine wpAnyH_take (i := 6) (v := ?vpa6) rfl (by kernel_rfl) (by kernel_rfl) (by kernel_rfl) (fun _ _ _ h => h) (Or.inl ⟨by rfl, ?hypa6⟩) hHeld ?_
                      case hypa6 => (intro w hSw; have k := hSw.cell (xd.cell b2); go_simp; try with_reducible rfl)
                      simp only [Act.put, List.setIfInBounds_toArray, List.set_cons_zero, List.set_cons_succ, List.getElem_toArray, List.getElem_cons_zero, List.getElem_cons_succ]
                      refine wpAnyH_take (i := 7) (v := ?vpa7) rfl (by kernel_rfl) (by kernel_rfl) (by kernel_rfl) (fun _ _ _ h => h) (Or.inl ⟨by rfl, ?hypa7⟩) hHeld ?_
                      case hypa7 => (intro w hSw; go_simp; try with_reducible rfl)
                      simp only [Act.put, List.setIfInBounds_toArray, List.set_cons_zero, List.set_cons_succ, List.getElem_toArray, List.getElem_cons_zero, List.getElem_cons_succ]
                      refine wpAnyH_take (i := 8) (v := ?vpa8) rfl (by kernel_rfl) (by kernel_rfl) (by kernel_rfl) (fun _ _ _ h => h) (Or.inl ⟨by rfl, ?hypa8⟩) hHeld ?_
                      case hypa8 => (intro w hSw; go_simp; try with_reducible rfl)
                      simp only [Act.put, List.setIfInBounds_toArray, List.set_cons_zero, List.set_cons_succ, List.getElem_toArray, List.getElem_cons_zero, List.getElem_cons_succ]
                      refine wpAnyH_take (i := 9) rfl (by kernel_rfl) (by kernel_rfl) (by kernel_rfl) (fun _ _ _ h => h) (yieldsIf_load_mid (by rfl) _ _ rfl _ _ rfl (entC y) _ (fun w h => rangeAt_ext (rangeAt_ext hra2 xd) h) Tryz.underlying80 rfl hinf2) hHeld ?_
                      simp only [Act.put, List.setIfInBounds_toArray, List.set_cons_zero, List.set_cons_succ, List.getElem_toArray, List.getElem_cons_zero, List.getElem_cons_succ]
                      refine wpAnyH_take (i := 10) (v := ?vpa10) rfl (by kernel_rfl) (by kernel_rfl) (by kernel_rfl) (fun _ _ _ h => h) (Or.inl ⟨by rfl, ?hypa10⟩) hHeld ?_
                      case hypa10 => (intro w hSw; have k := hne w; go_simp; try with_reducible rfl)
                      simp only [Act.put, List.setIfInBounds_toArray, List.set_cons_zero, List.set_cons_succ, List.getElem_toArray, List.getElem_cons_zero, List.getElem_cons_succ]
                      refine wpAnyH_done (by kernel_rfl) ?_ _
                      refine NoPanic.normal ?_
                      go_wp2_with fail
                      go_roundg (a.ents.length - (i + 1))
                      case measure => omega
                      case rel => exact ⟨i + 1, by omega, by omega, by go_num, by rw [HL.out]; rfl, xr.trans xd⟩
                    | false =>
                      rw [hxy] at hL
                      have HL := Lib.hid hL
                      rw [show entEq x y = false from hxy] at hne
                      have HX := Lib.hid hxy
                      clear hL hxy q1 q2
                      go_wp2_with fail
                      refine wp_region_ext (by kernel_rfl) fun wd hqd xd hHeld => ?_
                      refine wpAnyH_take (i := 0) (v := ?vpb0) rfl (by kernel_rfl) (by kernel_rfl) (by kernel_rfl) (fun _ _ _ h => h) (Or.inl ⟨by rfl, ?hypb0⟩) hHeld ?_
                      case hypb0 => (intro w hSw; go_simp; try with_reducible rfl)
                      simp only [Act.put, List.setIfInBounds_toArray, List.set_cons_zero, List.set_cons_succ, List.getElem_toArray, List.getElem_cons_zero, List.getElem_cons_succ]
                      refine wpAnyH_take (i := 1) (v := ?vpb1) rfl (by kernel_rfl) (by kernel_rfl) (by kernel_rfl) (fun _ _ _ h => h) (Or.inl ⟨by rfl, ?hypb1⟩) hHeld ?_
                      case hypb1 => (intro w hSw; have k := hSw.cell (xd.cell a2); go_simp; try with_reducible rfl)
                      simp only [Act.put, List.setIfInBounds_toArray, List.set_cons_zero, List.set_cons_succ, List.getElem_toArray, List.getElem_cons_zero, List.getElem_cons_succ]
                      refine wpAnyH_take (i := 2) (v := ?vpb2) rfl (by kernel_rfl) (by kernel_rfl) (by kernel_rfl) (fun _ _ _ h => h) (Or.inl ⟨by rfl, ?hypb2⟩) hHeld ?_
                      case hypb2 => (intro w hSw; go_simp; try with_reducible rfl)
                      simp only [Act.put, List.setIfInBounds_toArray, List.set_cons_zero, List.set_cons_succ, List.getElem_toArray, List.getElem_cons_zero, List.getElem_cons_succ]
                      refine wpAnyH_take (i := 3) (v := ?vpb3) rfl (by kernel_rfl) (by kernel_rfl) (by kernel_rfl) (fun _ _ _ h => h) (Or.inl ⟨by rfl, ?hypb3⟩) hHeld ?_
                      case hypb3 => (intro w hSw; go_simp; try with_reducible rfl)
                      simp only [Act.put, List.setIfInBounds_toArray, List.set_cons_zero, List.set_cons_succ, List.getElem_toArray, List.getElem_cons_zero, List.getElem_cons_succ]
                      refine wpAnyH_take (i := 4) rfl (by kernel_rfl) (by kernel_rfl) (by kernel_rfl) (fun _ _ _ h => h) (yieldsIf_load_mid (by rfl) _ _ rfl _ _ rfl (entC x) _ (fun w h => rangeAt_ext (rangeAt_ext hra1 xd) h) Tryz.underlying80 rfl hinf1) hHeld ?_
                      simp only [Act.put, List.setIfInBounds_toArray, List.set_cons_zero, List.set_cons_succ, List.getElem_toArray, List.getElem_cons_zero, List.getElem_cons_succ]
                      refine wpAnyH_take (i := 5) (v := ?vpb5) rfl (by kernel_rfl) (by kernel_rfl) (by kernel_rfl) (fun _ _ _ h => h) (Or.inl ⟨by rfl, ?hypb5⟩) hHeld ?_
                      case hypb5 => (intro w hSw; go_simp; try with_reducible rfl)
                      simp only [Act.put, List.setIfInBounds_toArray, List.set_cons_zero, List.set_cons_succ, List.getElem_toArray, List.getElem_cons_zero, List.getElem_cons_succ]
                      refine wpAnyH_take (i := 6) (v := ?vpb6) rfl (by kernel_rfl) (by kernel_rfl) (by kernel_rfl) (fun _ _ _ h => h) (Or.inl ⟨by rfl, ?hypb6⟩) hHeld ?_
                      case hypb6 => (intro w hSw; have k := hSw.cell (xd.cell b2); go_simp; try with_reducible rfl)
                      simp only [Act.put, List.setIfInBounds_toArray, List.set_cons_zero, List.set_cons_succ, List.getElem_toArray, List.getElem_cons_zero, List.getElem_cons_succ]
                      refine wpAnyH_take (i := 7) (v := ?vpb7) rfl (by kernel_rfl) (by kernel_rfl) (by kernel_rfl) (fun _ _ _ h => h) (Or.inl ⟨by rfl, ?hypb7⟩) hHeld ?_
                      case hypb7 => (intro w hSw; go_simp; try with_reducible rfl)
                      simp only [Act.put, List.setIfInBounds_toArray, List.set_cons_zero, List.set_cons_succ, List.getElem_toArray, List.getElem_cons_zero, List.getElem_cons_succ]
                      refine wpAnyH_take (i := 8) (v := ?vpb8) rfl (by kernel_rfl) (by kernel_rfl) (by kernel_rfl) (fun _ _ _ h => h) (Or.inl ⟨by rfl, ?hypb8⟩) hHeld ?_
                      case hypb8 => (intro w hSw; go_simp; try with_reducible rfl)
                      simp only [Act.put, List.setIfInBounds_toArray, List.set_cons_zero, List.set_cons_succ, List.getElem_toArray, List.getElem_cons_zero, List.getElem_cons_succ]
                      refine wpAnyH_take (i := 9) rfl (by kernel_rfl) (by kernel_rfl) (by kernel_rfl) (fun _ _ _ h => h) (yieldsIf_load_mid (by rfl) _ _ rfl _ _ rfl (entC y) _ (fun w h => rangeAt_ext (rangeAt_ext hra2 xd) h) Tryz.underlying80 rfl hinf2) hHeld ?_
                      simp only [Act.put, List.setIfInBounds_toArray, List.set_cons_zero, List.set_cons_succ, List.getElem_toArray, List.getElem_cons_zero, List.getElem_cons_succ]
                      refine wpAnyH_take (i := 10) (v := ?vpb10) rfl (by kernel_rfl) (by kernel_rfl) (by kernel_rfl) (fun _ _ _ h => h) (Or.inl ⟨by rfl, ?hypb10⟩) hHeld ?_
                      case hypb10 => (intro w hSw; have k := hne w; go_simp; try with_reducible rfl)
                      simp only [Act.put, List.setIfInBounds_toArray, List.set_cons_zero, List.set_cons_succ, List.getElem_toArray, List.getElem_cons_zero, List.getElem_cons_succ]
                      refine wpAnyH_done (by kernel_rfl) ?_ _
                      refine NoPanic.normal ?_
                      go_wp2_with fail
                      go_ret
                      exact ⟨ret_bool (by rw [HR.out, HL.out]; simp), X.trans (xr.trans xd)⟩
                  · have e : i = a.ents.length := by omega
                    have hT : L = true := by rw [hL, e, List.drop_length, HLE.out, List.drop_length]; rfl
                    have HT := Lib.hid hT
                    clear hT hL
                    have X := X.trans xr
                    have HR2 : R = listEq idEq a.pars b.pars := by rw [HR.out, HT.out]; simp
                    have HR := Lib.hid HR2
                    clear HR2
                    have HA := Lib.hid (HA.out.ext xr)
                    have HB := Lib.hid (HB.out.ext xr)
                    go_wp2_with fail
                    clear HT HLS O1 O2 S1 S2 hA0 hB0 hi hg hlt e k1 m1 k2 m2
                    generalize hLs : listEq idEq a.pars b.pars = L at *
                    have o1 := HA.out.ok.pars
                    have o2 := HB.out.ok.pars
                    have s1 := HA.out.vp
                    have s2 := HB.out.vp
                    obtain ⟨_, k1, m1⟩ := sl_cap s1
                    obtain ⟨_, k2, m2⟩ := sl_cap s2
                    have O1 := Lib.hid o1
                    have O2 := Lib.hid o2
                    have S1 := Lib.hid s1
                    have S2 := Lib.hid s2
                    have HLS := Lib.hid hLs
                    clear o1 o2 s1 s2 hLs
                    obtain ⟨wo, rfl⟩ : ∃ wo : World, wo = wr := ⟨_, rfl⟩
                    have hA0 := hA
                    have hB0 := hB
                    go_loopg [6] a.pars.length (fun g s5 wr => ∃ i : Nat, i ≤ a.pars.length ∧ a.pars.length - i ≤ g ∧ s5 = .int .i64 i ∧ L = listEq idEq (a.pars.drop i) (b.pars.drop i) ∧ Ext wo wr)
                    case atStart => exact ⟨0, Nat.zero_le _, by omega, rfl, HLS.out.symm, Ext.refl _⟩
                    case round =>
                      obtain ⟨i, hi, hg, rfl, hL, xr⟩ := hrel
                      have hA := hA0.ext xr
                      have hB := hB0.ext xr
                      have a4 := hA.c4
                      have b4 := hB.c4
                      by_cases hlt : i < a.pars.length
                      · have hlt2 : i < b.pars.length := by have := HLP.out; omega
                        obtain ⟨p1, f1, rfl, hra1⟩ := ids_at S1.out O1.out i hlt
                        obtain ⟨p2, f2, rfl, hra2⟩ := ids_at S2.out O2.out i hlt2
                        have q1 := O1.out _ (List.getElem_mem hlt)
                        have q2 := O2.out _ (List.getElem_mem hlt2)
                        rw [List.drop_eq_getElem_cons hlt, List.drop_eq_getElem_cons hlt2, listEq] at hL
                        generalize a.pars[i] = x at *
                        generalize b.pars[i] = y at *
                        have hra1 := rangeAt_ext hra1 xr
                        have hra2 := rangeAt_ext hra2 xr
                        have hinf1 := idC_info q1
                        have hinf2 := idC_info q2
                        have hne := fun w => neq_idC w x y q1 q2
                        have i0 : (0 : Int) ≤ (i : Int) := Int.natCast_nonneg _
                        have i1 : (i : Int) < (a.pars.length : Int) := by omega
                        have i2 : (i : Int) < (b.pars.length : Int) := by omega
                        cases hxy : idEq x y with
                        | true =>
                          rw [hxy] at hL
                          have HL := Lib.hid hL
                          rw [show idEq x y = true from hxy] at hne
                          have HX := Lib.hid hxy
                          clear hL hxy q1 q2
                          go_wp2_with fail
                          refine wp_region_ext (by kernel_rfl) fun wd hqd xd hHeld => ?_
                          refine wpAnyH_take (i := 0) (v := ?vqa0) rfl (by kernel_rfl) (by kernel_rfl) (by kernel_rfl) (fun _ _ _ h => h) (Or.inl ⟨by rfl, ?hyqa0⟩) hHeld ?_
                          case hyqa0 => (intro w hSw; go_simp; try with_reducible rfl)
                          simp only [Act.put, List.setIfInBounds_toArray, List.set_cons_zero, List.set_cons_succ, List.getElem_toArray, List.getElem_cons_zero, List.getElem_cons_succ]
                          refine wpAnyH_take (i := 1) (v := ?vqa1) rfl (by kernel_rfl) (by kernel_rfl) (by kernel_rfl) (fun _ _ _ h => h) (Or.inl ⟨by rfl, ?hyqa1⟩) hHeld ?_
                          case hyqa1 => (intro w hSw; have k := hSw.cell (xd.cell a4); go_simp; try with_reducible rfl)
                          simp only [Act.put, List.setIfInBounds_toArray, List.set_cons_zero, List.set_cons_succ, List.getElem_toArray, List.getElem_cons_zero, List.getElem_cons_succ]
                          refine wpAnyH_take (i := 2) (v := ?vqa2) rfl (by kernel_rfl) (by kernel_rfl) (by kernel_rfl) (fun _ _ _ h => h) (Or.inl ⟨by rfl, ?hyqa2⟩) hHeld ?_
                          case hyqa2 => (intro w hSw; go_simp; try with_reducible rfl)
                          simp only [Act.put, List.setIfInBounds_toArray, List.set_cons_zero, List.set_cons_succ, List.getElem_toArray, List.getElem_cons_zero, List.getElem_cons_succ]
                          refine wpAnyH_take (i := 3) (v := ?vqa3) rfl (by kernel_rfl) (by kernel_rfl) (by kernel_rfl) (fun _ _ _ h => h) (Or.inl ⟨by rfl, ?hyqa3⟩) hHeld ?_
                          case hyqa3 => (intro w hSw; go_simp; try with_reducible rfl)
                          simp only [Act.put, List.setIfInBounds_toArray, List.set_cons_zero, List.set_cons_succ, List.getElem_toArray, List.getElem_cons_zero, List.getElem_cons_succ]
                          refine wpAnyH_take (i := 4) rfl (by kernel_rfl) (by kernel_rfl) (by kernel_rfl) (fun _ _ _ h => h) (yieldsIf_load_mid (by rfl) _ _ rfl _ _ rfl (idC x) _ (fun w h => rangeAt_ext (rangeAt_ext hra1 xd) h) Tryz.underlying31 rfl hinf1) hHeld ?_
                          simp only [Act.put, List.setIfInBounds_toArray, List.set_cons_zero, List.set_cons_succ, List.getElem_toArray, List.getElem_cons_zero, List.getElem_cons_succ]
                          refine wpAnyH_take (i := 5) (v := ?vqa5) rfl (by kernel_rfl) (by kernel_rfl) (by kernel_rfl) (fun _ _ _ h => h) (Or.inl ⟨by rfl, ?hyqa5⟩) hHeld ?_
                          case hyqa5 => (intro w hSw; go_simp; try with_reducible rfl)
                          simp only [Act.put, List.setIfInBounds_toArray, List.set_cons_zero, List.set_cons_succ, List.getElem_toArray, List.getElem_cons_zero, List.getElem_cons_succ]
                          refine wpAnyH_take (i := 6) (v := ?vqa6) rfl (by kernel_rfl) (by kernel_rfl) (by kernel_rfl) (fun _ _ _ h => h) (Or.inl ⟨by rfl, ?hyqa6⟩) hHeld ?_
                          case hyqa6 => (intro w hSw; have k := hSw.cell (xd.cell b4); go_simp; try with_reducible rfl)
                          simp only [Act.put, List.setIfInBounds_toArray, List.set_cons_zero, List.set_cons_succ, List.getElem_toArray, List.getElem_cons_zero, List.getElem_cons_succ]
                          refine wpAnyH_take (i := 7) (v := ?vqa7) rfl (by kernel_rfl) (by kernel_rfl) (by kernel_rfl) (fun _ _ _ h => h) (Or.inl ⟨by rfl, ?hyqa7⟩) hHeld ?_
                          case hyqa7 => (intro w hSw; go_simp; try with_reducible rfl)
                          simp only [Act.put, List.setIfInBounds_toArray, List.set_cons_zero, List.set_cons_succ, List.getElem_toArray, List.getElem_cons_zero, List.getElem_cons_succ]
                          refine wpAnyH_take (i := 8) (v := ?vqa8) rfl (by kernel_rfl) (by kernel_rfl) (by kernel_rfl) (fun _ _ _ h => h) (Or.inl ⟨by rfl, ?hyqa8⟩) hHeld ?_
                          case hyqa8 => (intro w hSw; go_simp; try with_reducible rfl)
                          simp only [Act.put, List.setIfInBounds_toArray, List.set_cons_zero, List.set_cons_succ, List.getElem_toArray, List.getElem_cons_zero, List.getElem_cons_succ]
                          refine wpAnyH_take (i := 9) rfl (by kernel_rfl) (by kernel_rfl) (by kernel_rfl) (fun _ _ _ h => h) (yieldsIf_load_mid (by rfl) _ _ rfl _ _ rfl (idC y) _ (fun w h => rangeAt_ext (rangeAt_ext hra2 xd) h) Tryz.underlying31 rfl hinf2) hHeld ?_
                          simp only [Act.put, List.setIfInBounds_toArray, List.set_cons_zero, List.set_cons_succ, List.getElem_toArray, List.getElem_cons_zero, List.getElem_cons_succ]
                          refine wpAnyH_take (i := 10) (v := ?vqa10) rfl (by kernel_rfl) (by kernel_rfl) (by kernel_rfl) (fun _ _ _ h => h) (Or.inl ⟨by rfl, ?hyqa10⟩) hHeld ?_
                          case hyqa10 => (intro w hSw; have k := hne w; go_simp; try with_reducible rfl)
                          simp only [Act.put, List.setIfInBounds_toArray, List.set_cons_zero, List.set_cons_succ, List.getElem_toArray, List.getElem_cons_zero, List.getElem_cons_succ]
                          refine wpAnyH_done (by kernel_rfl) ?_ _
                          refine NoPanic.normal ?_
                          go_wp2_with fail
                          go_roundg (a.pars.length - (i + 1))
                          case measure => omega
                          case rel => exact ⟨i + 1, by omega, by omega, by go_num, by rw [HL.out]; rfl, xr.trans xd⟩
                        | false =>
                          rw [hxy] at hL
                          have HL := Lib.hid hL
                          rw [show idEq x y = false from hxy] at hne
                          have HX := Lib.hid hxy
                          clear hL hxy q1 q2
                          go_wp2_with fail
                          refine wp_region_ext (by kernel_rfl) fun wd hqd xd hHeld => ?_
                          refine wpAnyH_take (i := 0) (v := ?vqb0) rfl (by kernel_rfl) (by kernel_rfl) (by kernel_rfl) (fun _ _ _ h => h) (Or.inl ⟨by rfl, ?hyqb0⟩) hHeld ?_
                          case hyqb0 => (intro w hSw; go_simp; try with_reducible rfl)
                          simp only [Act.put, List.setIfInBounds_toArray, List.set_cons_zero, List.set_cons_succ, List.getElem_toArray, List.getElem_cons_zero, List.getElem_cons_succ]
                          refine wpAnyH_take (i := 1) (v := ?vqb1) rfl (by kernel_rfl) (by kernel_rfl) (by kernel_rfl) (fun _ _ _ h => h) (Or.inl ⟨by rfl, ?hyqb1⟩) hHeld ?_
                          case hyqb1 => (intro w hSw; have k := hSw.cell (xd.cell a4); go_simp; try with_reducible rfl)
                          simp only [Act.put, List.setIfInBounds_toArray, List.set_cons_zero, List.set_cons_succ, List.getElem_toArray, List.getElem_cons_zero, List.getElem_cons_succ]
                          refine wpAnyH_take (i := 2) (v := ?vqb2) rfl (by kernel_rfl) (by kernel_rfl) (by kernel_rfl) (fun _ _ _ h => h) (Or.inl ⟨by rfl, ?hyqb2⟩) hHeld ?_
                          case hyqb2 => (intro w hSw; go_simp; try with_reducible rfl)
                          simp only [Act.put, List.setIfInBounds_toArray, List.set_cons_zero, List.set_cons_succ, List.getElem_toArray, List.getElem_cons_zero, List.getElem_cons_succ]
                          refine wpAnyH_take (i := 3) (v := ?vqb3) rfl (by kernel_rfl) (by kernel_rfl) (by kernel_rfl) (fun _ _ _ h => h) (Or.inl ⟨by rfl, ?hyqb3⟩) hHeld ?_
                          case hyqb3 => (intro w hSw; go_simp; try with_reducible rfl)
                          simp only [Act.put, List.setIfInBounds_toArray, List.set_cons_zero, List.set_cons_succ, List.getElem_toArray, List.getElem_cons_zero, List.getElem_cons_succ]
                          refine wpAnyH_take (i := 4) rfl (by kernel_rfl) (by kernel_rfl) (by kernel_rfl) (fun _ _ _ h => h) (yieldsIf_load_mid (by rfl) _ _ rfl _ _ rfl (idC x) _ (fun w h => rangeAt_ext (rangeAt_ext hra1 xd) h) Tryz.underlying31 rfl hinf1) hHeld ?_
                          simp only [Act.put, List.setIfInBounds_toArray, List.set_cons_zero, List.set_cons_succ, List.getElem_toArray, List.getElem_cons_zero, List.getElem_cons_succ]
                          refine wpAnyH_take (i := 5) (v := ?vqb5) rfl (by kernel_rfl) (by kernel_rfl) (by kernel_rfl) (fun _ _ _ h => h) (Or.inl ⟨by rfl, ?hyqb5⟩) hHeld ?_
                          case hyqb5 => (intro w hSw; go_simp; try with_reducible rfl)
                          simp only [Act.put, List.setIfInBounds_toArray, List.set_cons_zero, List.set_cons_succ, List.getElem_toArray, List.getElem_cons_zero, List.getElem_cons_succ]
                          refine wpAnyH_take (i := 6) (v := ?vqb6) rfl (by kernel_rfl) (by kernel_rfl) (by kernel_rfl) (fun _ _ _ h => h) (Or.inl ⟨by rfl, ?hyqb6⟩) hHeld ?_
                          case hyqb6 => (intro w hSw; have k := hSw.cell (xd.cell b4); go_simp; try with_reducible rfl)
                          simp only [Act.put, List.setIfInBounds_toArray, List.set_cons_zero, List.set_cons_succ, List.getElem_toArray, List.getElem_cons_zero, List.getElem_cons_succ]
                          refine wpAnyH_take (i := 7) (v := ?vqb7) rfl (by kernel_rfl) (by kernel_rfl) (by kernel_rfl) (fun _ _ _ h => h) (Or.inl ⟨by rfl, ?hyqb7⟩) hHeld ?_
                          case hyqb7 => (intro w hSw; go_simp; try with_reducible rfl)
                          simp only [Act.put, List.setIfInBounds_toArray, List.set_cons_zero, List.set_cons_succ, List.getElem_toArray, List.getElem_cons_zero, List.getElem_cons_succ]
                          refine wpAnyH_take (i := 8) (v := ?vqb8) rfl (by kernel_rfl) (by kernel_rfl) (by kernel_rfl) (fun _ _ _ h => h) (Or.inl ⟨by rfl, ?hyqb8⟩) hHeld ?_
                          case hyqb8 => (intro w hSw; go_simp; try with_reducible rfl)
                          simp only [Act.put, List.setIfInBounds_toArray, List.set_cons_zero, List.set_cons_succ, List.getElem_toArray, List.getElem_cons_zero, List.getElem_cons_succ]
                          refine wpAnyH_take (i := 9) rfl (by kernel_rfl) (by kernel_rfl) (by kernel_rfl) (fun _ _ _ h => h) (yieldsIf_load_mid (by rfl) _ _ rfl _ _ rfl (idC y) _ (fun w h => rangeAt_ext (rangeAt_ext hra2 xd) h) Tryz.underlying31 rfl hinf2) hHeld ?_
                          simp only [Act.put, List.setIfInBounds_toArray, List.set_cons_zero, List.set_cons_succ, List.getElem_toArray, List.getElem_cons_zero, List.getElem_cons_succ]
                          refine wpAnyH_take (i := 10) (v := ?vqb10) rfl (by kernel_rfl) (by kernel_rfl) (by kernel_rfl) (fun _ _ _ h => h) (Or.inl ⟨by rfl, ?hyqb10⟩) hHeld ?_
                          case hyqb10 => (intro w hSw; have k := hne w; go_simp; try with_reducible rfl)
                          simp only [Act.put, List.setIfInBounds_toArray, List.set_cons_zero, List.set_cons_succ, List.getElem_toArray, List.getElem_cons_zero, List.getElem_cons_succ]
                          refine wpAnyH_done (by kernel_rfl) ?_ _
                          refine NoPanic.normal ?_
                          go_wp2_with fail
                          go_ret
                          exact ⟨ret_bool (by rw [HR.out, HL.out]; simp), X.trans (xr.trans xd)⟩
                      · have e : i = a.pars.length := by omega
                        have hT : L = true := by rw [hL, e, List.drop_length, HLP.out, List.drop_length]; rfl
                        have HT := Lib.hid hT
                        clear hT hL
                        go_wp2_with fail
                        go_ret
                        exact ⟨ret_bool (by rw [HR.out, HT.out]), X.trans xr⟩
end Go.Proofs.YtpadfabjihaapaaGreatDoor
