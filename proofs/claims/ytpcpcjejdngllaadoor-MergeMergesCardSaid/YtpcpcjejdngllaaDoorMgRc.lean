/- The reference of merging: Clash. -/
import Derived.Test.YtpcpcjejdngllaaDoorMgR2
import Derived.Test.YtpcpcjejdngllaaDoorMgG
namespace Go.Proofs.YtpcpcjejdngllaaDoor
open Go.RowKit
set_option linter.unusedVariables false
set_option linter.unusedSimpArgs false

theorem results_cellT {P : Program} {fn : Func} {p q : Tmp} {ty : TypeId} (h : fn.results = #[.cell p ty, .tmp q]) (tmps : Array Value) (w : World) (g : Nat) (t : TypeId) (cs : Array Value) (fr : Nat × Nat) (d : TypeDesc)
    (hp : tmps.getD p undef = .pointer (some ⟨g, 0, none⟩)) (hg : w.heap[g]? = some (.cells cs t fr))
    (hu : P.underlying ty = some d) (hd : (match d with | .struct _ | .array _ _ => true | _ => false) = true) (hi : (P.info? ty).map (·.size) = some cs.size) :
    (results fn tmps).run P w = .ok (.tuple #[.agg cs, tmps.getD q undef]) w := by
  have hp' : tmps[p]?.getD undef = .pointer (some ⟨g, 0, none⟩) := by simpa using hp
  simp [results, h, hp', asAddr, run_loadVar_row w g t ty cs fr d hg hu hd hi]
theorem info7M (a b c d e f g : Value) : (Tryd.prog.info? 40).map (·.size) = some (#[a, b, c, d, e, f, g] : Array Value).size := by show _ = some 7; kernel_rfl
theorem ret_tup {v : Value} {a b : Bool} (h : a = b) : Ending.returned (.tuple #[v, .bool a]) = Ending.returned (.tuple #[v, .bool b]) := by rw [h]
theorem mb_cases (x y : Mb) : (x.2.toList == y.2.toList) = false ∧ decide (x = y) = false ∨ ((x.2.toList == y.2.toList) = true ∧ (x.1 == y.1) = false ∧ decide (x = y) = false) ∨ ((x.2.toList == y.2.toList) = true ∧ (x.1 == y.1) = true ∧ decide (x = y) = true) := by
  cases hs : (x.2.toList == y.2.toList) with
  | false => exact .inl ⟨rfl, decide_eq_false fun e => by rw [e] at hs; simp at hs⟩
  | true =>
    cases hb : (x.1 == y.1) with
    | false => exact .inr (.inl ⟨rfl, rfl, decide_eq_false fun e => by rw [e] at hb; simp at hb⟩)
    | true =>
      refine .inr (.inr ⟨rfl, rfl, decide_eq_true ?_⟩)
      have h1 : x.2 = y.2 := beq_path.1 hs
      have h2 : x.1 = y.1 := by simpa using hb
      exact Prod.ext h2 h1

set_option maxHeartbeats 8000000 in
set_option maxRecDepth 100000 in
theorem refClash (w : World) (v0 v1 v2 : Value) (f0 f1 f2 : List Fl) (p : ByteArray) (h0 : IsF w v0 f0) (h1 : IsF w v1 f1) (h2 : IsF w v2 f2) :
    Calls Tryd.prog 33 #[.agg #[v0], .agg #[v1], .agg #[v2], .string p] w fun e w' => e = .returned (.tuple #[.agg #[.string p, .string (atM f0 p).2, .string (atM f1 p).2, .string (atM f2 p).2, .bool (atM f0 p).1, .bool (atM f1 p).1, .bool (atM f2 p).1], .bool (clashM (atM f0 p) (atM f1 p) (atM f2 p))]) ∧ Ext w w' := by
  obtain ⟨M0, hM0⟩ : ∃ m, atM f0 p = m := ⟨_, rfl⟩
  obtain ⟨M1, hM1⟩ : ∃ m, atM f1 p = m := ⟨_, rfl⟩
  obtain ⟨M2, hM2⟩ : ∃ m, atM f2 p = m := ⟨_, rfl⟩
  have HM0 := Lib.hid hM0
  have HM1 := Lib.hid hM1
  have HM2 := Lib.hid hM2
  rw [hM0, hM1, hM2]
  clear hM0 hM1 hM2
  obtain ⟨C, hC⟩ : ∃ C, clashM M0 M1 M2 = C := ⟨_, rfl⟩
  rw [hC]
  unfold clashM at hC
  obtain ⟨q0, t0⟩ := M0
  obtain ⟨q1, t1⟩ := M1
  obtain ⟨q2, t2⟩ := M2
  have D01 := Lib.hid (mb_cases (q0, t0) (q1, t1))
  have D02 := Lib.hid (mb_cases (q0, t0) (q2, t2))
  have D12 := Lib.hid (mb_cases (q1, t1) (q2, t2))
  have HC := Lib.hid hC
  clear hC
  dsimp only
  obtain ⟨a0, c0, rfl, -⟩ := h0.opened
  obtain ⟨a1, c1, rfl, -⟩ := h1.opened
  obtain ⟨a2, c2, rfl, -⟩ := h2.opened
  have X : Ext w ((((w.alloc (.cells #[.slice a0 f0.length c0] 24)).alloc (.cells #[.slice a1 f1.length c1] 24)).alloc (.cells #[.slice a2 f2.length c2] 24)).alloc (.cells #[.string ⟨#[]⟩, .string ⟨#[]⟩, .string ⟨#[]⟩, .string ⟨#[]⟩, .bool false, .bool false, .bool false] 40)) := ((((Ext.refl w).alloc _).alloc _).alloc _).alloc _
  have g0 := blk_old (o := (.cells #[.string ⟨#[]⟩, .string ⟨#[]⟩, .string ⟨#[]⟩, .string ⟨#[]⟩, .bool false, .bool false, .bool false] 40)) (blk_old (o := (.cells #[.slice a2 f2.length c2] 24)) (blk_old (o := (.cells #[.slice a1 f1.length c1] 24)) (heap_alloc_new w (.cells #[.slice a0 f0.length c0] 24))))
  have g1 := blk_old (o := (.cells #[.string ⟨#[]⟩, .string ⟨#[]⟩, .string ⟨#[]⟩, .string ⟨#[]⟩, .bool false, .bool false, .bool false] 40)) (blk_old (o := (.cells #[.slice a2 f2.length c2] 24)) (blk_new (w := w.alloc (.cells #[.slice a0 f0.length c0] 24)) (b := w.heap.size + 1) (o := (.cells #[.slice a1 f1.length c1] 24)) (by simp)))
  have g2 := blk_old (o := (.cells #[.string ⟨#[]⟩, .string ⟨#[]⟩, .string ⟨#[]⟩, .string ⟨#[]⟩, .bool false, .bool false, .bool false] 40)) (blk_new (w := (w.alloc (.cells #[.slice a0 f0.length c0] 24)).alloc (.cells #[.slice a1 f1.length c1] 24)) (b := w.heap.size + 1 + 1) (o := (.cells #[.slice a2 f2.length c2] 24)) (by simp))
  have bR := blk_new (w := ((w.alloc (.cells #[.slice a0 f0.length c0] 24)).alloc (.cells #[.slice a1 f1.length c1] 24)).alloc (.cells #[.slice a2 f2.length c2] 24)) (b := w.heap.size + 1 + 1 + 1) (o := (.cells #[.string ⟨#[]⟩, .string ⟨#[]⟩, .string ⟨#[]⟩, .string ⟨#[]⟩, .bool false, .bool false, .bool false] 40)) (by simp)
  have k0 := (block_cell g0 0).trans (show _ = some (Value.slice a0 f0.length c0) from rfl)
  have k1 := (block_cell g1 0).trans (show _ = some (Value.slice a1 f1.length c1) from rfl)
  have k2 := (block_cell g2 0).trans (show _ = some (Value.slice a2 f2.length c2) from rfl)
  have h0 := h0.ext X
  have h1 := h1.ext X
  have h2 := h2.ext X
  clear g0 g1 g2
  go_enter Tryd.func33, Tryd.ntmps33
  go_wp2_with fail
  generalize (((w.alloc (.cells #[.slice a0 f0.length c0] 24)).alloc (.cells #[.slice a1 f1.length c1] 24)).alloc (.cells #[.slice a2 f2.length c2] 24)).alloc (.cells #[.string ⟨#[]⟩, .string ⟨#[]⟩, .string ⟨#[]⟩, .string ⟨#[]⟩, .bool false, .bool false, .bool false] 40) = w5 at *
  generalize hG : w.heap.size = G at *
  have E0 := refAt w5 _ f0 p h0
  rw [HM0.out] at E0
  refine Calls.mono E0 ?_
  rintro e w6 ⟨rfl, y⟩
  have k1 := y.cell k1
  have k2 := y.cell k2
  have h1 := h1.ext y
  have h2 := h2.ext y
  have bR := y.keeps bR
  have X := X.trans y
  clear E0 y k0 h0
  have E1 := refAt w6 _ f1 p h1
  rw [HM1.out] at E1
  go_wp2_with fail
  refine Calls.mono E1 ?_
  rintro e w7 ⟨rfl, y⟩
  have k2 := y.cell k2
  have h2 := h2.ext y
  have bR := y.keeps bR
  have X := X.trans y
  clear E1 y k1 h1
  have E2 := refAt w7 _ f2 p h2
  rw [HM2.out] at E2
  go_wp2_with fail
  refine Calls.mono E2 ?_
  rintro e w8 ⟨rfl, y⟩
  have bR := y.keeps bR
  have X := X.trans y
  clear E2 y k2 h2 HM0 HM1 HM2
  have hC := HC.out
  have d01 := D01.out
  have d02 := D02.out
  have d12 := D12.out
  have bN := heap_alloc_new w8 (.cells #[.string p, .string t0, .string t1, .string t2, .bool q0, .bool q1, .bool q2] 40)
  have y := (Ext.refl w8).alloc (.cells #[.string p, .string t0, .string t1, .string t2, .bool q0, .bool q1, .bool q2] 40)
  have bR := y.keeps bR
  have X := X.trans y
  have n0 := (block_cell bN 0).trans (show _ = some (Value.string p) from rfl)
  have n1 := (block_cell bN 1).trans (show _ = some (Value.string t0) from rfl)
  have n2 := (block_cell bN 2).trans (show _ = some (Value.string t1) from rfl)
  have n3 := (block_cell bN 3).trans (show _ = some (Value.string t2) from rfl)
  have n4 := (block_cell bN 4).trans (show _ = some (Value.bool q0) from rfl)
  have n5 := (block_cell bN 5).trans (show _ = some (Value.bool q1) from rfl)
  have n6 := (block_cell bN 6).trans (show _ = some (Value.bool q2) from rfl)
  clear y bN
  rcases d01 with ⟨sd01, zd01⟩ | ⟨sd01, bd01, zd01⟩ | ⟨sd01, bd01, zd01⟩
  · rw [zd01] at hC
    rcases d02 with ⟨sd02, zd02⟩ | ⟨sd02, bd02, zd02⟩ | ⟨sd02, bd02, zd02⟩
    · rw [zd02] at hC
      rcases d12 with ⟨sd12, zd12⟩ | ⟨sd12, bd12, zd12⟩ | ⟨sd12, bd12, zd12⟩
      · rw [zd12] at hC
        go_wp2_with ((with_reducible refine at_store 40 (.tmp 8) (.tmp 72) ?_); refine wpl_store (by rfl) 40 (.tmp 8) (.tmp 72) rfl (G + 1 + 1 + 1) #[.string p, .string t0, .string t1, .string t2, .bool q0, .bool q1, .bool q2] (by rfl) (by rfl) 40 _ bR (info7M _ _ _ _ _ _ _) rfl (by simp [Value.oneCell']) ?_)
        refine bodyPost_ret (results_cellT rfl _ _ (G + 1 + 1 + 1) _ _ _ _ (by rfl) (setRow_heap _ _ _ #[.string p, .string t0, .string t1, .string t2, .bool q0, .bool q1, .bool q2] _ _ bR) Tryd.underlying40 rfl (info7M _ _ _ _ _ _ _)) rfl ?_
        exact ⟨ret_tup (by rw [← hC]; rfl), X.grown (grown_rowM (g := G + 1 + 1 + 1)) (fun k hk => by cases hk; omega)⟩
      · rw [zd12] at hC
        go_wp2_with ((with_reducible refine at_store 40 (.tmp 8) (.tmp 72) ?_); refine wpl_store (by rfl) 40 (.tmp 8) (.tmp 72) rfl (G + 1 + 1 + 1) #[.string p, .string t0, .string t1, .string t2, .bool q0, .bool q1, .bool q2] (by rfl) (by rfl) 40 _ bR (info7M _ _ _ _ _ _ _) rfl (by simp [Value.oneCell']) ?_)
        refine bodyPost_ret (results_cellT rfl _ _ (G + 1 + 1 + 1) _ _ _ _ (by rfl) (setRow_heap _ _ _ #[.string p, .string t0, .string t1, .string t2, .bool q0, .bool q1, .bool q2] _ _ bR) Tryd.underlying40 rfl (info7M _ _ _ _ _ _ _)) rfl ?_
        exact ⟨ret_tup (by rw [← hC]; rfl), X.grown (grown_rowM (g := G + 1 + 1 + 1)) (fun k hk => by cases hk; omega)⟩
      · rw [zd12] at hC
        go_wp2_with ((with_reducible refine at_store 40 (.tmp 8) (.tmp 72) ?_); refine wpl_store (by rfl) 40 (.tmp 8) (.tmp 72) rfl (G + 1 + 1 + 1) #[.string p, .string t0, .string t1, .string t2, .bool q0, .bool q1, .bool q2] (by rfl) (by rfl) 40 _ bR (info7M _ _ _ _ _ _ _) rfl (by simp [Value.oneCell']) ?_)
        refine bodyPost_ret (results_cellT rfl _ _ (G + 1 + 1 + 1) _ _ _ _ (by rfl) (setRow_heap _ _ _ #[.string p, .string t0, .string t1, .string t2, .bool q0, .bool q1, .bool q2] _ _ bR) Tryd.underlying40 rfl (info7M _ _ _ _ _ _ _)) rfl ?_
        exact ⟨ret_tup (by rw [← hC]; rfl), X.grown (grown_rowM (g := G + 1 + 1 + 1)) (fun k hk => by cases hk; omega)⟩
    · rw [zd02] at hC
      rcases d12 with ⟨sd12, zd12⟩ | ⟨sd12, bd12, zd12⟩ | ⟨sd12, bd12, zd12⟩
      · rw [zd12] at hC
        go_wp2_with ((with_reducible refine at_store 40 (.tmp 8) (.tmp 72) ?_); refine wpl_store (by rfl) 40 (.tmp 8) (.tmp 72) rfl (G + 1 + 1 + 1) #[.string p, .string t0, .string t1, .string t2, .bool q0, .bool q1, .bool q2] (by rfl) (by rfl) 40 _ bR (info7M _ _ _ _ _ _ _) rfl (by simp [Value.oneCell']) ?_)
        refine bodyPost_ret (results_cellT rfl _ _ (G + 1 + 1 + 1) _ _ _ _ (by rfl) (setRow_heap _ _ _ #[.string p, .string t0, .string t1, .string t2, .bool q0, .bool q1, .bool q2] _ _ bR) Tryd.underlying40 rfl (info7M _ _ _ _ _ _ _)) rfl ?_
        exact ⟨ret_tup (by rw [← hC]; rfl), X.grown (grown_rowM (g := G + 1 + 1 + 1)) (fun k hk => by cases hk; omega)⟩
      · rw [zd12] at hC
        go_wp2_with ((with_reducible refine at_store 40 (.tmp 8) (.tmp 72) ?_); refine wpl_store (by rfl) 40 (.tmp 8) (.tmp 72) rfl (G + 1 + 1 + 1) #[.string p, .string t0, .string t1, .string t2, .bool q0, .bool q1, .bool q2] (by rfl) (by rfl) 40 _ bR (info7M _ _ _ _ _ _ _) rfl (by simp [Value.oneCell']) ?_)
        refine bodyPost_ret (results_cellT rfl _ _ (G + 1 + 1 + 1) _ _ _ _ (by rfl) (setRow_heap _ _ _ #[.string p, .string t0, .string t1, .string t2, .bool q0, .bool q1, .bool q2] _ _ bR) Tryd.underlying40 rfl (info7M _ _ _ _ _ _ _)) rfl ?_
        exact ⟨ret_tup (by rw [← hC]; rfl), X.grown (grown_rowM (g := G + 1 + 1 + 1)) (fun k hk => by cases hk; omega)⟩
      · rw [zd12] at hC
        go_wp2_with ((with_reducible refine at_store 40 (.tmp 8) (.tmp 72) ?_); refine wpl_store (by rfl) 40 (.tmp 8) (.tmp 72) rfl (G + 1 + 1 + 1) #[.string p, .string t0, .string t1, .string t2, .bool q0, .bool q1, .bool q2] (by rfl) (by rfl) 40 _ bR (info7M _ _ _ _ _ _ _) rfl (by simp [Value.oneCell']) ?_)
        refine bodyPost_ret (results_cellT rfl _ _ (G + 1 + 1 + 1) _ _ _ _ (by rfl) (setRow_heap _ _ _ #[.string p, .string t0, .string t1, .string t2, .bool q0, .bool q1, .bool q2] _ _ bR) Tryd.underlying40 rfl (info7M _ _ _ _ _ _ _)) rfl ?_
        exact ⟨ret_tup (by rw [← hC]; rfl), X.grown (grown_rowM (g := G + 1 + 1 + 1)) (fun k hk => by cases hk; omega)⟩
    · rw [zd02] at hC
      go_wp2_with ((with_reducible refine at_store 40 (.tmp 8) (.tmp 72) ?_); refine wpl_store (by rfl) 40 (.tmp 8) (.tmp 72) rfl (G + 1 + 1 + 1) #[.string p, .string t0, .string t1, .string t2, .bool q0, .bool q1, .bool q2] (by rfl) (by rfl) 40 _ bR (info7M _ _ _ _ _ _ _) rfl (by simp [Value.oneCell']) ?_)
      refine bodyPost_ret (results_cellT rfl _ _ (G + 1 + 1 + 1) _ _ _ _ (by rfl) (setRow_heap _ _ _ #[.string p, .string t0, .string t1, .string t2, .bool q0, .bool q1, .bool q2] _ _ bR) Tryd.underlying40 rfl (info7M _ _ _ _ _ _ _)) rfl ?_
      exact ⟨ret_tup (by rw [← hC]; rfl), X.grown (grown_rowM (g := G + 1 + 1 + 1)) (fun k hk => by cases hk; omega)⟩
  · rw [zd01] at hC
    rcases d02 with ⟨sd02, zd02⟩ | ⟨sd02, bd02, zd02⟩ | ⟨sd02, bd02, zd02⟩
    · rw [zd02] at hC
      rcases d12 with ⟨sd12, zd12⟩ | ⟨sd12, bd12, zd12⟩ | ⟨sd12, bd12, zd12⟩
      · rw [zd12] at hC
        go_wp2_with ((with_reducible refine at_store 40 (.tmp 8) (.tmp 72) ?_); refine wpl_store (by rfl) 40 (.tmp 8) (.tmp 72) rfl (G + 1 + 1 + 1) #[.string p, .string t0, .string t1, .string t2, .bool q0, .bool q1, .bool q2] (by rfl) (by rfl) 40 _ bR (info7M _ _ _ _ _ _ _) rfl (by simp [Value.oneCell']) ?_)
        refine bodyPost_ret (results_cellT rfl _ _ (G + 1 + 1 + 1) _ _ _ _ (by rfl) (setRow_heap _ _ _ #[.string p, .string t0, .string t1, .string t2, .bool q0, .bool q1, .bool q2] _ _ bR) Tryd.underlying40 rfl (info7M _ _ _ _ _ _ _)) rfl ?_
        exact ⟨ret_tup (by rw [← hC]; rfl), X.grown (grown_rowM (g := G + 1 + 1 + 1)) (fun k hk => by cases hk; omega)⟩
      · rw [zd12] at hC
        go_wp2_with ((with_reducible refine at_store 40 (.tmp 8) (.tmp 72) ?_); refine wpl_store (by rfl) 40 (.tmp 8) (.tmp 72) rfl (G + 1 + 1 + 1) #[.string p, .string t0, .string t1, .string t2, .bool q0, .bool q1, .bool q2] (by rfl) (by rfl) 40 _ bR (info7M _ _ _ _ _ _ _) rfl (by simp [Value.oneCell']) ?_)
        refine bodyPost_ret (results_cellT rfl _ _ (G + 1 + 1 + 1) _ _ _ _ (by rfl) (setRow_heap _ _ _ #[.string p, .string t0, .string t1, .string t2, .bool q0, .bool q1, .bool q2] _ _ bR) Tryd.underlying40 rfl (info7M _ _ _ _ _ _ _)) rfl ?_
        exact ⟨ret_tup (by rw [← hC]; rfl), X.grown (grown_rowM (g := G + 1 + 1 + 1)) (fun k hk => by cases hk; omega)⟩
      · rw [zd12] at hC
        go_wp2_with ((with_reducible refine at_store 40 (.tmp 8) (.tmp 72) ?_); refine wpl_store (by rfl) 40 (.tmp 8) (.tmp 72) rfl (G + 1 + 1 + 1) #[.string p, .string t0, .string t1, .string t2, .bool q0, .bool q1, .bool q2] (by rfl) (by rfl) 40 _ bR (info7M _ _ _ _ _ _ _) rfl (by simp [Value.oneCell']) ?_)
        refine bodyPost_ret (results_cellT rfl _ _ (G + 1 + 1 + 1) _ _ _ _ (by rfl) (setRow_heap _ _ _ #[.string p, .string t0, .string t1, .string t2, .bool q0, .bool q1, .bool q2] _ _ bR) Tryd.underlying40 rfl (info7M _ _ _ _ _ _ _)) rfl ?_
        exact ⟨ret_tup (by rw [← hC]; rfl), X.grown (grown_rowM (g := G + 1 + 1 + 1)) (fun k hk => by cases hk; omega)⟩
    · rw [zd02] at hC
      rcases d12 with ⟨sd12, zd12⟩ | ⟨sd12, bd12, zd12⟩ | ⟨sd12, bd12, zd12⟩
      · rw [zd12] at hC
        go_wp2_with ((with_reducible refine at_store 40 (.tmp 8) (.tmp 72) ?_); refine wpl_store (by rfl) 40 (.tmp 8) (.tmp 72) rfl (G + 1 + 1 + 1) #[.string p, .string t0, .string t1, .string t2, .bool q0, .bool q1, .bool q2] (by rfl) (by rfl) 40 _ bR (info7M _ _ _ _ _ _ _) rfl (by simp [Value.oneCell']) ?_)
        refine bodyPost_ret (results_cellT rfl _ _ (G + 1 + 1 + 1) _ _ _ _ (by rfl) (setRow_heap _ _ _ #[.string p, .string t0, .string t1, .string t2, .bool q0, .bool q1, .bool q2] _ _ bR) Tryd.underlying40 rfl (info7M _ _ _ _ _ _ _)) rfl ?_
        exact ⟨ret_tup (by rw [← hC]; rfl), X.grown (grown_rowM (g := G + 1 + 1 + 1)) (fun k hk => by cases hk; omega)⟩
      · rw [zd12] at hC
        go_wp2_with ((with_reducible refine at_store 40 (.tmp 8) (.tmp 72) ?_); refine wpl_store (by rfl) 40 (.tmp 8) (.tmp 72) rfl (G + 1 + 1 + 1) #[.string p, .string t0, .string t1, .string t2, .bool q0, .bool q1, .bool q2] (by rfl) (by rfl) 40 _ bR (info7M _ _ _ _ _ _ _) rfl (by simp [Value.oneCell']) ?_)
        refine bodyPost_ret (results_cellT rfl _ _ (G + 1 + 1 + 1) _ _ _ _ (by rfl) (setRow_heap _ _ _ #[.string p, .string t0, .string t1, .string t2, .bool q0, .bool q1, .bool q2] _ _ bR) Tryd.underlying40 rfl (info7M _ _ _ _ _ _ _)) rfl ?_
        exact ⟨ret_tup (by rw [← hC]; rfl), X.grown (grown_rowM (g := G + 1 + 1 + 1)) (fun k hk => by cases hk; omega)⟩
      · rw [zd12] at hC
        go_wp2_with ((with_reducible refine at_store 40 (.tmp 8) (.tmp 72) ?_); refine wpl_store (by rfl) 40 (.tmp 8) (.tmp 72) rfl (G + 1 + 1 + 1) #[.string p, .string t0, .string t1, .string t2, .bool q0, .bool q1, .bool q2] (by rfl) (by rfl) 40 _ bR (info7M _ _ _ _ _ _ _) rfl (by simp [Value.oneCell']) ?_)
        refine bodyPost_ret (results_cellT rfl _ _ (G + 1 + 1 + 1) _ _ _ _ (by rfl) (setRow_heap _ _ _ #[.string p, .string t0, .string t1, .string t2, .bool q0, .bool q1, .bool q2] _ _ bR) Tryd.underlying40 rfl (info7M _ _ _ _ _ _ _)) rfl ?_
        exact ⟨ret_tup (by rw [← hC]; rfl), X.grown (grown_rowM (g := G + 1 + 1 + 1)) (fun k hk => by cases hk; omega)⟩
    · rw [zd02] at hC
      go_wp2_with ((with_reducible refine at_store 40 (.tmp 8) (.tmp 72) ?_); refine wpl_store (by rfl) 40 (.tmp 8) (.tmp 72) rfl (G + 1 + 1 + 1) #[.string p, .string t0, .string t1, .string t2, .bool q0, .bool q1, .bool q2] (by rfl) (by rfl) 40 _ bR (info7M _ _ _ _ _ _ _) rfl (by simp [Value.oneCell']) ?_)
      refine bodyPost_ret (results_cellT rfl _ _ (G + 1 + 1 + 1) _ _ _ _ (by rfl) (setRow_heap _ _ _ #[.string p, .string t0, .string t1, .string t2, .bool q0, .bool q1, .bool q2] _ _ bR) Tryd.underlying40 rfl (info7M _ _ _ _ _ _ _)) rfl ?_
      exact ⟨ret_tup (by rw [← hC]; rfl), X.grown (grown_rowM (g := G + 1 + 1 + 1)) (fun k hk => by cases hk; omega)⟩
  · rw [zd01] at hC
    go_wp2_with ((with_reducible refine at_store 40 (.tmp 8) (.tmp 72) ?_); refine wpl_store (by rfl) 40 (.tmp 8) (.tmp 72) rfl (G + 1 + 1 + 1) #[.string p, .string t0, .string t1, .string t2, .bool q0, .bool q1, .bool q2] (by rfl) (by rfl) 40 _ bR (info7M _ _ _ _ _ _ _) rfl (by simp [Value.oneCell']) ?_)
    refine bodyPost_ret (results_cellT rfl _ _ (G + 1 + 1 + 1) _ _ _ _ (by rfl) (setRow_heap _ _ _ #[.string p, .string t0, .string t1, .string t2, .bool q0, .bool q1, .bool q2] _ _ bR) Tryd.underlying40 rfl (info7M _ _ _ _ _ _ _)) rfl ?_
    exact ⟨ret_tup (by rw [← hC]; rfl), X.grown (grown_rowM (g := G + 1 + 1 + 1)) (fun k hk => by cases hk; omega)⟩
end Go.Proofs.YtpcpcjejdngllaaDoor
