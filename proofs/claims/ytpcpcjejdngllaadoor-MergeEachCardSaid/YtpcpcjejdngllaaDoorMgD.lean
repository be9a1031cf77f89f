/- The walk of merge.paths' iterator. -/
import Derived.Test.YtpcpcjejdngllaaDoorMgC
import Derived.Test.YtpcpcjejdngllaaDoorRng
import Derived.Test.YtpcpcjejdngllaaDoorRegGI
namespace Go.Proofs.YtpcpcjejdngllaaDoor
open Go.RowKit Go.Shelf
attribute [local go_sem] Oper.semAt_some
set_option linter.unusedVariables false
set_option linter.unusedSimpArgs false

theorem sl_low {we W W' : World} {v : Value} {s n : Nat} {xs : List Value} (h0 : IsSl we v s n xs) (h : IsSl W v s n xs) (k : ∀ b, b < we.heap.size → W'.heap[b]? = W.heap[b]?) : IsSl W' v s n xs := by
  obtain ⟨h1, ao, cap, e, h2, h3, h4, h5⟩ := h
  refine ⟨h1, ao, cap, e, h2, h3, h4, fun i hi => ?_⟩
  obtain ⟨b, off, e1, e2⟩ := h5 i hi
  obtain ⟨_, ao', cap', e', _, _, _, h5'⟩ := h0
  rw [e] at e'
  simp only [Value.slice.injEq] at e'
  obtain ⟨rfl, _, rfl⟩ := e'
  obtain ⟨b', off', e1', e2'⟩ := h5' i hi
  rw [e1] at e1'
  simp only [Option.some.injEq, Addr.mk.injEq, and_true] at e1'
  obtain ⟨rfl, rfl⟩ := e1'
  rw [List.getElem?_eq_getElem hi] at e2'
  have := World.block_lt_of_cell? _ _ e2'
  refine ⟨b, off, e1, ?_⟩
  rw [← e2]
  unfold World.cell?
  rw [k b this]
theorem isF_low {we W W' : World} {v : Value} {l : List Fl} (h0 : IsF we v l) (h : IsF W v l) (k : ∀ b, b < we.heap.size → W'.heap[b]? = W.heap[b]?) : IsF W' v l := ⟨sl_low h0.sl h.sl k, h.ok⟩
theorem owns_same {w w' : World} {base : Nat} {e : TypeId} {size : Nat} {v : Value} {n : Nat} {xs : List Value} (h : w.ownsRow base e size v n xs) (k : ∀ g, v.ownBlock = some g → w'.heap[g]? = w.heap[g]?) : w'.ownsRow base e size v n xs := by
  refine ⟨h.1, ?_⟩
  rcases h.2 with h2 | ⟨g, cap, cur, rfl, hb, hg, h3⟩
  · exact .inl h2
  · exact .inr ⟨g, cap, cur, rfl, hb, by rw [k g rfl]; exact hg, h3⟩
abbrev Tr := ByteArray × Mb × Mb × Mb
def trV (x : Tr) : Value := .agg #[.bool x.2.1.1, .string x.2.1.2, .bool x.2.2.1.1, .string x.2.2.1.2, .bool x.2.2.2.1, .string x.2.2.2.2]
def trE (x : Tr) : Array Value := #[.string x.1, trV x]
/-- What comes, path by path. -/
def trosL (f0 f1 f2 : List Fl) (ps : List ByteArray) : List Tr := ps.map fun p => (p, atM f0 p, atM f1 p, atM f2 p)

set_option maxHeartbeats 8000000 in
set_option maxRecDepth 100000 in
theorem paths_it (n : Nat) (hn : 1 ≤ n) (we W0 : World) (base A B : Nat) (vp v0 v1 v2 : Value) (f0 f1 f2 : List Fl) (ps : List ByteArray) (S : Nat → Prop)
    (h0 : IsF we v0 f0) (h1 : IsF we v1 f1) (h2 : IsF we v2 f2) (s0 : FsS f0) (s1 : FsS f1) (s2 : FsS f2) (l0 : f0.length ≤ 1000) (l1 : f1.length ≤ 1000) (l2 : f2.length ≤ 1000) (hl : ps.length ≤ 4000) (hx : Ext we W0)
    (hA : W0.heap[A]? = some (.cells #[vp] 33 (0, 0))) (hB : W0.heap[B]? = some (.cells #[v0, v1, v2] 64 (0, 0))) (own : W0.ownsRow base 9 1 vp ps.length (ps.map .string))
    (hSl : ∀ b, b < we.heap.size → S b) (hSA : S A) (hSB : S B) (hSg : ∀ g, vp.ownBlock = some g → S g) :
    ItC Tryd.prog n 60 #[.pointer (some ⟨A, 0, none⟩), .pointer (some ⟨B, 0, none⟩)] trE (trosL f0 f1 f2 ps) S W0 := by
  intro l J Jx W xW hJe hJs hY hJ0
  have hA := xW.keeps hA
  have hB := xW.keeps hB
  have own := owns_extU own xW
  have h0W := h0.ext (hx.trans xW)
  have h1W := h1.ext (hx.trans xW)
  have h2W := h2.ext (hx.trans xW)
  refine callsIn_of_wp Tryd.func60 rfl trivial ?_ rfl
  simp only [Tryd.ntmps60, List.size_toArray, List.length_cons, List.length_nil, Nat.reduceAdd, Nat.reduceSub, Array.replicate_succ, Array.replicate_zero, List.push_toArray, List.append_toArray, List.nil_append, List.cons_append]
  obtain ⟨a, c, rfl⟩ := slice_shape own
  obtain ⟨a0, c0, rfl, -⟩ := h0.opened
  obtain ⟨a1, c1, rfl, -⟩ := h1.opened
  obtain ⟨a2, c2, rfl, -⟩ := h2.opened
  have cA := block_cell hA 0
  have cA : W.cell? ⟨A, 0, none⟩ = some (.slice a ps.length c) := by rw [cA]; rfl
  gi_wp2
  gi_loopg [8] ps.length (fun g s8 wr => ∃ k : Nat, k ≤ ps.length ∧ ps.length - k ≤ g ∧ s8 = .int .i64 (k : Int) ∧ wr.heap[B]? = some (.cells #[.slice a0 f0.length c0, .slice a1 f1.length c1, .slice a2 f2.length c2] 64 (0, 0)) ∧ wr.ownsRow base 9 1 (.slice a ps.length c) ps.length (ps.map .string) ∧ IsF wr (.slice a0 f0.length c0) f0 ∧ IsF wr (.slice a1 f1.length c1) f1 ∧ IsF wr (.slice a2 f2.length c2) f2 ∧ J ((trosL f0 f1 f2 ps).take k) wr)
  case atStart => exact ⟨0, by omega, by omega, rfl, hB, own, h0W, h1W, h2W, by simpa using hJ0⟩
  case round =>
    clear hA hB own h0W h1W h2W cA hJ0
    obtain ⟨k, hk, hg, rfl, hB, own, h0W, h1W, h2W, hJ⟩ := hrel
    by_cases hlt : k < ps.length
    · obtain ⟨_, _, _, e1, _, _, _, g1⟩ := IsSl.of_owns own
      obtain ⟨pb, o, e2, e00⟩ := g1 k (by simpa using hlt)
      simp only [Value.slice.injEq] at e1
      obtain ⟨rfl, _, rfl⟩ := e1
      subst e2
      have e0 : wr.cell? ⟨pb, o + k, none⟩ = some (.string ps[k]) := by rw [e00, List.getElem?_map, List.getElem?_eq_getElem hlt]; rfl
      clear e00
      have HST := Lib.hid (show (trosL f0 f1 f2 ps).take (k + 1) = (trosL f0 f1 f2 ps).take k ++ [(ps[k], atM f0 ps[k], atM f1 ps[k], atM f2 ps[k])] by
        unfold trosL
        rw [List.take_succ_eq_append_getElem (by simpa using hlt), List.getElem_map])
      have HPRE := Lib.hid (show (trosL f0 f1 f2 ps).take k ++ [(ps[k], atM f0 ps[k], atM f1 ps[k], atM f2 ps[k])] <+: trosL f0 f1 f2 ps by rw [← HST.out]; exact List.take_prefix _ _)
      generalize ps[k] = x at *
      generalize (trosL f0 f1 f2 ps).take k = pre at *
      obtain ⟨m0, hm0⟩ : ∃ m, atM f0 x = m := ⟨_, rfl⟩
      obtain ⟨m1, hm1⟩ : ∃ m, atM f1 x = m := ⟨_, rfl⟩
      obtain ⟨m2, hm2⟩ : ∃ m, atM f2 x = m := ⟨_, rfl⟩
      rw [hm0, hm1, hm2] at HST HPRE
      have HM0 := Lib.hid hm0
      have HM1 := Lib.hid hm1
      have HM2 := Lib.hid hm2
      clear hm0 hm1 hm2
      have HF0 := Lib.hid h0W
      have HF1 := Lib.hid h1W
      have HF2 := Lib.hid h2W
      have HS0 := Lib.hid s0
      have HS1 := Lib.hid s1
      have HS2 := Lib.hid s2
      have cB0 : wr.cell? ⟨B, 0, none⟩ = some (.slice a0 f0.length c0) := by rw [block_cell hB]; rfl
      have cB1 : wr.cell? ⟨B, 1, none⟩ = some (.slice a1 f1.length c1) := by rw [block_cell hB]; rfl
      have cB2 : wr.cell? ⟨B, 2, none⟩ = some (.slice a2 f2.length c2) := by rw [block_cell hB]; rfl
      have OWN := Lib.hid own
      clear h0W h1W h2W g1 own
      gi_wp2
      refine wpIn_region_GI 15 (fun v => Ext wr v) (by kernel_rfl) fun wd hqd xd => ?_
      have hHeld : Ext wr wd := xd
      refine GI_take (i := 0) (u := ?vq0) [15] rfl rfl (by kernel_rfl) (by kernel_rfl) (by kernel_rfl) (fun _ _ _ h => h) (by kernel_rfl) (by kernel_rfl) (by kernel_rfl) (by kernel_rfl) (Or.inl ⟨by rfl, ?hyq0⟩) (fun _ => rfl) hHeld ?_
      case hyq0 => (intro w hSw; go_simp; try with_reducible rfl)
      simp only [Act.put, List.setIfInBounds_toArray, List.set_cons_zero, List.set_cons_succ, List.getElem_toArray, List.getElem_cons_zero, List.getElem_cons_succ]
      refine GI_take (i := 1) (u := ?vq1) [15] rfl rfl (by kernel_rfl) (by kernel_rfl) (by kernel_rfl) (fun _ _ _ h => h) (by kernel_rfl) (by kernel_rfl) (by kernel_rfl) (by kernel_rfl) (Or.inl ⟨by rfl, ?hyq1⟩) (fun _ => rfl) hHeld ?_
      case hyq1 => (intro w hSw; go_simp; try with_reducible rfl)
      simp only [Act.put, List.setIfInBounds_toArray, List.set_cons_zero, List.set_cons_succ, List.getElem_toArray, List.getElem_cons_zero, List.getElem_cons_succ]
      refine GI_take (i := 2) (u := ?vq2) [3, 5, 9, 13, 15] rfl rfl (by kernel_rfl) (by kernel_rfl) (by kernel_rfl) (fun _ _ _ h => h) (by kernel_rfl) (by kernel_rfl) (by kernel_rfl) (by kernel_rfl) (Or.inl ⟨by rfl, ?hyq2⟩) (fun _ => rfl) hHeld ?_
      case hyq2 => (intro w hSw; go_simp; try with_reducible rfl)
      simp only [Act.put, List.setIfInBounds_toArray, List.set_cons_zero, List.set_cons_succ, List.getElem_toArray, List.getElem_cons_zero, List.getElem_cons_succ]
      refine GI_take (i := 3) (u := ?vq3) [5, 9, 13, 15] rfl rfl (by kernel_rfl) (by kernel_rfl) (by kernel_rfl) (fun _ _ _ h => h) (by kernel_rfl) (by kernel_rfl) (by kernel_rfl) (by kernel_rfl) (Or.inl ⟨by rfl, ?hyq3⟩) (fun _ => rfl) hHeld ?_
      case hyq3 => (intro w hSw; have kB := hSw.cell cB0; go_simp; try with_reducible rfl)
      simp only [Act.put, List.setIfInBounds_toArray, List.set_cons_zero, List.set_cons_succ, List.getElem_toArray, List.getElem_cons_zero, List.getElem_cons_succ]
      refine GI_take (i := 4) (u := ?vq4) [5, 9, 13, 15] rfl rfl (by kernel_rfl) (by kernel_rfl) (by kernel_rfl) (fun _ _ _ h => h) (by kernel_rfl) (by kernel_rfl) (by kernel_rfl) (by kernel_rfl) (Or.inl ⟨by rfl, ?hyq4⟩) (fun _ => rfl) hHeld ?_
      case hyq4 => (intro w hSw; go_simp; try with_reducible rfl)
      simp only [Act.put, List.setIfInBounds_toArray, List.set_cons_zero, List.set_cons_succ, List.getElem_toArray, List.getElem_cons_zero, List.getElem_cons_succ]
      refine GI_take (i := 6) (u := ?vq6) [7, 9, 13, 15] rfl rfl (by kernel_rfl) (by kernel_rfl) (by kernel_rfl) (fun _ _ _ h => h) (by kernel_rfl) (by kernel_rfl) (by kernel_rfl) (by kernel_rfl) (Or.inl ⟨by rfl, ?hyq6⟩) (fun _ => rfl) hHeld ?_
      case hyq6 => (intro w hSw; go_simp; try with_reducible rfl)
      simp only [Act.put, List.setIfInBounds_toArray, List.set_cons_zero, List.set_cons_succ, List.getElem_toArray, List.getElem_cons_zero, List.getElem_cons_succ]
      refine GI_take (i := 7) (u := ?vq7) [9, 13, 15] rfl rfl (by kernel_rfl) (by kernel_rfl) (by kernel_rfl) (fun _ _ _ h => h) (by kernel_rfl) (by kernel_rfl) (by kernel_rfl) (by kernel_rfl) (Or.inl ⟨by rfl, ?hyq7⟩) (fun _ => rfl) hHeld ?_
      case hyq7 => (intro w hSw; have kB := hSw.cell cB1; go_simp; try with_reducible rfl)
      simp only [Act.put, List.setIfInBounds_toArray, List.set_cons_zero, List.set_cons_succ, List.getElem_toArray, List.getElem_cons_zero, List.getElem_cons_succ]
      refine GI_take (i := 8) (u := ?vq8) [9, 13, 15] rfl rfl (by kernel_rfl) (by kernel_rfl) (by kernel_rfl) (fun _ _ _ h => h) (by kernel_rfl) (by kernel_rfl) (by kernel_rfl) (by kernel_rfl) (Or.inl ⟨by rfl, ?hyq8⟩) (fun _ => rfl) hHeld ?_
      case hyq8 => (intro w hSw; go_simp; try with_reducible rfl)
      simp only [Act.put, List.setIfInBounds_toArray, List.set_cons_zero, List.set_cons_succ, List.getElem_toArray, List.getElem_cons_zero, List.getElem_cons_succ]
      refine GI_take (i := 10) (u := ?vq10) [11, 13, 15] rfl rfl (by kernel_rfl) (by kernel_rfl) (by kernel_rfl) (fun _ _ _ h => h) (by kernel_rfl) (by kernel_rfl) (by kernel_rfl) (by kernel_rfl) (Or.inl ⟨by rfl, ?hyq10⟩) (fun _ => rfl) hHeld ?_
      case hyq10 => (intro w hSw; go_simp; try with_reducible rfl)
      simp only [Act.put, List.setIfInBounds_toArray, List.set_cons_zero, List.set_cons_succ, List.getElem_toArray, List.getElem_cons_zero, List.getElem_cons_succ]
      refine GI_take (i := 11) (u := ?vq11) [13, 15] rfl rfl (by kernel_rfl) (by kernel_rfl) (by kernel_rfl) (fun _ _ _ h => h) (by kernel_rfl) (by kernel_rfl) (by kernel_rfl) (by kernel_rfl) (Or.inl ⟨by rfl, ?hyq11⟩) (fun _ => rfl) hHeld ?_
      case hyq11 => (intro w hSw; have kB := hSw.cell cB2; go_simp; try with_reducible rfl)
      simp only [Act.put, List.setIfInBounds_toArray, List.set_cons_zero, List.set_cons_succ, List.getElem_toArray, List.getElem_cons_zero, List.getElem_cons_succ]
      refine GI_take (i := 12) (u := ?vq12) [13, 15] rfl rfl (by kernel_rfl) (by kernel_rfl) (by kernel_rfl) (fun _ _ _ h => h) (by kernel_rfl) (by kernel_rfl) (by kernel_rfl) (by kernel_rfl) (Or.inl ⟨by rfl, ?hyq12⟩) (fun _ => rfl) hHeld ?_
      case hyq12 => (intro w hSw; go_simp; try with_reducible rfl)
      simp only [Act.put, List.setIfInBounds_toArray, List.set_cons_zero, List.set_cons_succ, List.getElem_toArray, List.getElem_cons_zero, List.getElem_cons_succ]
      refine GI_all (rs := [5]) (by kernel_rfl) (by simp) ?_
      intro i hi; obtain rfl : i = 5 := by simpa using hi
      refine wpOpIn_run rfl (by rfl) ?_
      refine opIn_enter (f := 61) (args := #[.agg #[.slice a0 f0.length c0], .string x]) (by go_simp) (fun _ _ => trivial) (fun _ => by omega) ?_
      refine ((callsIn_wide (n := n - 1)).2 (mergeAt wd _ f0 (HF0.out.ext hHeld) x HS0.out (by omega))).mono ?_
      rintro e wa ⟨he, wax⟩
      rw [HM0.out] at he
      have hHeld := hHeld.trans wax
      refine ⟨.agg #[.bool m0.1, .string m0.2], he, fun _ => hHeld, ?_⟩
      try simp only [Act.put, List.setIfInBounds_toArray, List.set_cons_zero, List.set_cons_succ, List.getElem_toArray, List.getElem_cons_zero, List.getElem_cons_succ]
      refine GI_all (rs := [9]) (by kernel_rfl) (by simp) ?_
      intro i hi; obtain rfl : i = 9 := by simpa using hi
      refine wpOpIn_run rfl (by rfl) ?_
      refine opIn_enter (f := 61) (args := #[.agg #[.slice a1 f1.length c1], .string x]) (by go_simp) (fun _ _ => trivial) (fun _ => by omega) ?_
      refine ((callsIn_wide (n := n - 1)).2 (mergeAt wa _ f1 (HF1.out.ext hHeld) x HS1.out (by omega))).mono ?_
      rintro e wb ⟨he, wbx⟩
      rw [HM1.out] at he
      have hHeld := hHeld.trans wbx
      refine ⟨.agg #[.bool m1.1, .string m1.2], he, fun _ => hHeld, ?_⟩
      try simp only [Act.put, List.setIfInBounds_toArray, List.set_cons_zero, List.set_cons_succ, List.getElem_toArray, List.getElem_cons_zero, List.getElem_cons_succ]
      refine GI_all (rs := [13]) (by kernel_rfl) (by simp) ?_
      intro i hi; obtain rfl : i = 13 := by simpa using hi
      refine wpOpIn_run rfl (by rfl) ?_
      refine opIn_enter (f := 61) (args := #[.agg #[.slice a2 f2.length c2], .string x]) (by go_simp) (fun _ _ => trivial) (fun _ => by omega) ?_
      refine ((callsIn_wide (n := n - 1)).2 (mergeAt wb _ f2 (HF2.out.ext hHeld) x HS2.out (by omega))).mono ?_
      rintro e wc ⟨he, wcx⟩
      rw [HM2.out] at he
      have hHeld := hHeld.trans wcx
      refine ⟨.agg #[.bool m2.1, .string m2.2], he, fun _ => hHeld, ?_⟩
      try simp only [Act.put, List.setIfInBounds_toArray, List.set_cons_zero, List.set_cons_succ, List.getElem_toArray, List.getElem_cons_zero, List.getElem_cons_succ]
      refine GI_take (i := 14) (u := ?vq14) [15] rfl rfl (by kernel_rfl) (by kernel_rfl) (by kernel_rfl) (fun _ _ _ h => h) (by kernel_rfl) (by kernel_rfl) (by kernel_rfl) (by kernel_rfl) (Or.inl ⟨by rfl, ?hyq14⟩) (fun _ => rfl) hHeld ?_
      case hyq14 => (intro w hSw; go_simp; try with_reducible rfl)
      simp only [Act.put, List.setIfInBounds_toArray, List.set_cons_zero, List.set_cons_succ, List.getElem_toArray, List.getElem_cons_zero, List.getElem_cons_succ]
      obtain ⟨fn, tmps, assign, body, hy, hR⟩ := hY pre (x, m0, m1, m2) wc (hJe _ _ _ hJ hHeld) HPRE.out
      dsimp only [trE, trV] at hy
      refine GI_all (rs := [15]) (by kernel_rfl) (by simp) ?_
      intro i hi; obtain rfl : i = 15 := by simpa using hi
      refine wpOpIn_run rfl (by rfl) ?_
      refine opIn_yield (l := l) (fn := fn) (tmps := tmps) (assign := assign) (body := body) (by go_simp) (fun _ _ => trivial) (fun _ => by omega) ?_
      refine RoundIn.mono hR ?_
      rintro e W' (⟨rfl, hJ', hk'⟩ | ⟨rfl, hJx'⟩)
      · refine ⟨_, rfl, fun h => absurd h (by decide), ?_⟩
        try simp only [Act.put, List.setIfInBounds_toArray, List.set_cons_zero, List.set_cons_succ, List.getElem_toArray, List.getElem_cons_zero, List.getElem_cons_succ]
        refine GI_free _ _ _ _ (by kernel_rfl) ?_
        refine wpAnyIn_take (i := 16) (v := .bool false) rfl rfl (by kernel_rfl) (by kernel_rfl) (by kernel_rfl) (fun _ _ _ h => h) ⟨Or.inl ⟨by rfl, fun w => by go_simp⟩, fun _ => rfl⟩ ?_
        simp only [Act.put, List.setIfInBounds_toArray, List.set_cons_zero, List.set_cons_succ, List.getElem_toArray, List.getElem_cons_zero, List.getElem_cons_succ]
        refine wpAnyIn_done (by kernel_rfl) ?_ _
        refine NoPanic.normal ?_
        have hB' := (hk' B hSB).trans (hHeld.keeps hB)
        gi_wp2
        gi_roundg (ps.length - (k + 1))
        case measure => omega
        case rel => exact ⟨k + 1, by omega, by omega, by go_num, hB', owns_same (owns_extU OWN.out hHeld) (fun g hg => hk' g (hSg g hg)), isF_low h0 (HF0.out.ext hHeld) (fun b hb => hk' b (hSl b hb)), isF_low h1 (HF1.out.ext hHeld) (fun b hb => hk' b (hSl b hb)), isF_low h2 (HF2.out.ext hHeld) (fun b hb => hk' b (hSl b hb)), by rw [HST.out]; exact hJ'⟩
      · refine ⟨_, rfl, fun h => absurd h (by decide), ?_⟩
        try simp only [Act.put, List.setIfInBounds_toArray, List.set_cons_zero, List.set_cons_succ, List.getElem_toArray, List.getElem_cons_zero, List.getElem_cons_succ]
        refine GI_free _ _ _ _ (by kernel_rfl) ?_
        refine wpAnyIn_take (i := 16) (v := .bool true) rfl rfl (by kernel_rfl) (by kernel_rfl) (by kernel_rfl) (fun _ _ _ h => h) ⟨Or.inl ⟨by rfl, fun w => by go_simp⟩, fun _ => rfl⟩ ?_
        simp only [Act.put, List.setIfInBounds_toArray, List.set_cons_zero, List.set_cons_succ, List.getElem_toArray, List.getElem_cons_zero, List.getElem_cons_succ]
        refine wpAnyIn_done (by kernel_rfl) ?_ _
        refine NoPanic.normal ?_
        gi_wp2
        refine bodyPost_ret (results_none rfl _ _ _) rfl ?_
        exact ⟨⟨_, rfl⟩, .inr ⟨_, HPRE.out, hJx'⟩⟩
    · obtain rfl : k = ps.length := by omega
      gi_wp2
      go_end0
      exact ⟨⟨_, rfl⟩, .inl (by rw [List.take_of_length_le (by simp [trosL])] at hJ; exact hJ)⟩
end Go.Proofs.YtpcpcjejdngllaaDoor
