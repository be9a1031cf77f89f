/- The walk of merge.found. -/
import Derived.Test.YtpcpcjejdngllaaDoorMgD
import Derived.Test.YtpcpcjejdngllaaDoorAppIn
namespace Go.Proofs.YtpcpcjejdngllaaDoor
open Go.RowKit Go.Shelf
attribute [local go_sem] Oper.semAt_some
set_option linter.unusedVariables false
set_option linter.unusedSimpArgs false

def clT (x : Tr) : List Value := [.string x.1, .string x.2.1.2, .string x.2.2.1.2, .string x.2.2.2.2, .bool x.2.1.1, .bool x.2.2.1.1, .bool x.2.2.2.1]
def isCl (x : Tr) : Bool := clashM x.2.1 x.2.2.1 x.2.2.2
def mgOf (x : Tr) : Mb := mergedM x.2.1 x.2.2.1 x.2.2.2
/-- The clashes. -/
def clsL (xs : List Tr) : List Tr := xs.filter isCl
/-- What stands at the other paths. -/
def mgdL (xs : List Tr) : List Fl := xs.flatMap fun x => if isCl x = true then [] else if (mgOf x).1 = true then [⟨x.1, (mgOf x).2⟩] else []
theorem clsL_snoc (xs : List Tr) (x : Tr) : clsL (xs ++ [x]) = clsL xs ++ (if isCl x = true then [x] else []) := by
  unfold clsL; rw [List.filter_append]; simp only [List.filter_cons, List.filter_nil]
theorem mgdL_snoc (xs : List Tr) (x : Tr) : mgdL (xs ++ [x]) = mgdL xs ++ (if isCl x = true then [] else if (mgOf x).1 = true then [⟨x.1, (mgOf x).2⟩] else []) := by
  unfold mgdL; rw [List.flatMap_append]; simp
theorem clsL_len (xs : List Tr) : (clsL xs).length ≤ xs.length := List.length_filter_le _ _
theorem mgdL_len : ∀ (xs : List Tr), (mgdL xs).length ≤ xs.length
  | [] => by simp [mgdL]
  | x :: xs => by
    have ih := mgdL_len xs
    have e : mgdL (x :: xs) = (if isCl x = true then [] else if (mgOf x).1 = true then [⟨x.1, (mgOf x).2⟩] else []) ++ mgdL xs := by unfold mgdL; rw [List.flatMap_cons]
    rw [e, List.length_append, List.length_cons]
    split
    · simp; omega
    · split <;> simp <;> omega
theorem infoCl : (Tryd.prog.info? 40).map (fun i => (i.zero, i.size, i.bytes)) = some (some (.agg #[.string ByteArray.empty, .string ByteArray.empty, .string ByteArray.empty, .string ByteArray.empty, .bool false, .bool false, .bool false]), 7, 72) := by kernel_rfl
theorem tyCl : ETy Tryd.prog 29 40 (.agg #[.string ByteArray.empty, .string ByteArray.empty, .string ByteArray.empty, .string ByteArray.empty, .bool false, .bool false, .bool false]) 7 72 := ⟨Tryd.underlying29, info_parts infoCl, rfl, by decide⟩
theorem clT_one (x : Tr) : ∀ u ∈ clT x, u.oneCell' = true := by
  intro u hu
  simp only [clT, List.mem_cons, List.not_mem_nil, or_false] at hu
  rcases hu with rfl | rfl | rfl | rfl | rfl | rfl | rfl <;> rfl
theorem own_block {w : World} {base : Nat} {e : TypeId} {size : Nat} {v : Value} {n : Nat} {xs : List Value} (h : w.ownsRow base e size v n xs) {g : Nat} (hg : v.ownBlock = some g) : ∃ c, w.heap[g]? = some (.cells c e (0, 0)) := by
  rcases h.2 with ⟨rfl, _⟩ | ⟨g', cap, cur, rfl, _, hh, _⟩
  · simp [Value.ownBlock] at hg
  · simp [Value.ownBlock] at hg
    subst hg
    exact ⟨_, hh⟩
theorem owns_put {w : World} {base : Nat} {e : TypeId} {size : Nat} {v : Value} {n : Nat} {xs : List Value} (h : w.ownsRow base e size v n xs) {l : Nat} {o o' : Obj} (ho : w.heap[l]? = some o) (hc : o.isCells = false) : (w.putObj l o').ownsRow base e size v n xs :=
  owns_same h fun g hg => put_otherG fun e => by
    subst e
    obtain ⟨c, hh⟩ := own_block h hg
    rw [ho] at hh
    cases hh
    simp [Obj.isCells] at hc
theorem own_other {w : World} {b1 b2 : Nat} {e1 e2 : TypeId} {s1 s2 : Nat} {v1 v2 : Value} {n1 n2 : Nat} {x1 x2 : List Value} (h1 : w.ownsRow b1 e1 s1 v1 n1 x1) (h2 : w.ownsRow b2 e2 s2 v2 n2 x2) (hne : e2 ≠ e1) : v2.ownBlock = none ∨ v2.ownBlock ≠ v1.ownBlock := by
  cases hg : v2.ownBlock with
  | none => exact .inl rfl
  | some g =>
    obtain ⟨c, hh⟩ := own_block h2 hg
    exact .inr (Ne.symm (own_neU h1 hh hne))
theorem KeepO.own {w w' : World} {base : Nat} {e : TypeId} {size : Nat} {v : Value} {n : Nat} {xs : List Value} (h : w.ownsRow base e size v n xs) (k : w.grownBy w' v.ownBlock) : KeepO w w' := by
  cases hg : v.ownBlock with
  | none => rw [hg] at k; exact KeepO.ext (grown_none k)
  | some g => obtain ⟨c, hh⟩ := own_block h hg; rw [hg] at k; exact KeepO.grown k hh
theorem KeepS.own {w w' : World} {base : Nat} {e : TypeId} {size : Nat} {v : Value} {n : Nat} {xs : List Value} {S : Nat → Prop} (h : w.ownsRow base e size v n xs) (k : w.grownBy w' v.ownBlock) (hS : ∀ b, S b → b < w.heap.size ∧ b < base) : KeepS S w w' := fun b hb => by
  refine k.block b (hS b hb).1 fun e => ?_
  have := (h.lt b e.symm).1
  have := (hS b hb).2
  omega
theorem flC_oneM (x : Fl) : ∀ u ∈ flC x, u.oneCell' = true := by
  intro u hu
  simp only [flC, List.mem_cons, List.not_mem_nil, or_false] at hu
  rcases hu with rfl | rfl <;> rfl

theorem results_tmpcell {P : Program} {fn : Func} {p q : Tmp} {ty : TypeId} (h : fn.results = #[.tmp p, .cell q ty]) (tmps : Array Value) (w : World) (g : Nat) (t : TypeId) (cs : Array Value) (fr : Nat × Nat) (d : TypeDesc)
    (hp : tmps.getD q undef = .pointer (some ⟨g, 0, none⟩)) (hg : w.heap[g]? = some (.cells cs t fr))
    (hu : P.underlying ty = some d) (hd : (match d with | .struct _ | .array _ _ => true | _ => false) = true) (hi : (P.info? ty).map (·.size) = some cs.size) :
    (results fn tmps).run P w = .ok (.tuple #[tmps.getD p undef, .agg cs]) w := by
  have hp' : tmps[q]?.getD undef = .pointer (some ⟨g, 0, none⟩) := by simpa using hp
  simp [results, h, hp', asAddr, run_loadVar_row w g t ty cs fr d hg hu hd hi]
theorem info1M (v : Value) : (Tryd.prog.info? 24).map (·.size) = some (#[v] : Array Value).size := by show _ = some 1; kernel_rfl

set_option maxHeartbeats 8000000 in
set_option maxRecDepth 100000 in
theorem mergeFound (w : World) (v0 v1 v2 : Value) (f0 f1 f2 : List Fl) (h0 : IsF w v0 f0) (h1 : IsF w v1 f1) (h2 : IsF w v2 f2) (s0 : FsS f0) (s1 : FsS f1) (s2 : FsS f2) (l0 : f0.length ≤ 1000) (l1 : f1.length ≤ 1000) (l2 : f2.length ≤ 1000) :
    Calls Tryd.prog 32 #[.agg #[v0, v1, v2]] w fun e w' => ∃ vc vr, e = .returned (.tuple #[vc, .agg #[vr]]) ∧
      w'.ownsRow w.heap.size 40 7 vc (clsL (trosL f0 f1 f2 (pathsL [f0, f1, f2]))).length ((clsL (trosL f0 f1 f2 (pathsL [f0, f1, f2]))).flatMap clT) ∧
      w'.ownsRow w.heap.size 46 2 vr (mgdL (trosL f0 f1 f2 (pathsL [f0, f1, f2]))).length ((mgdL (trosL f0 f1 f2 (pathsL [f0, f1, f2]))).flatMap flC) ∧ Ext w w' := by
  obtain ⟨xs, hxs⟩ : ∃ xs, trosL f0 f1 f2 (pathsL [f0, f1, f2]) = xs := ⟨_, rfl⟩
  rw [hxs]
  have hxl : xs.length ≤ 4000 := by
    rw [← hxs]
    unfold trosL pathsL
    rw [List.length_map]
    have := foldP_len (allP [f0, f1, f2]) []
    simp [allP] at this
    simp [allP]
    omega
  have HXS := Lib.hid hxs
  clear hxs
  obtain ⟨a0, c0, rfl, -⟩ := h0.opened
  obtain ⟨a1, c1, rfl, -⟩ := h1.opened
  obtain ⟨a2, c2, rfl, -⟩ := h2.opened
  refine (callsIn_wide (n := 7)).1 ?_
  refine callsIn_of_wp_marks Tryd.func32 rfl trivial ?_ rfl
  simp only [Tryd.ntmps32, List.size_toArray, List.length_cons, List.length_nil, Nat.reduceAdd, Nat.reduceSub, Array.replicate_succ, Array.replicate_zero, List.push_toArray, List.append_toArray, List.nil_append, List.cons_append]
  have X2 : Ext w ((((w.alloc (.cells #[.slice a0 f0.length c0, .slice a1 f1.length c1, .slice a2 f2.length c2] 64)).alloc (.cells #[.slice none 0 0] 24)).alloc (.cells #[.slice none 0 0] 29)).alloc (.cells #[.slice none 0 0] 24)) := ((((Ext.refl w).alloc _).alloc _).alloc _).alloc _
  have bR := blk_old (o := .cells #[.slice none 0 0] 24) (blk_old (o := .cells #[.slice none 0 0] 29) (blk_new (w := w.alloc (.cells #[.slice a0 f0.length c0, .slice a1 f1.length c1, .slice a2 f2.length c2] 64)) (b := w.heap.size + 1) (o := .cells #[.slice none 0 0] 24) (by simp)))
  have bO := blk_old (o := .cells #[.slice none 0 0] 24) (blk_new (w := (w.alloc (.cells #[.slice a0 f0.length c0, .slice a1 f1.length c1, .slice a2 f2.length c2] 64)).alloc (.cells #[.slice none 0 0] 24)) (b := w.heap.size + 1 + 1) (o := .cells #[.slice none 0 0] 29) (by simp))
  have bQ := blk_new (w := ((w.alloc (.cells #[.slice a0 f0.length c0, .slice a1 f1.length c1, .slice a2 f2.length c2] 64)).alloc (.cells #[.slice none 0 0] 24)).alloc (.cells #[.slice none 0 0] 29)) (b := w.heap.size + 1 + 1 + 1) (o := .cells #[.slice none 0 0] 24) (by simp)
  have hz2 : ((((w.alloc (.cells #[.slice a0 f0.length c0, .slice a1 f1.length c1, .slice a2 f2.length c2] 64)).alloc (.cells #[.slice none 0 0] 24)).alloc (.cells #[.slice none 0 0] 29)).alloc (.cells #[.slice none 0 0] 24)).heap.size = w.heap.size + 4 := by simp
  gi_wp2
  generalize (((w.alloc (.cells #[.slice a0 f0.length c0, .slice a1 f1.length c1, .slice a2 f2.length c2] 64)).alloc (.cells #[.slice none 0 0] 24)).alloc (.cells #[.slice none 0 0] 29)).alloc (.cells #[.slice none 0 0] 24) = w2 at *
  generalize hG : w.heap.size = G at *
  refine ⟨trivial, ((callsIn_wide (n := 7 - 1)).2 (mergePaths w2 _ _ _ f0 f1 f2 (h0.ext X2) (h1.ext X2) (h2.ext X2) l0 l1 l2)).mono ?_⟩
  rintro e w3 ⟨A, L, rfl, ⟨⟨vp, bA, own⟩, bL, hA, hL⟩, x3⟩
  have X3 := X2.trans x3
  have bR := x3.keeps bR
  have bO := x3.keeps bO
  have bQ := x3.keeps bQ
  have hz3 := x3.size
  have HX2 := HXS.out
  have it := paths_it 6 (by omega) w w3 w2.heap.size A L vp _ _ _ f0 f1 f2 (pathsL [f0, f1, f2]) (fun b => b < w3.heap.size ∧ b ≠ G + 1 + 1 ∧ b ≠ G + 1 + 1 + 1) h0 h1 h2 s0 s1 s2 l0 l1 l2
    (by rw [← HX2] at hxl; simpa [trosL] using hxl) X3 bA bL own (fun b hb => ⟨by omega, by omega, by omega⟩) ⟨block_lt bA, by omega, by omega⟩ ⟨block_lt bL, by omega, by omega⟩
    (fun g hg => by have := own.lt g hg; exact ⟨by omega, by omega, by omega⟩)
  rw [HX2] at it
  clear own bA bL h0 h1 h2 s0 s1 s2
  gi_wp2
  refine wp_rangeG (enc := trE) 7 (by omega) (gf := 60) (lb := #[.pointer (some ⟨A, 0, none⟩), .pointer (some ⟨L, 0, none⟩)]) rfl (enters_of Tryd.func60 (by kernel_rfl) rfl) (fun _ => rfl) (xs := xs) (S := fun b => b < w3.heap.size ∧ b ≠ G + 1 + 1 ∧ b ≠ G + 1 + 1 + 1) (fun b hb => hb.1) it
    (fun pre W => ∃ vo vr, W.heap[G + 1 + 1]? = some (.cells #[vo] 29 (0, 0)) ∧ W.heap[G + 1 + 1 + 1]? = some (.cells #[vr] 24 (0, 0)) ∧ W.ownsRow w3.heap.size 40 7 vo (clsL pre).length ((clsL pre).flatMap clT) ∧ W.ownsRow w3.heap.size 46 2 vr (mgdL pre).length ((mgdL pre).flatMap flC) ∧ W.heap[G + 1]? = some (.cells #[.slice none 0 0] 24 (0, 0)) ∧ Ext w W ∧ w3.heap.size ≤ W.heap.size)
    (fun _ _ _ => False)
    (fun x a' W => ∃ Bx, w3.heap.size ≤ Bx ∧ W.heap[Bx]? = some (.cells #[.bool x.2.1.1, .string x.2.1.2, .bool x.2.2.1.1, .string x.2.2.1.2, .bool x.2.2.2.1, .string x.2.2.2.2] 74 (0, 0)) ∧ a' = { tmps := #[.agg #[.slice a0 f0.length c0, .slice a1 f1.length c1, .slice a2 f2.length c2], .pointer (some ⟨G, 0, none⟩), .slice none 0 0, .pointer (some ⟨G + 1, 0, none⟩), .pointer (some ⟨G + 1 + 1, 0, none⟩), .pointer (some ⟨G + 1 + 1 + 1, 0, none⟩), .string x.1, .pointer (some ⟨Bx, 0, none⟩), undef, .agg #[.slice a0 f0.length c0, .slice a1 f1.length c1, .slice a2 f2.length c2], seqM A L, .string x.1, .agg #[.bool x.2.1.1, .string x.2.1.2, .bool x.2.2.1.1, .string x.2.2.1.2, .bool x.2.2.2.1, .string x.2.2.2.2], undef, undef, undef, undef, undef, undef, undef, undef, undef, undef, undef, undef, undef, undef, undef, undef, undef, undef, undef, undef, undef, undef, undef, undef, undef, undef, undef, undef, undef, undef, undef, undef, undef, undef, undef, undef, undef, undef, undef, undef, undef, undef], defers := [] })
    ?ie ?is ?ip ?xp ?ap ?h0 ?assign ?body ?done ?stop
  case ie =>
    rintro pre A B ⟨vo, vr, h1, h2, h3, h4, h5, h6, h7⟩ x
    exact ⟨vo, vr, x.keeps h1, x.keeps h2, owns_extU h3 x, owns_extU h4 x, x.keeps h5, h6.trans x, Nat.le_trans h7 x.size⟩
  case is =>
    rintro pre A ⟨vo, vr, h1, h2, h3, h4, h5, h6, h7⟩
    exact h7
  case ip =>
    rintro pre W l o o' ⟨vo, vr, h1, h2, h3, h4, h5, h6, h7⟩ hl ho hc
    exact ⟨vo, vr, (put_otherG (by omega)).trans h1, (put_otherG (by omega)).trans h2, owns_put h3 ho hc, owns_put h4 ho hc, (put_otherG (by omega)).trans h5, h6.grown (grownBy_putObj' W l o') (fun k e => by cases e; omega), by rw [put_size]; exact h7⟩
  case xp => intro c pre W l o o' h; exact h.elim
  case ap =>
    rintro x a' W l o o' ⟨Bx, h1, h2, h3⟩ hl ho hc
    refine ⟨Bx, h1, (put_otherG (fun e => ?_)).trans h2, h3⟩
    subst e
    rw [ho] at h2
    cases h2
    simp [Obj.isCells] at hc
  case h0 => exact ⟨_, _, bO, bQ, World.ownsRow_nil _ _ _ _, World.ownsRow_nil _ _ _ _, bR, X3, Nat.le_refl _⟩
  case assign =>
    intro l x W K hws hK
    dsimp only [trE, trV]
    gi_wp2
    exact hK _ _ ((Ext.refl W).alloc _) ⟨W.heap.size, by omega, heap_alloc_new W _, rfl⟩
  case body =>
    rintro l pre x a' W hpx hws ⟨vo, vr, bO, bQ, ownO, ownQ, bR, X, hs⟩ ⟨Bx, hBx, bX, rfl⟩
    have HC := Lib.hid (clsL_snoc pre x)
    have HM := Lib.hid (mgdL_snoc pre x)
    have hpl : pre.length < 4000 := by
      have := hpx.length_le
      rw [List.length_append, List.length_singleton] at this
      omega
    have hcl := clsL_len pre
    have hml := mgdL_len pre
    obtain ⟨p, m0, m1, m2⟩ := x
    dsimp only at bX HC HM ⊢
    generalize clsL pre = CL at *
    generalize mgdL pre = ML at *
    have k0 : W.cell? ⟨Bx, 0, none⟩ = some (.bool m0.1) := by rw [block_cell bX]; rfl
    have k1 : W.cell? ⟨Bx, 1, none⟩ = some (.string m0.2) := by rw [block_cell bX]; rfl
    have k2 : W.cell? ⟨Bx, 2, none⟩ = some (.bool m1.1) := by rw [block_cell bX]; rfl
    have k3 : W.cell? ⟨Bx, 3, none⟩ = some (.string m1.2) := by rw [block_cell bX]; rfl
    have k4 : W.cell? ⟨Bx, 4, none⟩ = some (.bool m2.1) := by rw [block_cell bX]; rfl
    have k5 : W.cell? ⟨Bx, 5, none⟩ = some (.string m2.2) := by rw [block_cell bX]; rfl
    obtain ⟨mm, hmm⟩ : ∃ mm, mergedM m0 m1 m2 = mm := ⟨_, rfl⟩
    have hmo : mgOf (p, m0, m1, m2) = mm := hmm
    have hio : isCl (p, m0, m1, m2) = clashM m0 m1 m2 := rfl
    rw [hio] at HC HM
    rw [hmo] at HM
    have HMM := Lib.hid hmm
    clear hmm hmo hio
    gi_wp2
    refine ⟨trivial, (CallsIn.inRound l ((callsIn_wide (n := 4)).2 (trioMerged W m0 m1 m2))).mono ?_⟩
    rintro e W1 ⟨he, y1⟩
    obtain rfl : e = .returned (.agg #[.bool mm.1, .string mm.2]) := by rw [he, HMM.out]; rfl
    clear he
    have y2 : Ext W (W1.alloc (.cells #[.bool mm.1, .string mm.2] 72)) := y1.alloc _
    have k0 := y2.cell k0
    have k1 := y2.cell k1
    have k2 := y2.cell k2
    have k3 := y2.cell k3
    have k4 := y2.cell k4
    have k5 := y2.cell k5
    have bM := heap_alloc_new W1 (.cells #[.bool mm.1, .string mm.2] 72)
    gi_wp2
    generalize W1.alloc (.cells #[.bool mm.1, .string mm.2] 72) = W2 at *
    generalize W1.heap.size = Bm at *
    refine ⟨trivial, (CallsIn.inRound l ((callsIn_wide (n := 4)).2 (trioClashes W2 m0 m1 m2))).mono ?_⟩
    rintro e W3 ⟨rfl, y3⟩
    have Y := y2.trans y3
    have k0 := y3.cell k0
    have k1 := y3.cell k1
    have k2 := y3.cell k2
    have k3 := y3.cell k3
    have k4 := y3.cell k4
    have k5 := y3.cell k5
    have bM := y3.keeps bM
    have bO := Y.keeps bO
    have bQ := Y.keeps bQ
    have bR := Y.keeps bR
    have ownO := owns_extU ownO Y
    have ownQ := owns_extU ownQ Y
    have X := X.trans Y
    have hs := Nat.le_trans hs Y.size
    have kO := KeepO.ext Y
    have kS := KeepS.ext (S := fun b => b < w3.heap.size ∧ b ≠ G + 1 + 1 ∧ b ≠ G + 1 + 1 + 1) (fun b hb => by have := hb.1; omega) Y
    obtain ⟨ao, co, rfl⟩ := slice_shape ownO
    obtain ⟨aq, cq, rfl⟩ := slice_shape ownQ
    have cO : W3.cell? ⟨G + 1 + 1, 0, none⟩ = some (.slice ao CL.length co) := by rw [block_cell bO]; rfl
    have fO := block_free bO 0
    have cQ : W3.cell? ⟨G + 1 + 1 + 1, 0, none⟩ = some (.slice aq ML.length cq) := by rw [block_cell bQ]; rfl
    have fQ := block_free bQ 0
    have km := block_cell bM 0
    have kt := block_cell bM 1
    clear y1 y2 y3 Y bX
    cases hcl2 : clashM m0 m1 m2 with
    | true =>
      rw [hcl2] at HC HM
      have yA : Ext W3 (W3.alloc (.cells (clT (p, m0, m1, m2)).toArray 40)) := (Ext.refl _).alloc _
      have own6 := ownO.alloc (.cells (clT (p, m0, m1, m2)).toArray 40)
      have ownQ6 := ownQ.alloc (.cells (clT (p, m0, m1, m2)).toArray 40)
      have bO6 := yA.keeps bO
      have bQ6 := yA.keeps bQ
      have bR6 := yA.keeps bR
      have hs6 := Nat.le_trans hs yA.size
      have HX6 := Lib.hid (X.trans yA)
      have HKO := Lib.hid (kO.trans (KeepO.ext yA))
      have HKS := Lib.hid (kS.trans (KeepS.ext (S := fun b => b < w3.heap.size ∧ b ≠ G + 1 + 1 ∧ b ≠ G + 1 + 1 + 1) (fun b hb => by have := hb.1; omega) yA))
      clear kO kS X
      gi_wp2_with (gi_at_builtin; go_must (refine wp_appIn (w := W3.alloc (.cells (clT (p, m0, m1, m2)).toArray 40)) tyCl rfl (.tmp 18) (.tmp 39) rfl w3.heap.size _ CL.length _ own6 (by rfl) _ 1 (clT (p, m0, m1, m2)) (by omega) (sl_one_new (w := W3) (n := 7) (e := 40) (Q := clT (p, m0, m1, m2)) rfl rfl) (by rfl) (clT_one _) (by omega) (by omega) hs6 ?_); intro v7 w7 own7 gr7; have bO7 := grown_otherO gr7 bO6 (own_neU own6 bO6 (by decide)); have fO7 := block_free bO7 0; have cO7 := block_cell bO7 0; obtain ⟨a7, c7, rfl⟩ := slice_shape own7)
      have bQ7 := grown_otherO gr7 bQ6 (own_neU own6 bQ6 (by decide))
      have bR7 := grown_otherO gr7 bR6 (own_neU own6 bR6 (by decide))
      have ownQ7 := ownQ6.kept gr7 (own_other own6 ownQ6 (by decide))
      have X7 := HX6.out.grown gr7 (fun k hk => by have := (own6.lt k hk).1; have := X3.size; omega)
      refine ⟨(HKO.out.trans (KeepO.own own6 gr7)).trans (KeepO.setCell _ _ _), (HKS.out.trans (KeepS.own own6 gr7 (fun b hb => ⟨by have := hb.1; omega, hb.1⟩))).trans (KeepS.grown (grown_setCell _ _ _ _) (fun b hb => by have := hb.1; have := gr7.size; omega) (fun h => h.2.1 rfl)), ?_⟩
      refine ⟨_, _, block_setCell bO7 _, set_other bQ7 (by omega), ?_, ?_, set_other bR7 (by omega), X7.setCell (p := ⟨G + 1 + 1, 0, none⟩) (by show w.heap.size ≤ G + 1 + 1; omega) _, ?_⟩
      · have := own7.kept (grown_setCell w7 (G + 1 + 1) 0 (.slice a7 (CL.length + 1) c7)) (.inr (own_neU own7 bO7 (by decide)))
        rw [HC.out, List.flatMap_append, List.length_append]
        simpa using this
      · have := ownQ7.kept (grown_setCell w7 (G + 1 + 1) 0 (.slice a7 (CL.length + 1) c7)) (.inr (own_neU ownQ7 bO7 (by decide)))
        rw [HM.out]
        simpa using this
      · exact Nat.le_trans hs6 (Nat.le_trans gr7.size (grown_setCell w7 (G + 1 + 1) 0 _).size)
    | false =>
      rw [hcl2] at HC HM
      cases hm2 : mm.1 with
      | false =>
        rw [hm2] at HM
        gi_wp2
        refine ⟨kO, kS, _, _, bO, bQ, ?_, ?_, bR, X, hs⟩
        · rw [HC.out]; simpa using ownO
        · rw [HM.out]; simpa using ownQ
      | true =>
        rw [hm2] at HM
        have yA : Ext W3 (W3.alloc (.cells #[.string p, .string mm.2] 46)) := (Ext.refl _).alloc _
        have own6 := ownQ.alloc (.cells #[.string p, .string mm.2] 46)
        have ownO6 := ownO.alloc (.cells #[.string p, .string mm.2] 46)
        have bO6 := yA.keeps bO
        have bQ6 := yA.keeps bQ
        have bR6 := yA.keeps bR
        have hs6 := Nat.le_trans hs yA.size
        have HX6 := Lib.hid (X.trans yA)
        have HKO := Lib.hid (kO.trans (KeepO.ext yA))
        have HKS := Lib.hid (kS.trans (KeepS.ext (S := fun b => b < w3.heap.size ∧ b ≠ G + 1 + 1 ∧ b ≠ G + 1 + 1 + 1) (fun b hb => by have := hb.1; omega) yA))
        have hone : ∀ u ∈ [Value.string p, Value.string mm.2], u.oneCell' = true := flC_oneM ⟨p, mm.2⟩
        clear kO kS X
        gi_wp2_with (gi_at_builtin; go_must (refine wp_appIn (w := W3.alloc (.cells #[.string p, .string mm.2] 46)) tyFl rfl (.tmp 45) (.tmp 50) rfl w3.heap.size _ ML.length _ own6 (by rfl) _ 1 [.string p, .string mm.2] (by omega) (sl_one_new (w := W3) (n := 2) (e := 46) (Q := [.string p, .string mm.2]) rfl rfl) (by rfl) hone (by omega) (by omega) hs6 ?_); intro v7 w7 own7 gr7; have bQ7 := grown_otherO gr7 bQ6 (own_neU own6 bQ6 (by decide)); have fQ7 := block_free bQ7 0; have cQ7 := block_cell bQ7 0; obtain ⟨a7, c7, rfl⟩ := slice_shape own7)
        have bO7 := grown_otherO gr7 bO6 (own_neU own6 bO6 (by decide))
        have bR7 := grown_otherO gr7 bR6 (own_neU own6 bR6 (by decide))
        have ownO7 := ownO6.kept gr7 (own_other own6 ownO6 (by decide))
        have X7 := HX6.out.grown gr7 (fun k hk => by have := (own6.lt k hk).1; have := X3.size; omega)
        refine ⟨(HKO.out.trans (KeepO.own own6 gr7)).trans (KeepO.setCell _ _ _), (HKS.out.trans (KeepS.own own6 gr7 (fun b hb => ⟨by have := hb.1; omega, hb.1⟩))).trans (KeepS.grown (grown_setCell _ _ _ _) (fun b hb => by have := hb.1; have := gr7.size; omega) (fun h => h.2.2 rfl)), ?_⟩
        refine ⟨_, _, set_other bO7 (by omega), block_setCell bQ7 _, ?_, ?_, set_other bR7 (by omega), X7.setCell (p := ⟨G + 1 + 1 + 1, 0, none⟩) (by show w.heap.size ≤ G + 1 + 1 + 1; omega) _, ?_⟩
        · have := ownO7.kept (grown_setCell w7 (G + 1 + 1 + 1) 0 (.slice a7 (ML.length + 1) c7)) (.inr (own_neU ownO7 bQ7 (by decide)))
          rw [HC.out]
          simpa using this
        · have := own7.kept (grown_setCell w7 (G + 1 + 1 + 1) 0 (.slice a7 (ML.length + 1) c7)) (.inr (own_neU own7 bQ7 (by decide)))
          rw [HM.out]
          simp only [Bool.false_eq_true, if_false, if_true, List.flatMap_append, List.length_append]
          simpa [flC] using this
        · exact Nat.le_trans hs6 (Nat.le_trans gr7.size (grown_setCell w7 (G + 1 + 1 + 1) 0 _).size)
  case done =>
    rintro D W hD ⟨vo, vr, bO, bQ, ownO, ownQ, bR, X, hs⟩ hK
    obtain ⟨CL, hCL⟩ : ∃ C, clsL xs = C := ⟨_, rfl⟩
    obtain ⟨ML, hML⟩ : ∃ C, mgdL xs = C := ⟨_, rfl⟩
    rw [hCL] at ownO
    rw [hML] at ownQ
    have HCL := Lib.hid hCL
    have HML := Lib.hid hML
    clear hCL hML
    obtain ⟨ao, co, rfl⟩ := slice_shape ownO
    obtain ⟨aq, cq, rfl⟩ := slice_shape ownQ
    have cO : W.cell? ⟨G + 1 + 1, 0, none⟩ = some (.slice ao CL.length co) := by rw [block_cell bO]; rfl
    have cQ : W.cell? ⟨G + 1 + 1 + 1, 0, none⟩ = some (.slice aq ML.length cq) := by rw [block_cell bQ]; rfl
    have cR : W.cell? ⟨G + 1, 0, none⟩ = some (.slice none 0 0) := by rw [block_cell bR]; rfl
    have fR := block_free bR 0
    gi_wp2
    gi_region
    gi_wp2
    have bR2 : (W.setCell ⟨G + 1, 0, none⟩ (.slice aq ML.length cq)).drew.heap[G + 1]? = some (.cells #[.slice aq ML.length cq] 24 (0, 0)) := block_setCell bR _
    have hK2 : (W.setCell ⟨G + 1, 0, none⟩ (.slice aq ML.length cq)).drew.heap[D]? = some (.deferred (some [])) := (KeepsOthers.setCell W ⟨G + 1, 0, none⟩ (.slice aq ML.length cq)).same D _ hK rfl
    have ownO2 : (W.setCell ⟨G + 1, 0, none⟩ (.slice aq ML.length cq)).drew.ownsRow w3.heap.size 40 7 (.slice ao CL.length co) CL.length (CL.flatMap clT) := owns_extU (ownO.kept (grown_setCell W (G + 1) 0 (.slice aq ML.length cq)) (.inr (own_neU ownO bR (by decide)))) ((Ext.refl _).drew)
    have ownQ2 : (W.setCell ⟨G + 1, 0, none⟩ (.slice aq ML.length cq)).drew.ownsRow w3.heap.size 46 2 (.slice aq ML.length cq) ML.length (ML.flatMap flC) := owns_extU (ownQ.kept (grown_setCell W (G + 1) 0 (.slice aq ML.length cq)) (.inr (own_neU ownQ bR (by decide)))) ((Ext.refl _).drew)
    have X2' : Ext w (W.setCell ⟨G + 1, 0, none⟩ (.slice aq ML.length cq)).drew := (X.setCell (p := ⟨G + 1, 0, none⟩) (by show w.heap.size ≤ G + 1; omega) _).drew
    generalize (W.setCell ⟨G + 1, 0, none⟩ (.slice aq ML.length cq)).drew = W5 at *
    refine ⟨by simp, .inl ⟨_, _, rfl, run_takeDeferred hK2, ?_⟩⟩
    have b5 : (W5.putObj D (.deferred none)).heap[G + 1]? = _ := (put_otherG (by omega)).trans bR2
    have hX3 := X3.size
    refine ⟨_, results_tmpcell rfl _ _ (G + 1) _ _ _ _ (by rfl) b5 Tryd.underlying24 rfl (info1M _), ?_⟩
    rw [HCL.out, HML.out]
    exact ⟨_, _, rfl, ownsRow_base (owns_put ownO2 hK2 rfl) (by omega), ownsRow_base (owns_put ownQ2 hK2 rfl) (by omega), X2'.grown (grownBy_putObj' W5 D _) (fun k e => by cases e; omega)⟩
  case stop => intro D c pre W _ _ h _; exact h.elim
end Go.Proofs.YtpcpcjejdngllaaDoor
