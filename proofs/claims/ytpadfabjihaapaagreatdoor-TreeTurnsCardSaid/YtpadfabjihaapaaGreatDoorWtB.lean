/- Plain facts on files in their order. -/
import Derived.Test.YtpadfabjihaapaaGreatDoorFlE
import Derived.Sort.Walk0
import Derived.Test.YtpadfabjihaapaaGreatDoorRfJ
import Derived.Test.YtpadfabjihaapaaGreatDoorLdE
import Derived.Test.YtpadfabjihaapaaGreatDoorRegG
import Derived.Test.YtpadfabjihaapaaGreatDoorRegC
import Derived.Test.YtpadfabjihaapaaGreatDoorRegP
import Derived.Laws.Externs
import Derived.Deep.DeepAppendWide
import Derived.Deep.DeepCutAuto
import Derived.BigGuardPart
import Derived.Outline
import Derived.Lib.AppendZerosOnto
import Derived.Test.YtpadfabjihaapaaGreatDoorOpn
namespace Go.Proofs.YtpadfabjihaapaaGreatDoor
open Go.RowKit
set_option linter.unusedVariables false
set_option linter.unusedSimpArgs false

/-- A path stands ahead of another. -/
def bl (a b : ByteArray) : Bool := Op.bytesLess a.toList b.toList
theorem bl_irr (a : ByteArray) : bl a a = false := by
  unfold bl; rw [bytesLess_eq, decide_eq_false_iff_not]; exact List.lt_irrefl _
theorem bl_tr {a b c : ByteArray} (h1 : bl a b = true) (h2 : bl b c = true) : bl a c = true := by
  unfold bl at *
  rw [bytesLess_eq, decide_eq_true_eq] at *
  exact List.lt_trans h1 h2
theorem bl_as {a b : ByteArray} (h1 : bl a b = true) : bl b a = false := by
  cases h : bl b a with
  | false => rfl
  | true => have := bl_tr h1 h; rw [bl_irr] at this; cases this
theorem bl_eq {a b : ByteArray} (h1 : bl a b = false) (h2 : bl b a = false) : a = b := by
  unfold bl at *
  rw [bytesLess_eq, decide_eq_false_iff_not] at *
  have : a.toList = b.toList := by
    rcases Std.lt_trichotomy b.toList a.toList with h3 | h3 | h3
    · exact absurd h3 h2
    · exact h3.symm
    · exact absurd h3 h1
  have h := ba_eq a b
  rw [this, beq_self_eq_true] at h
  exact of_decide_eq_true h.symm
theorem bl_ne {a b : ByteArray} (h : bl a b = true) : a ≠ b := fun e => by subst e; rw [bl_irr] at h; cases h
theorem beq_path {a b : ByteArray} : ((a.toList == b.toList) = true) ↔ a = b := by rw [ba_eq]; exact decide_eq_true_iff
theorem nbeq_path {a b : ByteArray} : ((a.toList == b.toList) = false) ↔ a ≠ b := by rw [ba_eq]; exact decide_eq_false_iff_not
/-- Files in order. -/
def FsS (fs : List Fl) : Prop := fs.Pairwise fun f g => bl f.path g.path = true
theorem repo_sorted {fs : List Fl} (h : repoB fs = true) : FsS fs := by
  unfold repoB at h
  simp only [Bool.and_eq_true, List.all_eq_true] at h
  have h1 : ∀ i (hi : i + 1 < fs.length), bl fs[i].path fs[i + 1].path = true := fun i hi => by
    have := h.2.1 (i + 1) (List.mem_range.2 hi)
    unfold fileB at this
    simp only [Bool.and_eq_true, Bool.or_eq_true] at this
    have h2 := this.2.2.1
    rcases h2 with h2 | h2
    · simp at h2
    · unfold lessB at h2
      rw [getD_atF hi, Nat.add_sub_cancel, getD_atF (by omega)] at h2
      exact h2
  unfold FsS
  rw [List.pairwise_iff_getElem]
  intro i j hi hj hij
  obtain ⟨d, rfl⟩ : ∃ d, j = i + 1 + d := ⟨j - (i + 1), by omega⟩
  clear hij
  induction d with
  | zero => exact h1 i hj
  | succ d ih => exact bl_tr (ih (by omega)) (h1 (i + 1 + d) (by omega))
theorem repo_mem {fs : List Fl} (h : repoB fs = true) : ∀ f ∈ fs, pathB f.path = true ∧ f.text.size ≤ 4096 := by
  unfold repoB at h
  simp only [Bool.and_eq_true, List.all_eq_true] at h
  intro f hf
  obtain ⟨i, hi, rfl⟩ := List.getElem_of_mem hf
  have := h.2.1 i (List.mem_range.2 hi)
  unfold fileB at this
  rw [getD_atF hi] at this
  simp only [Bool.and_eq_true, decide_eq_true_eq] at this
  exact ⟨this.1, this.2.1⟩
theorem repo_len {fs : List Fl} (h : repoB fs = true) : fs.length ≤ 16 := by
  unfold repoB at h
  simp only [Bool.and_eq_true, decide_eq_true_eq] at h
  exact h.1
theorem fs_lt {fs : List Fl} (h : FsS fs) {i j : Nat} (hj : j < fs.length) (hij : i < j) : bl (fs[i]'(by omega)).path fs[j].path = true := (List.pairwise_iff_getElem.1 h) i j (by omega) hj hij
theorem getL_sorted {fs : List Fl} (h : FsS fs) {i : Nat} (hi : i < fs.length) : getL fs fs[i].path = some fs[i] :=
  getL_at hi (fun j hj hji => nbeq_path.2 (bl_ne (fs_lt h hi hji))) (beq_path.2 rfl)
end Go.Proofs.YtpadfabjihaapaaGreatDoor

namespace Go.Proofs.YtpadfabjihaapaaGreatDoor
open Go.RowKit
set_option linter.unusedVariables false
set_option linter.unusedSimpArgs false

def cmpS (a b : ByteArray) : Int := if bl a b = true then -1 else if bl b a = true then 1 else 0
theorem results_TT {P : Program} {fn : Func} {p q : Tmp} (h : fn.results = #[.tmp p, .tmp q]) (tmps : Array Value) (w : World) : (results fn tmps).run P w = .ok (.tuple #[tmps.getD p undef, tmps.getD q undef]) w := by
  simp [results, h]

/-- Where a path stands, or would stand. -/
structure Place (l : List Fl) (p : ByteArray) (i : Nat) : Prop where
  le : i ≤ l.length
  low : ∀ j (hj : j < l.length), j < i → bl l[j].path p = true
  high : ∀ j (hj : j < l.length), i ≤ j → bl l[j].path p = false
def hitB (l : List Fl) (p : ByteArray) (i : Nat) : Bool := decide (i < l.length) && ((l.getD i default).path.toList == p.toList)
set_option maxHeartbeats 4000000 in
set_option maxRecDepth 100000 in
theorem binSearch (w : World) (v : Value) (l : List Fl) (h : IsF w v l) (p : ByteArray) (g : Nat) (hs : FsS l) (hl : l.length ≤ 1000000)
    (hc : ∀ (W : World) (x : Fl), Calls Tryz.prog g #[.agg #[.string x.path, .string x.text], .string p] W fun e w' => e = .returned (.int .i64 (cmpS x.path p)) ∧ Ext W w')
    (eg : ∀ args w, (callFunc g args).run Tryz.prog w = .ok (.enter g args) w) :
    Calls Tryz.prog 57 #[v, .string p, .func (.func g) #[] #[]] w fun e w' => ∃ i : Nat, Place l p i ∧ e = .returned (.tuple #[.int .i64 (i : Int), .bool (hitB l p i)]) ∧ Ext w w' := by
  obtain ⟨ao, cap, rfl, b1, m1, z1, g1⟩ := h.opened
  have G1 := Lib.hid g1
  have HC := Lib.hid hc
  have HS := Lib.hid hs
  clear g1 z1 h hc hs
  go_enter Tryz.func57, Tryz.ntmps57
  go_wp2
  go_loopg [9, 10] l.length (fun q s9 s10 wr => ∃ i j : Nat, i ≤ j ∧ j ≤ l.length ∧ j - i ≤ q ∧ s9 = .int .i64 (i : Int) ∧ s10 = .int .i64 (j : Int) ∧ (∀ k (hk : k < l.length), k < i → bl l[k].path p = true) ∧ (∀ k (hk : k < l.length), j ≤ k → bl l[k].path p = false) ∧ Ext w wr)
  case atStart => exact ⟨0, l.length, by omega, by omega, by omega, rfl, rfl, fun k _ hk => absurd hk (Nat.not_lt_zero _), fun k h1 h2 => by omega, Ext.refl _⟩
  case round =>
    obtain ⟨i, j, hij, hj, hq, rfl, rfl, hlo, hhi, xr⟩ := hrel
    have HLO := Lib.hid hlo
    have HHI := Lib.hid hhi
    clear hlo hhi
    by_cases hlt : i < j
    · obtain ⟨m, hm⟩ : ∃ m, (i + j) / 2 = m := ⟨_, rfl⟩
      have hm1 : i ≤ m := by omega
      have hm2 : m < j := by omega
      obtain ⟨pb, o, rfl, e0, e1⟩ := G1.out m (by omega)
      have e0 := xr.cell e0
      have e1 := xr.cell e1
      generalize hx : l[m] = x at *
      have HX := Lib.hid hx
      clear hx
      go_wp2_with fail
      refine Calls.mono (HC.out _ x) ?_
      rintro e w2 ⟨rfl, x2⟩
      have hm' : ((i : Int) + j) / 2 = (m : Int) := by omega
      rw [hm']
      cases hb : bl x.path p with
      | true =>
        have hcm : cmpS x.path p = -1 := by unfold cmpS; rw [hb]; rfl
        rw [hcm]
        have HB := Lib.hid hb
        clear hb hcm
        go_wp2_with fail
        go_roundg (j - (m + 1))
        case measure => omega
        case rel =>
          refine ⟨m + 1, j, by omega, by omega, by omega, by go_num, rfl, fun k hk h => ?_, HHI.out, xr.trans x2⟩
          by_cases e : k = m
          · subst e; rw [HX.out]; exact HB.out
          · have h1 := fs_lt HS.out (i := k) (j := m) (by omega) (by omega)
            rw [HX.out] at h1
            exact bl_tr h1 HB.out
      | false =>
        have hcm : ¬ cmpS x.path p < 0 := by unfold cmpS; rw [hb, if_neg (by decide)]; split <;> omega
        have HB := Lib.hid hb
        generalize cmpS x.path p = C at *
        clear hb
        go_wp2_with fail
        go_roundg (m - i)
        case measure => omega
        case rel =>
          refine ⟨i, m, by omega, by omega, by omega, rfl, by go_num, HLO.out, fun k hk h => ?_, xr.trans x2⟩
          by_cases e : k = m
          · subst e; rw [HX.out]; exact HB.out
          · have h1 := fs_lt HS.out (i := m) (j := k) hk (by omega)
            rw [HX.out] at h1
            cases h2 : bl (l[k]).path p with
            | false => rfl
            | true => have := bl_tr h1 h2; rw [HB.out] at this; cases this
    · obtain rfl : i = j := by omega
      have HP := Lib.hid (Place.mk hj HLO.out HHI.out)
      by_cases hil : i < l.length
      · obtain ⟨pb, o, rfl, e0, e1⟩ := G1.out i hil
        have e0 := xr.cell e0
        have e1 := xr.cell e1
        have hhi := HHI.out i hil (Nat.le_refl _)
        have hit : hitB l p i = ((l[i]).path.toList == p.toList) := by unfold hitB; rw [decide_eq_true hil, getD_atF hil]; rfl
        generalize hx : l[i] = x at *
        have HIT := Lib.hid hit
        clear hx hit
        go_wp2_with fail
        refine Calls.mono (HC.out _ x) ?_
        rintro e w2 ⟨rfl, x2⟩
        have hcm : (cmpS x.path p == 0) = (x.path.toList == p.toList) := by
          unfold cmpS
          rw [hhi]
          cases h2 : (x.path.toList == p.toList) with
          | true => rw [beq_path.1 h2, bl_irr]; rfl
          | false =>
            have h3 : bl p x.path = true := by
              cases h : bl p x.path with
              | true => rfl
              | false => exact absurd (bl_eq hhi h) (nbeq_path.1 h2)
            rw [h3]; rfl
        have HCM := Lib.hid hcm
        generalize cmpS x.path p = C at *
        clear hcm hhi
        go_wp2_with fail
        go_ret2
        exact ⟨i, HP.out, by rw [HIT.out, ← HCM.out]; rfl, xr.trans x2⟩
      · have hit : hitB l p i = false := by unfold hitB; rw [decide_eq_false hil]; rfl
        have HIT := Lib.hid hit
        have hlt2 : ¬ ((i : Int) < (l.length : Int)) := by omega
        clear hit
        go_wp2_with fail
        go_ret2
        exact ⟨i, HP.out, by rw [HIT.out]; rfl, xr⟩

theorem hit_has {l : List Fl} {p : ByteArray} {i : Nat} (hs : FsS l) (h : Place l p i) : (hitB l p i = true → ∃ hi : i < l.length, getL l p = some l[i]) ∧ (hitB l p i = false → getL l p = none) := by
  constructor
  · intro hh
    unfold hitB at hh
    simp only [Bool.and_eq_true, decide_eq_true_eq] at hh
    obtain ⟨hi, he⟩ := hh
    rw [getD_atF hi] at he
    refine ⟨hi, ?_⟩
    rw [← beq_path.1 he]
    exact getL_sorted hs hi
  · intro hh
    refine getL_no fun j hj => nbeq_path.2 fun e => ?_
    rcases Nat.lt_or_ge j i with h1 | h1
    · have := h.low j hj h1
      rw [e, bl_irr] at this
      cases this
    · have h2 := h.high j hj h1
      have hi : i < l.length := by omega
      unfold hitB at hh
      rw [decide_eq_true hi, getD_atF hi, Bool.true_and] at hh
      have h3 := h.high i hi (Nat.le_refl _)
      have h4 : bl p l[i].path = true := by
        cases h5 : bl p l[i].path with
        | true => rfl
        | false => exact absurd (bl_eq h3 h5) (nbeq_path.1 hh)
      by_cases e2 : j = i
      · subst e2; rw [e, bl_irr] at h4; cases h4
      · have := bl_tr h4 (fs_lt hs hj (by omega))
        rw [e, bl_irr] at this
        cases this
/-- What stands at a path: is it there, its text. -/
def atM (l : List Fl) (p : ByteArray) : Bool × ByteArray := match getL l p with | some f => (true, f.text) | none => (false, ByteArray.empty)
def mC (m : Bool × ByteArray) : List Value := [.bool m.1, .string m.2]
theorem atM_of {l : List Fl} {p : ByteArray} {f : Fl} (h : getL l p = some f) : atM l p = (true, f.text) := by unfold atM; rw [h]
theorem atM_no {l : List Fl} {p : ByteArray} (h : getL l p = none) : atM l p = (false, ByteArray.empty) := by unfold atM; rw [h]
theorem findClosure (w : World) (x : Fl) (p : ByteArray) : Calls Tryz.prog 58 #[.agg #[.string x.path, .string x.text], .string p] w fun e w' => e = .returned (.int .i64 (cmpS x.path p)) ∧ Ext w w' := by
  go_enter Tryz.func58, Tryz.ntmps58
  go_wp2_with fail
  refine Calls.mono (cmpCompare _ x.path p) ?_
  rintro e w1 ⟨rfl, rfl⟩
  go_wp2
  go_ret
  exact ⟨rfl, (Ext.refl w).alloc _⟩
set_option maxHeartbeats 4000000 in
set_option maxRecDepth 100000 in
theorem treeFind (w : World) (v : Value) (l : List Fl) (h : IsF w v l) (p : ByteArray) (hs : FsS l) (hl : l.length ≤ 1000000) :
    Calls Tryz.prog 36 #[.agg #[v], .string p] w fun e w' => ∃ i : Nat, Place l p i ∧ e = .returned (.tuple #[.int .i64 (i : Int), .bool (hitB l p i)]) ∧ Ext w w' := by
  obtain ⟨ao, cap, rfl, -⟩ := h.opened
  have b0 := heap_alloc_new w (.cells #[.slice ao l.length cap] 24)
  have X0 := (Ext.refl w).alloc (.cells #[.slice ao l.length cap] 24)
  have HF := Lib.hid (h.ext X0)
  have cb := (block_cell b0 0).trans (show _ = some (Value.slice ao l.length cap) from rfl)
  have HS := Lib.hid hs
  clear h b0 hs
  go_enter Tryz.func36, Tryz.ntmps36
  go_wp2_with fail
  generalize w.alloc (.cells #[.slice ao l.length cap] 24) = w0 at *
  refine Calls.mono (binSearch w0 _ l HF.out p 58 HS.out hl (fun W x => findClosure W x p) (enters_of Tryz.func58 (by kernel_rfl) rfl)) ?_
  rintro e w1 ⟨i, hi, rfl, x1⟩
  go_wp2_with fail
  refine bodyPost_ret (results_TT rfl _ _) rfl ?_
  exact ⟨i, hi, rfl, X0.trans x1⟩
/-- What tree.Get answers. -/
def getE (l : List Fl) (p : ByteArray) : ByteArray × Int := if repoB l = false then (⟨#[]⟩, 170) else if (atM l p).1 = true then ((atM l p).2, 0) else (⟨#[]⟩, 4)
set_option maxHeartbeats 4000000 in
set_option maxRecDepth 100000 in
theorem treeGet (w : World) (v : Value) (l : List Fl) (h : IsF w v l) (p : ByteArray) :
    Calls Tryz.prog 20 #[.agg #[v], .string p] w fun e w' => e = .returned (.tuple #[.string (getE l p).1, .int .i64 (getE l p).2]) ∧ Ext w w' := by
  obtain ⟨R, hR⟩ : ∃ R, getE l p = R := ⟨_, rfl⟩
  rw [hR]
  have HR := Lib.hid hR
  clear hR
  obtain ⟨ao, cap, rfl, -⟩ := h.opened
  have b0 := heap_alloc_new w (.cells #[.slice ao l.length cap] 24)
  have X0 := (Ext.refl w).alloc (.cells #[.slice ao l.length cap] 24)
  have HF := Lib.hid (h.ext X0)
  have cb := (block_cell b0 0).trans (show _ = some (Value.slice ao l.length cap) from rfl)
  clear h b0
  go_enter Tryz.func20, Tryz.ntmps20
  go_wp2_with fail
  generalize w.alloc (.cells #[.slice ao l.length cap] 24) = w0 at *
  generalize hG : w.heap.size = G at *
  have E := treeCheck w0 _ l HF.out
  cases hr : repoB l with
  | false =>
    rw [hr] at E
    obtain rfl : (⟨#[]⟩, 170) = R := by rw [← HR.out]; unfold getE; rw [hr]; rfl
    refine Calls.mono E ?_
    rintro e w1 ⟨rfl, y⟩
    simp only [show errR false = 170 from rfl]
    go_wp2_with fail
    refine bodyPost_ret (results_TT rfl _ _) rfl ?_
    exact ⟨rfl, X0.trans y⟩
  | true =>
    rw [hr] at E
    have hR2 : R = if (atM l p).1 = true then ((atM l p).2, 0) else (⟨#[]⟩, 4) := by rw [← HR.out]; unfold getE; rw [hr]; rfl
    have HS := Lib.hid (repo_sorted hr)
    have hl := repo_len hr
    have HR2 := Lib.hid hR2
    clear hR2 hr HR
    refine Calls.mono E ?_
    rintro e w1 ⟨rfl, y⟩
    simp only [show errR true = 0 from rfl]
    have cb := y.cell cb
    have X := X0.trans y
    have HF1 := HF.out.ext y
    clear y E X0
    go_wp2_with fail
    refine Calls.mono (treeFind w1 _ l HF1 p HS.out (by omega)) ?_
    rintro e w2 ⟨i, hi, rfl, y⟩
    have cb := y.cell cb
    have X := X.trans y
    obtain ⟨q1, q2⟩ := hit_has HS.out hi
    have HF2 := HF1.ext y
    cases hh : hitB l p i with
    | false =>
      obtain rfl : R = (⟨#[]⟩, 4) := by rw [HR2.out, atM_no (q2 hh)]; rfl
      clear q1 q2
      go_wp2_with fail
      refine bodyPost_ret (results_TT rfl _ _) rfl ?_
      exact ⟨rfl, X⟩
    | true =>
      obtain ⟨hil, hgl⟩ := q1 hh
      obtain rfl : R = (l[i].text, 0) := by rw [HR2.out, atM_of hgl]; rfl
      obtain ⟨_, _, e0, _, _, _, g1⟩ := HF2.opened
      simp only [Value.slice.injEq, true_and] at e0
      obtain ⟨rfl, rfl⟩ := e0
      obtain ⟨pb, o, rfl, e0, e1⟩ := g1 i hil
      clear q1 q2 g1 hgl HF2 HF1 e0
      obtain ⟨x, hx⟩ : ∃ x, l[i] = x := ⟨_, rfl⟩
      rw [hx] at e1
      have HX := Lib.hid hx
      clear hx
      go_wp2_with fail
      refine bodyPost_ret (results_TT rfl _ _) rfl ?_
      rw [HX.out]
      exact ⟨rfl, X⟩
end Go.Proofs.YtpadfabjihaapaaGreatDoor

namespace Go.Proofs.YtpadfabjihaapaaGreatDoor
open Go.RowKit
set_option linter.unusedVariables false
set_option linter.unusedSimpArgs false

theorem flC_oneL (l : List Fl) : ∀ c ∈ l.flatMap flC, c.oneCell' = true := by
  intro c hc
  obtain ⟨f, _, hf⟩ := List.mem_flatMap.1 hc
  exact flC_one1 f c hf
set_option maxHeartbeats 1000000 in
set_option maxRecDepth 100000 in
theorem cloneF (w : World) (v : Value) (l : List Fl) (h : IsF w v l) (hl : l.length ≤ 1000000) :
    Calls Tryz.prog 41 #[v] w fun e w' => ∃ v', e = .returned v' ∧ w'.ownsRow w.heap.size 66 2 v' l.length (l.flatMap flC) ∧ Ext w w' := by
  have hx := h
  obtain ⟨zE, tyE⟩ := tyFi
  have q22 : ∀ (w : World) (a : Option Addr) (n c n' c' : Nat), (binOp .eql 22 (.slice a n c) (.slice none n' c')).run Tryz.prog w = .ok (.bool a.isNone) w := fun w a n c n' c' => Lib.run_eql_slice_nil w _ _ a n c n' c' Tryz.underlying22
  obtain ⟨ao, cap, rfl⟩ := sl_len h.sl
  obtain ⟨_, k1, m1⟩ := sl_cap h.sl
  have z1 : ao = none → cap = 0 := by
    obtain ⟨_, ao', cap', e, _, _, h4, _⟩ := h.sl
    simp only [Value.slice.injEq] at e
    obtain ⟨rfl, _, rfl⟩ := e
    exact h4
  cases ao with
  | none =>
    have hc := z1 rfl
    have hn : l = [] := List.eq_nil_of_length_eq_zero (by omega)
    subst hn
    subst hc
    clear z1 hx h
    go_enter Tryz.func41, Tryz.ntmps41
    go_wp2_with fail
    go_ret
    exact ⟨_, rfl, World.ownsRow_nil _ _ _ _, Ext.refl _⟩
  | some a =>
    clear z1 h
    have o0 := World.ownsRow_made (base := w.heap.size) (e := 66) (size := 2) w #[] 0 (Nat.le_refl _) (by decide) rfl
    go_enter Tryz.func41, Tryz.ntmps41
    go_wp2_with (at_builtin; refine wp_app tyE rfl _ _ rfl w.heap.size _ 0 [] o0 (by rfl) _ l.length (l.flatMap flC) (hx.sl.ext ((Ext.refl _).alloc _)) (by rfl) (flC_oneL l) (by omega) (by omega) (by simp) ?_; intro v2 w2 own2 gr2)
    go_ret
    have x2 := own_base o0 gr2 ((Ext.refl w).alloc _) (Nat.le_refl _)
    rw [Nat.zero_add, List.nil_append] at own2
    exact ⟨v2, rfl, own2, x2⟩

set_option maxHeartbeats 8000000 in
set_option maxRecDepth 100000 in
theorem insFl (w : World) (base : Nat) (v : Value) (n : Nat) (xs : List Value) (own : w.ownsRow base 66 2 v n xs) (hbase : base ≤ w.heap.size) (i : Nat) (hi : i ≤ n) (hn : n ≤ 100000)
    (g1 : Nat) (ys : List Value) (T1 : TypeId) (hy : ys.length = 2) (hg1 : w.heap[g1]? = some (.cells ys.toArray T1 (0, 0))) (hne : v.ownBlock ≠ some g1) (hx1 : ∀ c ∈ xs, c.oneCell' = true) (hy1 : ∀ c ∈ ys, c.oneCell' = true) :
    Calls Tryz.prog 42 #[v, .int .i64 (i : Int), .slice (some ⟨g1, 0, none⟩) 1 1] w fun e w' => ∃ v', e = .returned v' ∧ w'.ownsRow base 66 2 v' (n + 1) (xs.take (i * 2) ++ ys ++ xs.drop (i * 2)) ∧ w.grownBy w' v.ownBlock := by
  obtain ⟨zE, tyE⟩ := tyFi
  have hys : IsSl w (.slice (some ⟨g1, 0, none⟩) 1 1) 2 1 ys := ⟨by omega, some ⟨g1, 0, none⟩, 1, rfl, by omega, by omega, (fun h => by cases h), fun j hj => ⟨g1, 0, rfl, by rw [Nat.zero_add, block_cell hg1]; simp⟩⟩
  have hlx := own.1
  have hsh := ownSh own
  have hi0 : (0 : Int) ≤ (i : Int) := Int.natCast_nonneg _
  have hin : (i : Int) ≤ (n : Int) := by omega
  by_cases hie : i = n
  · subst hie
    obtain ⟨a, c, rfl⟩ := hsh
    have hcm : i ≤ c ∧ c ≤ 9223372036854775807 := by obtain ⟨_, ao, cap, e, h2, h3, _⟩ := IsSl.of_owns own; simp only [Value.slice.injEq, true_and] at e; obtain ⟨_, rfl⟩ := e; exact ⟨h2, h3⟩
    have hc1 : (i : Int) ≤ (c : Int) := by omega
    have hc2 : (c : Int) ≤ 9223372036854775807 := by omega
    have OWN := Lib.hid own
    have HY := Lib.hid hys
    clear hg1 hne own hys
    go_enter Tryz.func42, Tryz.ntmps42
    go_wp2_with (at_builtin; refine wp_app tyE rfl (.tmp 23) (.tmp 24) rfl base _ i xs OWN.out (by rfl) _ 1 ys HY.out (by rfl) hy1 (by omega) (by omega) hbase ?_; intro v2 w2 own2 gr2)
    all_goals
      go_ret
      refine ⟨v2, rfl, ?_, by cases a <;> exact gr2⟩
      rw [List.take_of_length_le (by omega), List.drop_of_length_le (by omega), List.append_nil]
      exact own2
  · have hlt : i < n := by omega
    obtain ⟨_, h2⟩ := own
    rcases h2 with ⟨_, h0⟩ | ⟨g, cap, cur, rfl, hb, hg, hnc, hcm, hsz, htk⟩
    · omega
    have hcm' : cap ≤ 9223372036854775807 := by unfold maxLen at hcm; omega
    have hg1n : g1 ≠ g := fun e => hne (by rw [e]; rfl)
    have hgs := block_lt hg
    have hg1s := block_lt hg1
    obtain ⟨ie, hie1, hzz, hiz, hib⟩ := tyE.info
    have hinfo : (Tryz.prog.info? 66).map (·.size) = some 2 := by rw [hie1]; simp [hiz]
    have hzs := tyE.cells
    have hcells : ∀ j u, xs[j]? = some u → w.cell? ⟨g, j, none⟩ = some u := by
      intro j u hj
      have hjl : j < n * 2 := by have := (List.getElem?_eq_some_iff.1 hj).1; omega
      rw [block_cell hg, ← hj, ← htk, List.getElem?_take, if_pos hjl, Array.getElem?_toList]
    have hxdl : (xs.drop (i * 2)).length = (n - i) * 2 := by rw [List.length_drop, hlx, Nat.sub_mul]
    have hxtl : (xs.take (i * 2)).length = i * 2 := by rw [List.length_take, hlx, Nat.min_eq_left (Nat.mul_le_mul_right _ hi)]
    have hcl : cur.toList.length = cap * 2 := by rw [Array.length_toList, hsz]
    have hik : (i + 1) * 2 + (n - i) * 2 = (n + 1) * 2 := by rw [← Nat.add_mul]; congr 1; omega
    have hik2 : i * 2 + 2 = (i + 1) * 2 := by rw [Nat.add_mul, Nat.one_mul]
    have hik3 : (i + 1) * 2 ≤ (n + 1) * 2 := Nat.mul_le_mul_right _ (by omega)
    have hx1d : ∀ c ∈ xs.drop (i * 2), c.oneCell' = true := fun c hc => hx1 c (List.mem_of_mem_drop hc)
    have q1 : ¬ cap = i := by omega
    have q2 : ((i : Int) == (n : Int)) = false := by rw [beq_eq_false_iff_ne]; omega
    have q3 : (i : Int) ≤ (cap : Int) := by omega
    have q4 : (n : Int) ≤ (cap : Int) := by omega
    have q5 : (cap : Int) ≤ 9223372036854775807 := by omega
    have q6 : (n : Int) ≤ 100000 := by omega
    have q9 : (0 : Int) ≤ (i : Int) + 1 := by omega
    have q10 : (i : Int) + 1 ≤ (n : Int) + 1 := by omega
    have q11 : ((i : Int) + 1).toNat = i + 1 := by omega
    have q12 : (i : Int) ≤ (n : Int) + 1 := by omega
    have hdl0 : 0 < n + 1 - i := by omega
    have q13 : IntKind.i64.wrap ((i : Int) + 1) = (i : Int) + 1 := by rw [IntKind.wrap_i64]; omega
    have HC2 : ∀ (G : Nat) (L1 : List Value) (c : Nat) (W : World), L1.length = c * 2 → n + 1 ≤ c → W.heap[G]? = some (.cells L1.toArray 66 (0, 0)) → W.heap[g1]? = some (.cells ys.toArray T1 (0, 0)) → ∀ ty dl dc, 0 < dl → (Builtin.copy_ #[22, 22] ty #[.slice (some ⟨G, i * 2, none⟩) dl dc, .slice (some ⟨g1, 0, none⟩) 1 1]).run Tryz.prog W = .ok (goInt 1) (W.setRow G (L1.take (i * 2) ++ ys ++ L1.drop (i * 2 + ys.length)).toArray) := fun G L1 c W hL1l hc hW hW1 ty dl dc hdl => by
      have := run_copyN (P := Tryz.prog) W 22 22 ty 66 2 G (i * 2) dl dc ⟨g1, 0, none⟩ 1 1 1 L1.toArray 66 ys Tryz.underlying22 hinfo hW (by simp only [Nat.min_def]; split <;> omega) (by omega)
        (fun j u hj => by rw [Addr.add_lit, Nat.zero_add, block_cell hW1]; simpa using hj) (by rw [List.size_toArray, hL1l, hy, hik2]; have : (n + 1) * 2 ≤ c * 2 := Nat.mul_le_mul_right _ hc; omega) hy1
      simpa using this
    have HC2 := Lib.hid HC2
    by_cases hroom : n + 1 ≤ cap
    · have q7 : (n : Int) + 1 ≤ (cap : Int) := by omega
      have q8 : ¬ cap = i + 1 := by omega
      have hfit : (n + 1) * 2 ≤ cap * 2 := Nat.mul_le_mul_right _ hroom
      have hov : ∀ lb cb, (callFunc 62 #[.slice (some ⟨g1, 0, none⟩) 1 1, .slice (some ⟨g, (i + 1) * 2, none⟩) lb cb]).run Tryz.prog w = .ok (.value (.bool false)) w := fun lb cb => by
        rw [run_callFunc_extern (P := Tryz.prog) Tryz.func62 (by kernel_rfl) (by kernel_rfl) (by kernel_rfl) (e := Extern.SlicesOverlaps.overlaps #[22, 22] #[4]) (by kernel_rfl),
          Lib.run_overlaps_apart (P := Tryz.prog) w 22 4 66 Tryz.underlying22 2 (fun w => by simp [sizeOf, typeInfo, hie1, hiz]) ⟨g1, 0, none⟩ ⟨g, (i + 1) * 2, none⟩ 1 1 lb cb hg1n T1 66 ys.toArray.size cur.size (by simp [World.shape?, hg1]) (by simp [World.shape?, hg]) (by omega) (block_free hg1 _) (block_free hg1 _)]
        rfl
      have hcp1 : ∀ (W : World), W.heap = w.heap → ∀ ty dl dc sl sc, Nat.min sl dl = n - i → (Builtin.copy_ #[22, 22] ty #[.slice (some ⟨g, (i + 1) * 2, none⟩) dl dc, .slice (some ⟨g, i * 2, none⟩) sl sc]).run Tryz.prog W = .ok (goInt ((n - i : Nat))) (W.setRow g (cur.toList.take ((i + 1) * 2) ++ xs.drop (i * 2) ++ cur.toList.drop ((i + 1) * 2 + (xs.drop (i * 2)).length)).toArray) := fun W hW ty dl dc sl sc hmn =>
        run_copyN W _ _ ty 66 2 g ((i + 1) * 2) dl dc ⟨g, i * 2, none⟩ sl sc (n - i) cur 66 (xs.drop (i * 2)) Tryz.underlying22 hinfo (by rw [hW]; exact hg) hmn hxdl
          (fun j u hj => by rw [Addr.add_lit]; rw [List.getElem?_drop] at hj; have := hcells _ u hj; unfold World.cell? at this ⊢; rw [hW]; exact this) (by rw [hxdl, hik]; omega) hx1d
      obtain ⟨L1, hL1⟩ : ∃ L1, cur.toList.take ((i + 1) * 2) ++ xs.drop (i * 2) ++ cur.toList.drop ((i + 1) * 2 + (xs.drop (i * 2)).length) = L1 := ⟨_, rfl⟩
      rw [hL1] at hcp1
      have hL1l : L1.length = cap * 2 := by rw [← hL1]; simp only [List.length_append, List.length_take, List.length_drop, hcl, hlx]; omega
      have HG := Lib.hid hg
      have HG1 := Lib.hid hg1
      have HF : ∀ (W : World), W.heap[g]? = some (.cells (L1.take (i * 2) ++ ys ++ L1.drop (i * 2 + ys.length)).toArray 66 (0, 0)) → W.ownsRow base 66 2 (.slice (some ⟨g, 0, none⟩) (n + 1) cap) (n + 1) (xs.take (i * 2) ++ ys ++ xs.drop (i * 2)) := fun W hW => by
        refine ⟨?_, .inr ⟨g, cap, _, rfl, hb, hW, hroom, hcm, ?_, ?_⟩⟩
        · rw [List.length_append, List.length_append, hxdl, hxtl, hy, hik2, hik]
        · rw [List.size_toArray]
          simp only [List.length_append, List.length_take, List.length_drop, hL1l, hy]
          omega
        · have hle : ((cur.toList.take ((i + 1) * 2)).length) = (i + 1) * 2 := by rw [List.length_take, hcl]; omega
          have t1 : L1.take (i * 2) = xs.take (i * 2) := by
            rw [← hL1, List.append_assoc, List.take_append_of_le_length (by rw [hle]; omega), List.take_take, Nat.min_eq_left (by omega), ← htk, List.take_take, Nat.min_eq_left (Nat.mul_le_mul_right _ hi)]
          have t2 : L1.drop (i * 2 + ys.length) = xs.drop (i * 2) ++ cur.toList.drop ((i + 1) * 2 + (xs.drop (i * 2)).length) := by
            rw [hy, hik2, ← hL1, List.append_assoc]
            exact List.drop_left' hle
          rw [t1, t2]
          simp only [← List.append_assoc]
          exact List.take_left' (by rw [List.length_append, List.length_append, hxdl, hxtl, hy, hik2, hik])
      obtain ⟨L2, hL2⟩ : ∃ L2, L1.take (i * 2) ++ ys ++ L1.drop (i * 2 + ys.length) = L2 := ⟨_, rfl⟩
      rw [hL2] at HF
      have HL2 := Lib.hid hL2
      have HFF := Lib.hid HF
      clear HF hg hg1 hcells hx1 hx1d htk hL1 hys hinfo hL2
      go_enter Tryz.func42, Tryz.ntmps42
      go_upto_region 15 with (simp only [hov])
      refine wp_region_G 8 (fun v => Ext w v) (by kernel_rfl) fun wd hqd hHeld => ?_
      refine G_pure (i := 0) (u := ?va0) rfl (by kernel_rfl) (by kernel_rfl) (by kernel_rfl) (fun _ _ _ h => h) (by decide) (Or.inl ⟨by rfl, ?hya0⟩) hHeld ?_
      case hya0 => (intro w hSw; go_simp; try with_reducible rfl)
      simp only [Act.put, List.setIfInBounds_toArray, List.set_cons_zero, List.set_cons_succ, List.getElem_toArray, List.getElem_cons_zero, List.getElem_cons_succ]
      refine G_pure (i := 1) (u := ?va1) rfl (by kernel_rfl) (by kernel_rfl) (by kernel_rfl) (fun _ _ _ h => h) (by decide) (Or.inl ⟨by rfl, ?hya1⟩) hHeld ?_
      case hya1 => (intro w hSw; go_simp; try with_reducible rfl)
      simp only [Act.put, List.setIfInBounds_toArray, List.set_cons_zero, List.set_cons_succ, List.getElem_toArray, List.getElem_cons_zero, List.getElem_cons_succ]
      refine G_pure (i := 2) (u := ?va2) rfl (by kernel_rfl) (by kernel_rfl) (by kernel_rfl) (fun _ _ _ h => h) (by decide) (Or.inl ⟨by rfl, ?hya2⟩) hHeld ?_
      case hya2 => (intro w hSw; go_simp; try with_reducible rfl)
      simp only [Act.put, List.setIfInBounds_toArray, List.set_cons_zero, List.set_cons_succ, List.getElem_toArray, List.getElem_cons_zero, List.getElem_cons_succ]
      refine G_pure (i := 3) (u := ?va3) rfl (by kernel_rfl) (by kernel_rfl) (by kernel_rfl) (fun _ _ _ h => h) (by decide) (Or.inl ⟨by rfl, ?hya3⟩) hHeld ?_
      case hya3 => (intro w hSw; go_simp; try with_reducible rfl)
      simp only [Act.put, List.setIfInBounds_toArray, List.set_cons_zero, List.set_cons_succ, List.getElem_toArray, List.getElem_cons_zero, List.getElem_cons_succ]
      refine G_pure (i := 4) (u := ?va4) rfl (by kernel_rfl) (by kernel_rfl) (by kernel_rfl) (fun _ _ _ h => h) (by decide) (Or.inl ⟨by rfl, ?hya4⟩) hHeld ?_
      case hya4 => (intro w hSw; go_simp; try with_reducible rfl)
      simp only [Act.put, List.setIfInBounds_toArray, List.set_cons_zero, List.set_cons_succ, List.getElem_toArray, List.getElem_cons_zero, List.getElem_cons_succ]
      refine G_pure (i := 5) (u := ?va5) rfl (by kernel_rfl) (by kernel_rfl) (by kernel_rfl) (fun _ _ _ h => h) (by decide) (Or.inl ⟨by rfl, ?hya5⟩) hHeld ?_
      case hya5 => (intro w hSw; go_simp; try with_reducible rfl)
      simp only [Act.put, List.setIfInBounds_toArray, List.set_cons_zero, List.set_cons_succ, List.getElem_toArray, List.getElem_cons_zero, List.getElem_cons_succ]
      refine G_pure (i := 6) (u := ?va6) rfl (by kernel_rfl) (by kernel_rfl) (by kernel_rfl) (fun _ _ _ h => h) (by decide) (Or.inl ⟨by rfl, ?hya6⟩) hHeld ?_
      case hya6 => (intro w hSw; go_simp; try with_reducible rfl)
      simp only [Act.put, List.setIfInBounds_toArray, List.set_cons_zero, List.set_cons_succ, List.getElem_toArray, List.getElem_cons_zero, List.getElem_cons_succ]
      refine G_pure (i := 7) (u := ?va7) rfl (by kernel_rfl) (by kernel_rfl) (by kernel_rfl) (fun _ _ _ h => h) (by decide) (Or.inl ⟨by rfl, ?hya7⟩) hHeld ?_
      case hya7 => (intro w hSw; go_simp; try with_reducible rfl)
      simp only [Act.put, List.setIfInBounds_toArray, List.set_cons_zero, List.set_cons_succ, List.getElem_toArray, List.getElem_cons_zero, List.getElem_cons_succ]
      refine G_all (rs := [8]) (by kernel_rfl) (by simp) ?_
      intro i hi; obtain rfl : i = 8 := by simpa using hi
      refine wpOp_run rfl (by rfl) ?_
      have hwd : wd.heap = w.heap := (by obtain ⟨q, rfl⟩ := hqd; rfl)
      refine wp_copyN _ (.tmp 73) (.tmp 76) 22 22 rfl _ _ (by rfl) (by rfl) (fun ty => hcp1 _ hwd ty _ _ _ _ (by simp only [Nat.min_def]; split <;> omega)) ?_
      try refine ⟨fun e => absurd e (by decide), ?_⟩
      refine G_free _ _ _ _ (by kernel_rfl) ?_
      try simp only [Act.put, List.setIfInBounds_toArray, List.set_cons_zero, List.set_cons_succ, List.getElem_toArray, List.getElem_cons_zero, List.getElem_cons_succ]
      refine wpAny_done (by kernel_rfl) ?_ _
      refine NoPanic.normal ?_
      have hgd : wd.heap[g]? = some (.cells cur 66 (0, 0)) := by rw [hwd]; exact HG.out
      have hA := setRow_heap wd g _ L1.toArray _ _ hgd
      have hB := grown_other (grownSetRow (c := L1.toArray)) (show wd.heap[g1]? = _ by rw [hwd]; exact HG1.out) hg1n
      have hgr : w.grownBy wd (some g) := ext_grown (toExt hqd) _
      have C2 := fun ty dl dc hd => HC2.out g L1 cap _ hL1l hroom hA hB ty dl dc hd
      rw [HL2.out] at C2
      clear hov hcp1 hgd hB
      go_wp2_with ((with_reducible refine at_copy (.tmp 80) (.tmp 81) ?_); go_must (refine wpl_copyN _ (by rfl) (.tmp 80) (.tmp 81) 22 22 rfl _ _ (by rfl) (by rfl) (fun ty => C2 ty (n + 1 - i) _ hdl0) ?_))
      go_ret
      exact ⟨_, rfl, HFF.out _ (setRow_heap _ g _ _ _ _ hA), grown_trans (grown_trans hgr grownSetRow) grownSetRow⟩
    · have q7 : ¬ (n : Int) + 1 ≤ (cap : Int) := by omega
      have q7b : (cap : Int) < (n : Int) + 1 := by omega
      obtain ⟨m, hm⟩ : ∃ m, n + 1 - i = m := ⟨_, rfl⟩
      have him : i + m = n + 1 := by omega
      have hm0 : 0 < m := by omega
      obtain ⟨gc, hgc⟩ : ∃ gc, grownCap w (i + m) cap 66 = gc := ⟨_, rfl⟩
      have hgcn : n + 1 ≤ gc := by rw [← hgc]; have := grownCap_ge w (i + m) cap 66; omega
      have hgcm : gc ≤ maxLen := by rw [← hgc]; exact grownCap_le_maxLen _ _ _ _ (by unfold maxLen; omega)
      have hgcm' : (gc : Int) ≤ 9223372036854775807 := by unfold maxLen at hgcm; omega
      have q8 : ¬ gc = i + 1 := by omega
      have q14 : ¬ gc = i := by omega
      have q15 : (n : Int) + 1 ≤ (gc : Int) := by omega
      have q16 : IntKind.i64.wrap ((n : Int) + 1 - (i : Int)) = (n : Int) + 1 - (i : Int) := by rw [IntKind.wrap_i64]; omega
      have q17 : (n : Int) + 1 - (i : Int) = (m : Int) := by omega
      have f1 : cap < i + m := by omega
      have f2 := ins_fit (i + m) 32 (by omega) (by omega)
      have f3 := growslice_fits_wide (need := i + m) (old := cap) (bytes := 32) f1 f2
      rw [← hib] at f3
      have hap : ∀ ty, (Builtin.append_ #[22, 3] ty #[.slice (some ⟨g, 0, none⟩) i cap, .int .i64 (m : Int)]).run Tryz.prog w = .ok (.slice (some ⟨w.heap.size, 0, none⟩) (n + 1) gc) (w.drew.alloc (.cells ((xs.take (i * 2)).toArray ++ Builtin.zeroCells zE.cells m ++ Builtin.zeroCells zE.cells (gc - (n + 1))) 66)) := fun ty => by
        have := Lib.run_append_grow_zeros (P := Tryz.prog) w 22 3 ty 66 ie zE .i64 .i64 Tryz.underlying22 Tryz.underlying3 hie1 hzz (some ⟨g, 0, none⟩) i cap (xs.take (i * 2))
          (by rw [hiz]; exact run_firstCells_some w.drew 2 i ⟨g, 0, none⟩ i cap _ hxtl (fun j u hj => by
            rw [Addr.add_lit, Nat.zero_add]
            have hj2 : j < i * 2 := by have := (List.getElem?_eq_some_iff.1 hj).1; omega
            rw [List.getElem?_take, if_pos hj2] at hj
            exact hcells j u hj))
          m (by omega) (by omega) (by omega) (by omega) (by rw [hib]; omega) f3
        rw [hgc, him] at this
        exact this
      obtain ⟨L0, hL0⟩ : ∃ L0, ((xs.take (i * 2)).toArray ++ Builtin.zeroCells zE.cells m ++ Builtin.zeroCells zE.cells (gc - (n + 1))).toList = L0 := ⟨_, rfl⟩
      have hL0a : (xs.take (i * 2)).toArray ++ Builtin.zeroCells zE.cells m ++ Builtin.zeroCells zE.cells (gc - (n + 1)) = L0.toArray := by rw [← hL0]
      have hL0l : L0.length = gc * 2 := by
        rw [← hL0, Array.length_toList, Array.size_append, Array.size_append, size_zeroCells, size_zeroCells, hzs, List.size_toArray, hxtl, ← Nat.add_mul, ← Nat.add_mul]
        congr 1
        omega
      have hL0t : L0.take (i * 2) = xs.take (i * 2) := by
        rw [← hL0, Array.toList_append, Array.toList_append, List.append_assoc]
        exact List.take_left' hxtl
      rw [hL0a] at hap
      obtain ⟨L1, hL1⟩ : ∃ L1, L0.take (i * 2) ++ ys ++ L0.drop (i * 2 + ys.length) = L1 := ⟨_, rfl⟩
      have hfit : (n + 1) * 2 ≤ gc * 2 := Nat.mul_le_mul_right _ hgcn
      have hL1l : L1.length = gc * 2 := by rw [← hL1]; simp only [List.length_append, List.length_take, List.length_drop, hL0l, hy]; omega
      have hcp2 : ∀ (W : World), W.heap[w.heap.size]? = some (.cells L1.toArray 66 (0, 0)) → (∀ j u, (xs.drop (i * 2))[j]? = some u → W.cell? ⟨g, i * 2 + j, none⟩ = some u) → ∀ ty dl dc sl sc, Nat.min sl dl = n - i → (Builtin.copy_ #[22, 22] ty #[.slice (some ⟨w.heap.size, (i + 1) * 2, none⟩) dl dc, .slice (some ⟨g, i * 2, none⟩) sl sc]).run Tryz.prog W = .ok (goInt ((n - i : Nat))) (W.setRow w.heap.size (L1.take ((i + 1) * 2) ++ xs.drop (i * 2) ++ L1.drop ((i + 1) * 2 + (xs.drop (i * 2)).length)).toArray) := fun W hW hsrc ty dl dc sl sc hmn => by
        have := run_copyN (P := Tryz.prog) W 22 22 ty 66 2 w.heap.size ((i + 1) * 2) dl dc ⟨g, i * 2, none⟩ sl sc (n - i) L1.toArray 66 (xs.drop (i * 2)) Tryz.underlying22 hinfo hW hmn hxdl
          (fun j u hj => by rw [Addr.add_lit]; exact hsrc j u hj) (by rw [List.size_toArray, hL1l, hxdl, hik]; exact hfit) hx1d
        simpa using this
      have HF : ∀ (W : World), W.heap[w.heap.size]? = some (.cells (L1.take ((i + 1) * 2) ++ xs.drop (i * 2) ++ L1.drop ((i + 1) * 2 + (xs.drop (i * 2)).length)).toArray 66 (0, 0)) → W.ownsRow base 66 2 (.slice (some ⟨w.heap.size, 0, none⟩) (n + 1) gc) (n + 1) (xs.take (i * 2) ++ ys ++ xs.drop (i * 2)) := fun W hW => by
        have t1 : L1.take ((i + 1) * 2) = xs.take (i * 2) ++ ys := by
          rw [← hL1, hL0t]
          exact List.take_left' (by rw [List.length_append, hxtl, hy, hik2])
        refine ⟨?_, .inr ⟨w.heap.size, gc, _, rfl, hbase, hW, hgcn, hgcm, ?_, ?_⟩⟩
        · rw [List.length_append, List.length_append, hxdl, hxtl, hy, hik2, hik]
        · rw [List.size_toArray]
          simp only [List.length_append, List.length_take, List.length_drop, hL1l, hlx]
          omega
        · rw [t1]
          exact List.take_left' (by rw [List.length_append, List.length_append, hxdl, hxtl, hy, hik2, hik])
      obtain ⟨L2, hL2⟩ : ∃ L2, L1.take ((i + 1) * 2) ++ xs.drop (i * 2) ++ L1.drop ((i + 1) * 2 + (xs.drop (i * 2)).length) = L2 := ⟨_, rfl⟩
      rw [hL2] at HF hcp2
      have HFF := Lib.hid HF
      have HCP := Lib.hid hcp2
      have HCE := Lib.hid hcells
      have HG1 := Lib.hid hg1
      have HL0 := Lib.hid hL0l
      have HL1 := Lib.hid hL1
      clear HF hcp2 hg hg1 hcells hx1 hx1d htk hL1 hL2 f1 f2 f3 hys hinfo hL0 hL0a hL0t hL0l hgc
      go_enter Tryz.func42, Tryz.ntmps42
      go_upto_region 10 with (at_builtin; go_must (refine wpl_appendN _ (by rfl) (.tmp 34) (.tmp 39) 22 3 rfl _ _ (by rfl) (by rfl) (fun ty => hap ty) ?_))
      have hA0 : (w.alloc (.cells L0.toArray 66)).drew.heap[w.heap.size]? = some (.cells L0.toArray 66 (0, 0)) := heap_alloc_new w _
      have hE0 : Ext w (w.alloc (.cells L0.toArray 66)).drew := ((Ext.refl w).alloc _).drew
      generalize (w.alloc (.cells L0.toArray 66)).drew = W0 at *
      have C2 := fun ty dl dc hd => HC2.out w.heap.size L0 gc W0 HL0.out hgcn hA0 (hE0.keeps HG1.out) ty dl dc hd
      rw [HL1.out] at C2
      clear hap
      go_upto_region 11 with ((with_reducible refine at_copy (.tmp 43) (.tmp 44) ?_); go_must (refine wpl_copyN _ (by rfl) (.tmp 43) (.tmp 44) 22 22 rfl _ _ (by rfl) (by rfl) (fun ty => C2 ty m _ hm0) ?_))
      have hA1 := setRow_heap W0 w.heap.size _ L1.toArray _ _ hA0
      have gr1 := grownSetRow (w := W0) (g := w.heap.size) (c := L1.toArray)
      have HS : ∀ W, Ext (W0.setRow w.heap.size L1.toArray) W → ∀ j u, (xs.drop (i * 2))[j]? = some u → W.cell? ⟨g, i * 2 + j, none⟩ = some u := fun W hW j u hj => by
        rw [List.getElem?_drop] at hj
        exact hW.cell (gr1.cell (hE0.cell (HCE.out _ u hj)) (by simp; omega))
      generalize W0.setRow w.heap.size L1.toArray = W1 at *
      have HS := Lib.hid HS
      clear C2 hA0
      refine wp_region_G 8 (fun v => Ext W1 v) (by kernel_rfl) fun wd hqd hHeld => ?_
      refine G_pure (i := 0) (u := ?vb0) rfl (by kernel_rfl) (by kernel_rfl) (by kernel_rfl) (fun _ _ _ h => h) (by decide) (Or.inl ⟨by rfl, ?hyb0⟩) hHeld ?_
      case hyb0 => (intro w hSw; go_simp; try with_reducible rfl)
      simp only [Act.put, List.setIfInBounds_toArray, List.set_cons_zero, List.set_cons_succ, List.getElem_toArray, List.getElem_cons_zero, List.getElem_cons_succ]
      refine G_pure (i := 1) (u := ?vb1) rfl (by kernel_rfl) (by kernel_rfl) (by kernel_rfl) (fun _ _ _ h => h) (by decide) (Or.inl ⟨by rfl, ?hyb1⟩) hHeld ?_
      case hyb1 => (intro w hSw; go_simp; try with_reducible rfl)
      simp only [Act.put, List.setIfInBounds_toArray, List.set_cons_zero, List.set_cons_succ, List.getElem_toArray, List.getElem_cons_zero, List.getElem_cons_succ]
      refine G_pure (i := 2) (u := ?vb2) rfl (by kernel_rfl) (by kernel_rfl) (by kernel_rfl) (fun _ _ _ h => h) (by decide) (Or.inl ⟨by rfl, ?hyb2⟩) hHeld ?_
      case hyb2 => (intro w hSw; go_simp; try with_reducible rfl)
      simp only [Act.put, List.setIfInBounds_toArray, List.set_cons_zero, List.set_cons_succ, List.getElem_toArray, List.getElem_cons_zero, List.getElem_cons_succ]
      refine G_pure (i := 3) (u := ?vb3) rfl (by kernel_rfl) (by kernel_rfl) (by kernel_rfl) (fun _ _ _ h => h) (by decide) (Or.inl ⟨by rfl, ?hyb3⟩) hHeld ?_
      case hyb3 => (intro w hSw; go_simp; try with_reducible rfl)
      simp only [Act.put, List.setIfInBounds_toArray, List.set_cons_zero, List.set_cons_succ, List.getElem_toArray, List.getElem_cons_zero, List.getElem_cons_succ]
      refine G_pure (i := 4) (u := ?vb4) rfl (by kernel_rfl) (by kernel_rfl) (by kernel_rfl) (fun _ _ _ h => h) (by decide) (Or.inl ⟨by rfl, ?hyb4⟩) hHeld ?_
      case hyb4 => (intro w hSw; go_simp; try with_reducible rfl)
      simp only [Act.put, List.setIfInBounds_toArray, List.set_cons_zero, List.set_cons_succ, List.getElem_toArray, List.getElem_cons_zero, List.getElem_cons_succ]
      refine G_pure (i := 5) (u := ?vb5) rfl (by kernel_rfl) (by kernel_rfl) (by kernel_rfl) (fun _ _ _ h => h) (by decide) (Or.inl ⟨by rfl, ?hyb5⟩) hHeld ?_
      case hyb5 => (intro w hSw; go_simp; try with_reducible rfl)
      simp only [Act.put, List.setIfInBounds_toArray, List.set_cons_zero, List.set_cons_succ, List.getElem_toArray, List.getElem_cons_zero, List.getElem_cons_succ]
      refine G_pure (i := 6) (u := ?vb6) rfl (by kernel_rfl) (by kernel_rfl) (by kernel_rfl) (fun _ _ _ h => h) (by decide) (Or.inl ⟨by rfl, ?hyb6⟩) hHeld ?_
      case hyb6 => (intro w hSw; go_simp; try with_reducible rfl)
      simp only [Act.put, List.setIfInBounds_toArray, List.set_cons_zero, List.set_cons_succ, List.getElem_toArray, List.getElem_cons_zero, List.getElem_cons_succ]
      refine G_pure (i := 7) (u := ?vb7) rfl (by kernel_rfl) (by kernel_rfl) (by kernel_rfl) (fun _ _ _ h => h) (by decide) (Or.inl ⟨by rfl, ?hyb7⟩) hHeld ?_
      case hyb7 => (intro w hSw; go_simp; try with_reducible rfl)
      simp only [Act.put, List.setIfInBounds_toArray, List.set_cons_zero, List.set_cons_succ, List.getElem_toArray, List.getElem_cons_zero, List.getElem_cons_succ]
      refine G_all (rs := [8]) (by kernel_rfl) (by simp) ?_
      intro i hi; obtain rfl : i = 8 := by simpa using hi
      refine wpOp_run rfl (by rfl) ?_
      refine wp_copyN _ (.tmp 50) (.tmp 53) 22 22 rfl _ _ (by rfl) (by rfl) (fun ty => HCP.out _ (hHeld.keeps hA1) (HS.out _ hHeld) ty _ _ _ _ (by simp only [Nat.min_def]; split <;> omega)) ?_
      try refine ⟨fun e => absurd e (by decide), ?_⟩
      refine G_free _ _ _ _ (by kernel_rfl) ?_
      try simp only [Act.put, List.setIfInBounds_toArray, List.set_cons_zero, List.set_cons_succ, List.getElem_toArray, List.getElem_cons_zero, List.getElem_cons_succ]
      refine wpAny_done (by kernel_rfl) ?_ _
      refine NoPanic.normal ?_
      have hA2 := hHeld.keeps hA1
      have gr2 := grownSetRow (w := wd) (g := w.heap.size) (c := L2.toArray)
      have hX : Ext w wd := ((hE0.grown gr1 (fun q hq => by cases hq; exact Nat.le_refl _)).trans hHeld)
      have hX2 := hX.grown gr2 (fun q hq => by cases hq; exact Nat.le_refl _)
      clear gr1 gr2
      go_wp2_with fail
      go_ret
      exact ⟨.slice (some ⟨w.heap.size, 0, none⟩) (n + 1) gc, rfl, (by simpa only [List.append_assoc] using HFF.out _ (setRow_heap _ _ _ _ _ _ hA2)), ext_grown hX2 _⟩
end Go.Proofs.YtpadfabjihaapaaGreatDoor

namespace Go.Proofs.YtpadfabjihaapaaGreatDoor
open Go.RowKit
set_option linter.unusedVariables false
set_option linter.unusedSimpArgs false

/-- Files with one, at its place. -/
def insF (l : List Fl) (f : Fl) : List Fl := (l.filter fun g => bl g.path f.path) ++ f :: l.filter fun g => bl f.path g.path
theorem Place.lowF {l : List Fl} {p : ByteArray} {i : Nat} (h : Place l p i) : (l.filter fun g => bl g.path p) = l.take i := by
  conv => lhs; rw [← List.take_append_drop i l]
  rw [List.filter_append, List.filter_eq_self.2, List.filter_eq_nil_iff.2, List.append_nil]
  · intro x hx
    obtain ⟨j, hj, rfl⟩ := List.mem_iff_getElem.1 hx
    rw [List.getElem_drop]
    rw [h.high (i + j) (by simp at hj; omega) (by omega)]
    decide
  · intro x hx
    obtain ⟨j, hj, rfl⟩ := List.mem_iff_getElem.1 hx
    rw [List.getElem_take]
    exact h.low j (by simp at hj; omega) (by simp at hj; omega)
theorem Place.highF {l : List Fl} {p : ByteArray} {i : Nat} (hs : FsS l) (h : Place l p i) : (l.filter fun g => bl p g.path) = if hitB l p i then l.drop (i + 1) else l.drop i := by
  have hlo : ((l.take i).filter fun g => bl p g.path) = [] := by
    rw [List.filter_eq_nil_iff]
    intro x hx
    obtain ⟨j, hj, rfl⟩ := List.mem_iff_getElem.1 hx
    rw [List.getElem_take]
    rw [bl_as (h.low j (by simp at hj; omega) (by simp at hj; omega))]
    decide
  conv => lhs; rw [← List.take_append_drop i l]
  rw [List.filter_append, hlo, List.nil_append]
  cases hh : hitB l p i with
  | true =>
    unfold hitB at hh
    simp only [Bool.and_eq_true, decide_eq_true_eq] at hh
    obtain ⟨hi, he⟩ := hh
    rw [getD_atF hi] at he
    have hp := beq_path.1 he
    rw [if_pos rfl, List.drop_eq_getElem_cons hi, List.filter_cons_of_neg (by rw [hp, bl_irr]; decide), List.filter_eq_self.2]
    intro x hx
    obtain ⟨j, hj, rfl⟩ := List.mem_iff_getElem.1 hx
    rw [List.getElem_drop]
    have := fs_lt hs (i := i) (j := i + 1 + j) (by simp at hj; omega) (by omega)
    rwa [hp] at this
  | false =>
    rw [if_neg (by decide), List.filter_eq_self.2]
    intro x hx
    obtain ⟨j, hj, rfl⟩ := List.mem_iff_getElem.1 hx
    rw [List.getElem_drop]
    have hj' : i + j < l.length := by simp at hj; omega
    have h1 := h.high (i + j) hj' (by omega)
    cases h2 : bl p l[i + j].path with
    | true => rfl
    | false =>
      have he := bl_eq h1 h2
      have hi : i < l.length := by omega
      have h3 := h.high i hi (Nat.le_refl _)
      by_cases hj0 : j = 0
      · subst hj0
        unfold hitB at hh
        rw [decide_eq_true hi, getD_atF hi, Bool.true_and] at hh
        exact absurd he (nbeq_path.1 hh)
      · have := fs_lt hs (i := i) (j := i + j) hj' (by omega)
        rw [he, h3] at this
        cases this
theorem insF_hit {l : List Fl} {f : Fl} {i : Nat} (hs : FsS l) (h : Place l f.path i) (hh : hitB l f.path i = true) : l.take i ++ f :: l.drop (i + 1) = insF l f := by
  unfold insF
  rw [h.lowF, h.highF hs, if_pos hh]
theorem insF_no {l : List Fl} {f : Fl} {i : Nat} (hs : FsS l) (h : Place l f.path i) (hh : hitB l f.path i = false) : l.take i ++ f :: l.drop i = insF l f := by
  unfold insF
  rw [h.lowF, h.highF hs, hh, if_neg (by decide)]
theorem insF_mem {l : List Fl} {f g : Fl} (h : g ∈ insF l f) : g = f ∨ g ∈ l := by
  unfold insF at h
  rcases List.mem_append.1 h with q | q
  · exact .inr (List.mem_filter.1 q).1
  · rcases List.mem_cons.1 q with q | q
    · exact .inl q
    · exact .inr (List.mem_filter.1 q).1
theorem there_ofR {w : World} {g : Nat} {c : Array Value} {t : TypeId} (h : w.heap[g]? = some (.cells c t (0, 0))) (o n : Nat) (hn : o + n ≤ c.size) : w.there g o n := by
  intro j hj
  refine ⟨?_, block_free h _⟩
  rw [block_cell h, Array.getElem?_eq_getElem (by omega)]
  rfl
/-- An element of a row of the call's own is put. -/
theorem own_setK {α : Type} {enc : α → List Value} {k : Nat} (hk : ∀ x, (enc x).length = k) {w : World} {base : Nat} {e : TypeId} {v : Value} {n : Nat} {l : List α} (own : w.ownsRow base e k v n (l.flatMap enc)) (hl : l.length = n) (i : Nat) (hi : i < l.length) (y : α) :
    ∃ g cap, v = .slice (some ⟨g, 0, none⟩) n cap ∧ n ≤ cap ∧ cap ≤ 9223372036854775807 ∧ base ≤ g ∧ w.there g (i * k) k ∧ (∃ c, w.heap[g]? = some (.cells c e (0, 0))) ∧
      (w.setCells g (i * k) (enc y)).ownsRow base e k v n ((l.take i ++ y :: l.drop (i + 1)).flatMap enc) := by
  obtain ⟨hlen, h2⟩ := own
  rcases h2 with ⟨_, h0⟩ | ⟨g, cap, cur, rfl, hb, hg, hnc, hcm, hsz, htk⟩
  · omega
  have hcm' : cap ≤ 9223372036854775807 := by unfold maxLen at hcm; omega
  have hA : ((l.take i).flatMap enc).length = i * k := by rw [flatLen hk, List.length_take, Nat.min_eq_left (by omega)]
  have hD : ((l.drop (i + 1)).flatMap enc).length = (n - (i + 1)) * k := by rw [flatLen hk, List.length_drop, hl]
  have hcur : cur.toList = (l.take i).flatMap enc ++ enc l[i] ++ ((l.drop (i + 1)).flatMap enc ++ cur.toList.drop (n * k)) := by
    have h1 : cur.toList = l.flatMap enc ++ cur.toList.drop (n * k) := by rw [← htk, List.take_append_drop]
    have h3 : l.flatMap enc = (l.take i).flatMap enc ++ (enc l[i] ++ (l.drop (i + 1)).flatMap enc) := by
      conv => lhs; rw [← List.take_append_drop i l, List.drop_eq_getElem_cons hi]
      rw [List.flatMap_append, List.flatMap_cons]
    conv => lhs; rw [h1, h3]
    simp
  have hset : setFrom cur (i * k) (enc y) = ((l.take i).flatMap enc ++ enc y ++ ((l.drop (i + 1)).flatMap enc ++ cur.toList.drop (n * k))).toArray := by
    have key := setFrom_mid (enc y) (enc l[i]) ((l.take i).flatMap enc) ((l.drop (i + 1)).flatMap enc ++ cur.toList.drop (n * k)) (by rw [hk, hk])
    rw [← hcur, hA] at key
    simpa using key
  have hF : (l.take i ++ y :: l.drop (i + 1)).flatMap enc = (l.take i).flatMap enc ++ enc y ++ (l.drop (i + 1)).flatMap enc := by
    rw [List.flatMap_append, List.flatMap_cons]
    simp
  have hFl : ((l.take i ++ y :: l.drop (i + 1)).flatMap enc).length = n * k := by
    rw [flatLen hk]
    congr 1
    simp
    omega
  have hfit : n * k ≤ cap * k := Nat.mul_le_mul_right _ hnc
  have hik : i * k + k ≤ n * k := by have := Nat.mul_le_mul_right k (show i + 1 ≤ n by omega); rwa [Nat.add_mul, Nat.one_mul] at this
  refine ⟨g, cap, rfl, hnc, hcm', hb, there_ofR hg _ _ (by rw [hsz]; omega), ⟨_, hg⟩, ?_⟩
  refine ⟨hFl, .inr ⟨g, cap, _, rfl, hb, heap_setCells g _ _ w _ hg, hnc, hcm, ?_, ?_⟩⟩
  · rw [hset, List.size_toArray]
    have h5 := congrArg List.length hcur
    rw [Array.length_toList, hsz] at h5
    simp only [List.length_append, hk] at h5 ⊢
    omega
  · rw [hset, List.toList_toArray, ← List.append_assoc, ← hF]
    exact List.take_left' hFl
theorem takeFlat {α : Type} {enc : α → List Value} {k : Nat} (hk : ∀ x, (enc x).length = k) {l : List α} {i : Nat} (hi : i ≤ l.length) : (l.flatMap enc).take (i * k) = (l.take i).flatMap enc := by
  conv => lhs; rw [← List.take_append_drop i l, List.flatMap_append]
  exact List.take_left' (by rw [flatLen hk, List.length_take, Nat.min_eq_left hi])
theorem dropFlat {α : Type} {enc : α → List Value} {k : Nat} (hk : ∀ x, (enc x).length = k) {l : List α} {i : Nat} (hi : i ≤ l.length) : (l.flatMap enc).drop (i * k) = (l.drop i).flatMap enc := by
  conv => lhs; rw [← List.take_append_drop i l, List.flatMap_append]
  exact List.drop_left' (by rw [flatLen hk, List.length_take, Nat.min_eq_left hi])
theorem flC_oneA (f : Fl) : (flC f).toArray.all (·.oneCell') = true := by
  rw [Array.all_eq_true_iff_forall_mem]
  intro v hv
  exact flC_one1 f v (by simpa using hv)
/-- What tree.Put answers. -/
def putV (l : List Fl) (f : Fl) : List Fl × Int := if repoB l = false then ([], 170) else if repoB (insF l f) = false then ([], 170) else (insF l f, 0)

set_option maxHeartbeats 8000000 in
set_option maxRecDepth 100000 in
theorem treePut (w : World) (v : Value) (l : List Fl) (h : IsF w v l) (p t : ByteArray) (hok : flOk ⟨p, t⟩) :
    Calls Tryz.prog 21 #[.agg #[v], .string p, .string t] w fun e w' => ∃ v', e = .returned (.tuple #[.agg #[v'], .int .i64 (putV l ⟨p, t⟩).2]) ∧ IsF w' v' (putV l ⟨p, t⟩).1 ∧ Ext w w' := by
  obtain ⟨R, hR⟩ : ∃ R, putV l ⟨p, t⟩ = R := ⟨_, rfl⟩
  rw [hR]
  have HR := Lib.hid hR
  have HF := Lib.hid h
  have HK := Lib.hid hok
  obtain ⟨a0, c0, e0⟩ := sl_len h.sl
  subst e0
  clear hR h hok
  go_enter Tryz.func21, Tryz.ntmps21
  go_upto_region 1 with fail
  obtain ⟨G, hG⟩ : ∃ G, w.heap.size = G := ⟨_, rfl⟩
  rw [hG]
  refine wp_forgetH (fun W => Ext w W ∧ W.heap[G]? = some (.cells #[.slice a0 l.length c0] 24 (0, 0)) ∧ W.heap[G + 1]? = some (.cells #[nilS] 24 (0, 0))) ⟨((Ext.refl w).alloc _).alloc _, blk_old (blk_new hG), blk_new (by simp [hG])⟩ ?_
  rintro w1 ⟨x1, bP, bR⟩
  have hG1 : G + 2 ≤ w1.heap.size := block_lt bR
  go_wp2_with ((with_reducible refine at_load 24 (.tmp 3) ?_); refine wpl_load (by rfl) 24 (.tmp 3) rfl G (by rfl) 24 #[.slice a0 l.length c0] (0, 0) _ bP Tryz.underlying24 rfl (infoRp _) ?_)
  refine Calls.mono (treeCheck w1 _ l (HF.out.ext x1)) ?_
  rintro e w2 ⟨rfl, x2⟩
  have bP2 := x2.keeps bP
  have bR2 := x2.keeps bR
  cases hrb : repoB l with
  | false =>
    rw [show errR false = 170 from rfl]
    have hg : w2.grownBy (w2.setRow (G + 1) #[nilS]) (some (G + 1)) := grown_setRow'
    have f1 := setRow_heap w2 (G + 1) _ #[nilS] _ _ bR2
    have xF := (x1.trans x2).grown hg (fun k hk => by cases hk; omega)
    obtain rfl : ([], 170) = R := by rw [← HR.out]; unfold putV; rw [hrb]; rfl
    go_wp2_with ((with_reducible refine at_store 24 (.tmp 6) (.tmp 19) ?_); refine wpl_store (by rfl) 24 (.tmp 6) (.tmp 19) rfl (G + 1) #[nilS] (by rfl) (by rfl) 24 _ bR2 (infoRp _) rfl (by kernel_rfl) ?_)
    exact bodyPost_ret (results_ct (p := 6) (r := 7) rfl _ _ (G + 1) _ _ _ _ (by rfl) f1 Tryz.underlying24 rfl (infoRp _)) rfl ⟨nilS, rfl, isF_nil _, xF⟩
  | true =>
    rw [show errR true = 0 from rfl]
    have HS := Lib.hid (repo_sorted hrb)
    have hl := repo_len hrb
    have HRB := Lib.hid hrb
    have kP := block_allH bP2
    clear hrb
    go_wp2_with fail
    refine Calls.mono (cloneF w2 _ l (HF.out.ext (x1.trans x2)) (by omega)) ?_
    rintro e w3 ⟨v3, rfl, own3, x3⟩
    obtain ⟨a3, c3, e3⟩ := ownSh own3
    subst e3
    have hb3 : w2.heap.size ≤ w3.heap.size := x3.size
    have bP3 := x3.keeps bP2
    have bR3 := x3.keeps bR2
    clear kP
    go_upto_region 6 with ((with_reducible refine at_store 66 (.tmp 10) (.tmp 26) ?_); refine wpl_store (by rfl) 66 (.tmp 10) (.tmp 26) rfl _ (flC ⟨p, t⟩).toArray (by rfl) (by rfl) 66 _ (heap_alloc_new _ _) (by kernel_rfl) rfl (by rfl) ?_; rw [World.setRow_alloc_new])
    obtain ⟨B, hB⟩ : ∃ B, w3.heap.size = B := ⟨_, rfl⟩
    rw [hB]
    refine wp_forgetH (fun W => Ext w3 W ∧ W.heap[B]? = some (.cells (flC ⟨p, t⟩).toArray 66 (0, 0))) ⟨(Ext.refl w3).alloc _, blk_new hB⟩ ?_
    rintro w4 ⟨x4, bB⟩
    have X4 := (x1.trans x2).trans (x3.trans x4)
    have bP4 := x4.keeps bP3
    have bR4 := x4.keeps bR3
    have own4 := ownsRow_ext own3 x4
    have hown : ∀ k, (Value.slice a3 l.length c3).ownBlock = some k → w2.heap.size ≤ k ∧ k < B := fun k hk => by have := own3.lt k hk; omega
    obtain ⟨M2, hM2⟩ : ∃ M2, w2.heap.size = M2 := ⟨_, rfl⟩
    rw [hM2] at own4 hown
    have HOWN := Lib.hid own4
    have HOB := Lib.hid hown
    have HX4 := Lib.hid X4
    have hM2G : G + 2 ≤ M2 := by have := x2.size; omega
    have hM2B : M2 ≤ B := by omega
    clear own3 own4 hown X4 x3 x4 bP3 bR3
    go_wp2_with ((with_reducible refine at_load 24 (.tmp 3) ?_); refine wpl_load (by rfl) 24 (.tmp 3) rfl G (by rfl) 24 #[.slice a0 l.length c0] (0, 0) _ bP4 Tryz.underlying24 rfl (infoRp _) ?_)
    refine Calls.mono (treeFind w4 _ l (HF.out.ext HX4.out) p HS.out (by omega)) ?_
    rintro e w5 ⟨i, hi, rfl, x5⟩
    have hile := hi.le
    have bB5 := x5.keeps bB
    have bR5 := x5.keeps bR4
    have HO5 := Lib.hid (ownsRow_ext HOWN.out x5)
    have HX5 := Lib.hid (HX4.out.trans x5)
    have hB5 := block_lt bB5
    have HI := Lib.hid hi
    have hifl : (Tryz.prog.info? 66).map (·.size) = some (flC ⟨p, t⟩).toArray.size := by kernel_rfl
    have i0 : (0 : Int) ≤ (i : Int) := Int.natCast_nonneg _
    have KF := Lib.hid (show ∀ f ∈ insF l ⟨p, t⟩, flOk f from fun f hf => by
      rcases insF_mem hf with rfl | q
      · exact HK.out
      · exact HF.out.ok f q)
    clear bB bP4 bR4 hi x5
    cases hh : hitB l p i with
    | true =>
      have hil : i < l.length := by unfold hitB at hh; simp only [Bool.and_eq_true, decide_eq_true_eq] at hh; exact hh.1
      have i1 : (i : Int) < (l.length : Int) := by omega
      obtain ⟨g, cap, q, hnc, hcm, hbg, hth, ⟨cg, hcg⟩, own6⟩ := own_setK (enc := flC) (k := 2) (fun _ => rfl) HO5.out rfl i hil ⟨p, t⟩
      simp only [Value.slice.injEq, true_and] at q
      obtain ⟨rfl, rfl⟩ := q
      rw [insF_hit HS.out HI.out hh] at own6
      have hlen : (insF l ⟨p, t⟩).length = l.length := by rw [← insF_hit HS.out HI.out hh]; simp; omega
      have g6 := grown_setCells g (flC ⟨p, t⟩) (i * 2) w5
      have hgB := HOB.out g rfl
      have bR6 := grown_other g6 bR5 (by omega)
      have X6 := HX5.out.grown g6 (fun k hk => by cases hk; have := x1.size; have := x2.size; omega)
      have hth2 : w5.there g (i * 2) (flC ⟨p, t⟩).toArray.size := hth
      have HH := Lib.hid hh
      clear hh g6
      go_upto_region 10 with (first
        | ((with_reducible refine at_load 66 (.tmp 10) ?_); refine wpl_load (by rfl) 66 (.tmp 10) rfl B (by rfl) 66 (flC ⟨p, t⟩).toArray (0, 0) _ bB5 Tryz.underlying66 rfl hifl ?_)
        | ((with_reducible refine at_store 66 (.tmp 37) (.tmp 36) ?_); refine wpl_storeMid (by rfl) 66 (.tmp 37) (.tmp 36) rfl g (i * 2) (flC ⟨p, t⟩).toArray (by rfl) (by rfl) hth2 hifl (flC_oneA _) ?_))
      refine wp_forgetH (fun W => W = w5.setCells g (i * 2) (flC ⟨p, t⟩)) rfl ?_
      rintro w6 hw6
      rw [← hw6] at bR6 X6 own6
      clear hw6 hth hth2 HO5
      obtain ⟨v6, hv6⟩ : ∃ v6, Value.slice (some ⟨g, 0, none⟩) l.length c3 = v6 := ⟨_, rfl⟩
      rw [hv6] at own6 ⊢
      clear hv6
      have O6 : w6.ownsRow M2 66 2 v6 (insF l ⟨p, t⟩).length ((insF l ⟨p, t⟩).flatMap flC) := by rw [hlen]; exact own6
      clear own6 hlen

      obtain ⟨a6, n6, c6, e6⟩ : ∃ a n c, v6 = .slice a n c := by obtain ⟨a, c, q⟩ := ownSh O6; exact ⟨a, _, c, q⟩
      subst e6
      go_upto_region 11 with ((with_reducible refine at_store 24 (.tmp 13) (.tmp 44) ?_); refine wpl_store (by rfl) 24 (.tmp 13) (.tmp 44) rfl _ #[.slice a6 n6 c6] (by rfl) (by rfl) 24 _ (heap_alloc_new _ _) (infoRp _) rfl (by kernel_rfl) ?_; rw [World.setRow_alloc_new])
      obtain ⟨M, hM⟩ : ∃ M, w6.heap.size = M := ⟨_, rfl⟩
      rw [hM]
      refine wp_forgetH (fun W => Ext w6 W ∧ W.heap[M]? = some (.cells #[.slice a6 n6 c6] 24 (0, 0))) ⟨(Ext.refl w6).alloc _, blk_new hM⟩ ?_
      rintro w7 ⟨x7, bM⟩
      have bR7 := x7.keeps bR6
      have hM7 : G + 2 ≤ M := by have := block_lt bR6; omega
      have O7 := Lib.hid (ownsRow_ext O6 x7)
      have H7 := Lib.hid (show IsF w7 (.slice a6 n6 c6) (insF l ⟨p, t⟩) from ⟨IsSl.of_owns (ownsRow_ext O6 x7), KF.out⟩)
      have X7 := Lib.hid (X6.trans x7)
      clear x7 bR6 X6 O6
      go_wp2_with ((with_reducible refine at_load 24 (.tmp 13) ?_); refine wpl_load (by rfl) 24 (.tmp 13) rfl M (by rfl) 24 #[.slice a6 n6 c6] (0, 0) _ bM Tryz.underlying24 rfl (infoRp _) ?_)
      refine Calls.mono (treeCheck w7 _ (insF l ⟨p, t⟩) H7.out) ?_
      rintro e w8 ⟨rfl, x8⟩
      have bM8 := x8.keeps bM
      have bR8 := x8.keeps bR7
      cases hrb : repoB (insF l ⟨p, t⟩) with
      | false =>
        rw [show errR false = 170 from rfl]
        have hg : w8.grownBy (w8.setRow (G + 1) #[nilS]) (some (G + 1)) := grown_setRow'
        have f1 := setRow_heap w8 (G + 1) _ #[nilS] _ _ bR8
        have xF := (X7.out.trans x8).grown hg (fun k hk => by cases hk; omega)
        obtain rfl : ([], 170) = R := by rw [← HR.out]; unfold putV; rw [HRB.out, hrb]; rfl
        go_wp2_with ((with_reducible refine at_store 24 (.tmp 6) (.tmp 49) ?_); refine wpl_store (by rfl) 24 (.tmp 6) (.tmp 49) rfl (G + 1) #[nilS] (by rfl) (by rfl) 24 _ bR8 (infoRp _) rfl (by kernel_rfl) ?_)
        exact bodyPost_ret (results_ct (p := 6) (r := 7) rfl _ _ (G + 1) _ _ _ _ (by rfl) f1 Tryz.underlying24 rfl (infoRp _)) rfl ⟨nilS, rfl, isF_nil _, xF⟩
      | true =>
        rw [show errR true = 0 from rfl]
        have hg : w8.grownBy (w8.setRow (G + 1) #[.slice a6 n6 c6]) (some (G + 1)) := grown_setRow'
        have f1 := setRow_heap w8 (G + 1) _ #[.slice a6 n6 c6] _ _ bR8
        have xF := (X7.out.trans x8).grown hg (fun k hk => by cases hk; omega)
        have o8 := ownsRow_ext O7.out x8
        have hF8 : IsF (w8.setRow (G + 1) #[.slice a6 n6 c6]) (.slice a6 n6 c6) (insF l ⟨p, t⟩) := ⟨IsSl.of_owns (ownsRow_grown o8 hg (own_neH o8 bR8 (by decide))), KF.out⟩
        obtain rfl : (insF l ⟨p, t⟩, 0) = R := by rw [← HR.out]; unfold putV; rw [HRB.out, hrb]; rfl
        go_wp2_with (first
          | ((with_reducible refine at_load 24 (.tmp 13) ?_); refine wpl_load (by rfl) 24 (.tmp 13) rfl M (by rfl) 24 #[.slice a6 n6 c6] (0, 0) _ bM8 Tryz.underlying24 rfl (infoRp _) ?_)
          | ((with_reducible refine at_store 24 (.tmp 6) (.tmp 51) ?_); refine wpl_store (by rfl) 24 (.tmp 6) (.tmp 51) rfl (G + 1) #[.slice a6 n6 c6] (by rfl) (by rfl) 24 _ bR8 (infoRp _) rfl (by kernel_rfl) ?_))
        exact bodyPost_ret (results_ct (p := 6) (r := 7) rfl _ _ (G + 1) _ _ _ _ (by rfl) f1 Tryz.underlying24 rfl (infoRp _)) rfl ⟨_, rfl, hF8, xF⟩
    | false =>
      have i1 : (i : Int) ≤ (l.length : Int) := by omega
      have HH := Lib.hid hh
      clear hh
      have xb : Ext w5 (w5.alloc (.cells (flC ⟨p, t⟩).toArray 66)) := (Ext.refl w5).alloc _
      have hbn := heap_alloc_new w5 (.cells (flC ⟨p, t⟩).toArray 66)
      have ob := ownsRow_ext HO5.out xb
      have hnn : (Value.slice a3 l.length c3).ownBlock ≠ some w5.heap.size := fun e => by have := (HO5.out.lt _ e).2; omega
      have HOBN := Lib.hid ob
      have HNN := Lib.hid hnn
      have HBN := Lib.hid hbn
      clear ob hnn hbn
      go_wp2_with (first
        | ((with_reducible refine at_load 66 (.tmp 10) ?_); refine wpl_load (by rfl) 66 (.tmp 10) rfl B (by rfl) 66 (flC ⟨p, t⟩).toArray (0, 0) _ bB5 Tryz.underlying66 rfl hifl ?_)
        | ((with_reducible refine at_build1 22 (.tmp 40) ?_); refine wpl_buildOne (by rfl) 22 (.tmp 40) rfl (flC ⟨p, t⟩) (by rfl) (build_fl _ _) ?_))
      have hsz6 : M2 ≤ (w5.alloc (.cells (flC ⟨p, t⟩).toArray 66)).heap.size := by have := xb.size; omega
      refine Calls.mono (insFl (w5.alloc (.cells (flC ⟨p, t⟩).toArray 66)) M2 _ l.length _ HOBN.out hsz6 i hile (by omega) w5.heap.size (flC ⟨p, t⟩) 66 rfl HBN.out HNN.out (flC_oneL l) (flC_one1 _)) ?_
      rintro e w6 ⟨v6, rfl, own6, gr6⟩
      rw [takeFlat (enc := flC) (k := 2) (fun _ => rfl) hile, dropFlat (enc := flC) (k := 2) (fun _ => rfl) hile] at own6
      have hls : (insF l ⟨p, t⟩).length = l.length + 1 := by rw [← insF_no HS.out HI.out HH.out]; simp; omega
      have O6 : w6.ownsRow M2 66 2 v6 (insF l ⟨p, t⟩).length ((insF l ⟨p, t⟩).flatMap flC) := by
        rw [hls]
        rw [← insF_no HS.out HI.out HH.out, List.flatMap_append, List.flatMap_cons, ← List.append_assoc]
        exact own6
      have X6 := (HX5.out.trans xb).grown gr6 (fun k hk => by have := (HOB.out k hk).1; have := x1.size; have := x2.size; omega)
      have bR6 := grown_keep gr6 (xb.keeps bR5) (fun e => by have := (HOB.out _ e).1; omega)
      clear own6 gr6 hls xb

      obtain ⟨a6, n6, c6, e6⟩ : ∃ a n c, v6 = .slice a n c := by obtain ⟨a, c, q⟩ := ownSh O6; exact ⟨a, _, c, q⟩
      subst e6
      go_upto_region 11 with ((with_reducible refine at_store 24 (.tmp 13) (.tmp 44) ?_); refine wpl_store (by rfl) 24 (.tmp 13) (.tmp 44) rfl _ #[.slice a6 n6 c6] (by rfl) (by rfl) 24 _ (heap_alloc_new _ _) (infoRp _) rfl (by kernel_rfl) ?_; rw [World.setRow_alloc_new])
      obtain ⟨M, hM⟩ : ∃ M, w6.heap.size = M := ⟨_, rfl⟩
      rw [hM]
      refine wp_forgetH (fun W => Ext w6 W ∧ W.heap[M]? = some (.cells #[.slice a6 n6 c6] 24 (0, 0))) ⟨(Ext.refl w6).alloc _, blk_new hM⟩ ?_
      rintro w7 ⟨x7, bM⟩
      have bR7 := x7.keeps bR6
      have hM7 : G + 2 ≤ M := by have := block_lt bR6; omega
      have O7 := Lib.hid (ownsRow_ext O6 x7)
      have H7 := Lib.hid (show IsF w7 (.slice a6 n6 c6) (insF l ⟨p, t⟩) from ⟨IsSl.of_owns (ownsRow_ext O6 x7), KF.out⟩)
      have X7 := Lib.hid (X6.trans x7)
      clear x7 bR6 X6 O6
      go_wp2_with ((with_reducible refine at_load 24 (.tmp 13) ?_); refine wpl_load (by rfl) 24 (.tmp 13) rfl M (by rfl) 24 #[.slice a6 n6 c6] (0, 0) _ bM Tryz.underlying24 rfl (infoRp _) ?_)
      refine Calls.mono (treeCheck w7 _ (insF l ⟨p, t⟩) H7.out) ?_
      rintro e w8 ⟨rfl, x8⟩
      have bM8 := x8.keeps bM
      have bR8 := x8.keeps bR7
      cases hrb : repoB (insF l ⟨p, t⟩) with
      | false =>
        rw [show errR false = 170 from rfl]
        have hg : w8.grownBy (w8.setRow (G + 1) #[nilS]) (some (G + 1)) := grown_setRow'
        have f1 := setRow_heap w8 (G + 1) _ #[nilS] _ _ bR8
        have xF := (X7.out.trans x8).grown hg (fun k hk => by cases hk; omega)
        obtain rfl : ([], 170) = R := by rw [← HR.out]; unfold putV; rw [HRB.out, hrb]; rfl
        go_wp2_with ((with_reducible refine at_store 24 (.tmp 6) (.tmp 49) ?_); refine wpl_store (by rfl) 24 (.tmp 6) (.tmp 49) rfl (G + 1) #[nilS] (by rfl) (by rfl) 24 _ bR8 (infoRp _) rfl (by kernel_rfl) ?_)
        exact bodyPost_ret (results_ct (p := 6) (r := 7) rfl _ _ (G + 1) _ _ _ _ (by rfl) f1 Tryz.underlying24 rfl (infoRp _)) rfl ⟨nilS, rfl, isF_nil _, xF⟩
      | true =>
        rw [show errR true = 0 from rfl]
        have hg : w8.grownBy (w8.setRow (G + 1) #[.slice a6 n6 c6]) (some (G + 1)) := grown_setRow'
        have f1 := setRow_heap w8 (G + 1) _ #[.slice a6 n6 c6] _ _ bR8
        have xF := (X7.out.trans x8).grown hg (fun k hk => by cases hk; omega)
        have o8 := ownsRow_ext O7.out x8
        have hF8 : IsF (w8.setRow (G + 1) #[.slice a6 n6 c6]) (.slice a6 n6 c6) (insF l ⟨p, t⟩) := ⟨IsSl.of_owns (ownsRow_grown o8 hg (own_neH o8 bR8 (by decide))), KF.out⟩
        obtain rfl : (insF l ⟨p, t⟩, 0) = R := by rw [← HR.out]; unfold putV; rw [HRB.out, hrb]; rfl
        go_wp2_with (first
          | ((with_reducible refine at_load 24 (.tmp 13) ?_); refine wpl_load (by rfl) 24 (.tmp 13) rfl M (by rfl) 24 #[.slice a6 n6 c6] (0, 0) _ bM8 Tryz.underlying24 rfl (infoRp _) ?_)
          | ((with_reducible refine at_store 24 (.tmp 6) (.tmp 51) ?_); refine wpl_store (by rfl) 24 (.tmp 6) (.tmp 51) rfl (G + 1) #[.slice a6 n6 c6] (by rfl) (by rfl) 24 _ bR8 (infoRp _) rfl (by kernel_rfl) ?_))
        exact bodyPost_ret (results_ct (p := 6) (r := 7) rfl _ _ (G + 1) _ _ _ _ (by rfl) f1 Tryz.underlying24 rfl (infoRp _)) rfl ⟨_, rfl, hF8, xF⟩
end Go.Proofs.YtpadfabjihaapaaGreatDoor

namespace Go.Proofs.YtpadfabjihaapaaGreatDoor
open Go.RowKit
set_option linter.unusedVariables false
set_option linter.unusedSimpArgs false

set_option maxHeartbeats 4000000 in
set_option maxRecDepth 100000 in
theorem growF (w : World) (n : Nat) (hn : n ≤ 1000000) :
    Calls Tryz.prog 64 #[.slice none 0 0, .int .i64 (n : Int)] w fun e w' => ∃ v', e = .returned v' ∧ w'.ownsRow w.heap.size 66 2 v' 0 [] ∧ Ext w w' := by
  obtain ⟨zF, tyF⟩ := tyFi
  obtain ⟨ie, hie, hzz, hiz, hib⟩ := tyF.info
  have n0 : (0 : Int) ≤ (n : Int) := Int.natCast_nonneg _
  have n1 : (n : Int) ≤ 1000000 := by omega
  by_cases h0 : n = 0
  · subst h0
    go_enter Tryz.func64, Tryz.ntmps64
    go_wp2_with fail
    go_ret
    exact ⟨_, rfl, World.ownsRow_nil _ _ _ _, Ext.refl _⟩
  · have h1 : (0 : Int) < (n : Int) := by omega
    have hap := Lib.run_append_nil_zeros (P := Tryz.prog) w 22 3 22 66 ie zF .i64 .i64 Tryz.underlying22 Tryz.underlying3 hie hzz n (by omega) (by omega) (by omega) (by rw [hib]; omega)
    have hown : (w.drew.alloc (.cells (Builtin.zeroCells zF.cells n ++ Builtin.zeroCells zF.cells (grownCap w n 0 66 - n)) 66)).ownsRow w.heap.size 66 2 (.slice (some ⟨w.heap.size, 0, none⟩) 0 (grownCap w n 0 66)) 0 [] := by
      have hge := grownCap_ge w n 0 66
      refine ⟨by simp, .inr ⟨w.heap.size, _, _, rfl, Nat.le_refl _, heap_alloc_new w.drew _, Nat.zero_le _, grownCap_le_maxLen w n 0 _ (by unfold maxLen; omega), ?_, by simp⟩⟩
      rw [Array.size_append, size_zeroCells, size_zeroCells, tyF.cells, ← Nat.add_mul]
      congr 1
      omega
    have hX : Ext w (w.drew.alloc (.cells (Builtin.zeroCells zF.cells n ++ Builtin.zeroCells zF.cells (grownCap w n 0 66 - n)) 66)) := ((Ext.refl w).drew).alloc _
    have hgc : (0 : Int) ≤ ((grownCap w n 0 66 : Nat) : Int) := Int.natCast_nonneg _
    have hgn : n ≤ grownCap w n 0 66 := grownCap_ge w n 0 _
    generalize w.drew.alloc (.cells (Builtin.zeroCells zF.cells n ++ Builtin.zeroCells zF.cells (grownCap w n 0 66 - n)) 66) = w1 at *
    generalize grownCap w n 0 66 = cp at *
    have hcp : cp ≠ 0 := by omega
    have hcp2 : (cp : Int) ≤ 9223372036854775807 := by
      rcases hown.2 with ⟨q, _⟩ | ⟨g', cap, cur, q, _, _, _, hcm, _⟩
      · cases q
      · simp only [Value.slice.injEq] at q
        unfold maxLen at hcm
        omega
    have HOWN := Lib.hid hown
    clear hown
    go_enter Tryz.func64, Tryz.ntmps64
    go_wp2_with (at_builtin; refine Lib.wpList_append_run _ rfl (.tmp 20) (.tmp 21) _ _ rfl _ _ (by rfl) (by rfl) _ _ hap ?_)
    go_ret
    exact ⟨_, rfl, HOWN.out, hX⟩

/-- Files in parts. -/
def catP (ps : List (Value × List Fl)) : List Fl := ps.flatMap (·.2)
set_option maxHeartbeats 4000000 in
set_option maxRecDepth 100000 in
theorem concatF (w : World) (ps : List (Value × List Fl)) (hps : ∀ x ∈ ps, IsF w x.1 x.2) (g cap : Nat) (hg : ∀ i (hi : i < ps.length), w.cell? ⟨g, i, none⟩ = some ps[i].1) (hl : ps.length ≤ 1000) (hs : (catP ps).length ≤ 100000) (hc : ps.length ≤ cap) (hc2 : cap ≤ 9223372036854775807) :
    Calls Tryz.prog 43 #[.slice (some ⟨g, 0, none⟩) ps.length cap] w fun e w' => ∃ v', e = .returned v' ∧ w'.ownsRow w.heap.size 66 2 v' (catP ps).length ((catP ps).flatMap flC) ∧ Ext w w' := by
  obtain ⟨zF, tyF⟩ := tyFi
  have HPS := Lib.hid hps
  have HG := Lib.hid hg
  have hc2' : (cap : Int) ≤ 9223372036854775807 := by omega
  have htk : ∀ j, (catP (ps.take j)).length ≤ (catP ps).length := fun j => by
    have : catP ps = catP (ps.take j) ++ catP (ps.drop j) := by unfold catP; rw [← List.flatMap_append, List.take_append_drop]
    rw [this, List.length_append]; omega
  have hsucc : ∀ j (hj : j < ps.length), catP (ps.take (j + 1)) = catP (ps.take j) ++ ps[j].2 := fun j hj => by
    unfold catP
    rw [List.take_succ_eq_append_getElem hj, List.flatMap_append]
    simp
  have HTK := Lib.hid htk
  have HSU := Lib.hid hsucc
  clear hps hg htk hsucc
  go_enter Tryz.func43, Tryz.ntmps43
  go_wp2_with fail
  go_loopg [3, 11] ps.length (fun q s3 s11 wr => ∃ j : Nat, j ≤ ps.length ∧ ps.length - j ≤ q ∧ s11 = .int .i64 (j : Int) ∧ s3 = .int .i64 ((catP (ps.take j)).length : Int) ∧ Ext w wr)
  case atStart => exact ⟨0, Nat.zero_le _, by omega, rfl, rfl, Ext.refl _⟩
  case round =>
  obtain ⟨j, hj, hq, rfl, rfl, xr⟩ := hrel
  by_cases hlt : j < ps.length
  · have c0 := xr.cell (HG.out j hlt)
    have hp := HPS.out _ (List.getElem_mem hlt)
    have hsu := HSU.out j hlt
    have h1 := HTK.out (j + 1)
    generalize ps[j] = x at *
    obtain ⟨xv, xl⟩ := x
    simp only at c0 hp hsu
    obtain ⟨a1, c1, rfl⟩ := sl_len hp.sl
    rw [hsu, List.length_append] at h1
    have HSUJ := Lib.hid hsu
    generalize hK : (catP (ps.take j)).length = K at *
    clear hsu hp
    go_wp2_with fail
    go_roundg (ps.length - (j + 1))
    case measure => omega
    case rel => exact ⟨j + 1, by omega, by omega, by go_num, by rw [HSUJ.out, List.length_append, hK]; go_num, xr⟩
  · obtain rfl : j = ps.length := by omega
    rw [List.take_length]
    obtain ⟨K, hK⟩ : ∃ K, (catP ps).length = K := ⟨_, rfl⟩
    rw [hK] at hs ⊢
    go_wp2_with fail
    refine Calls.mono (growF wr K (by omega)) ?_
    rintro e w2 ⟨v2, rfl, own2, x2⟩
    have X2 := xr.trans x2
    have own2' := Lib.hid (ownsRow_base own2 xr.size)
    have hw2 : w.heap.size ≤ w2.heap.size := X2.size
    clear own2 x2
    obtain ⟨wL, rfl⟩ : ∃ x, x = w2 := ⟨_, rfl⟩
    go_wp2_with fail
    clear hlt hj hq
    go_loopg [6, 27] ps.length (fun q s6 s27 wr2 => ∃ j : Nat, j ≤ ps.length ∧ ps.length - j ≤ q ∧ s27 = .int .i64 (j : Int) ∧ wr2.ownsRow w.heap.size 66 2 s6 (catP (ps.take j)).length ((catP (ps.take j)).flatMap flC) ∧ Ext w wr2)
    case atStart => exact ⟨0, Nat.zero_le _, by omega, rfl, own2'.out, X2⟩
    case round =>
    obtain ⟨j, hj, hq, rfl, own, xr2⟩ := hrel
    by_cases hlt : j < ps.length
    · have c0 := xr2.cell (HG.out j hlt)
      have hp := (HPS.out _ (List.getElem_mem hlt)).ext xr2
      have hsu := HSU.out j hlt
      have h1 := HTK.out (j + 1)
      generalize ps[j] = x at *
      obtain ⟨xv, xl⟩ := x
      simp only at c0 hp hsu
      rw [hsu, List.length_append] at h1
      have HSUJ := Lib.hid hsu
      have HP := Lib.hid hp
      have HOW := Lib.hid own
      have hszr : w.heap.size ≤ wr.heap.size := xr2.size
      have hbound : (catP (ps.take j)).length + xl.length ≤ 100000 := by omega
      clear hsu hp own
      go_wp2_with (at_builtin; refine wp_app tyF rfl (.tmp 31) (.tmp 32) rfl w.heap.size _ _ _ HOW.out (by rfl) _ xl.length (xl.flatMap flC) HP.out.sl (by rfl) (flC_oneL xl) (by omega) (by omega) hszr ?_; intro v3 w3 own3 gr3)
      go_roundg (ps.length - (j + 1))
      case measure => omega
      case rel => exact ⟨j + 1, by omega, by omega, by go_num, by rw [HSUJ.out, List.length_append, List.flatMap_append]; exact own3, own_base HOW.out gr3 xr2 (Nat.le_refl _)⟩
    · obtain rfl : j = ps.length := by omega
      rw [List.take_length, hK] at own
      go_wp2_with fail
      go_ret
      exact ⟨_, rfl, by rw [hK]; exact own, xr2⟩
end Go.Proofs.YtpadfabjihaapaaGreatDoor

namespace Go.Proofs.YtpadfabjihaapaaGreatDoor
open Go.RowKit
set_option linter.unusedVariables false
set_option linter.unusedSimpArgs false

/-- Files without one. -/
def outF (l : List Fl) (p : ByteArray) : List Fl := l.filter fun g => bl g.path p || bl p g.path
theorem outF_hit {l : List Fl} {p : ByteArray} {i : Nat} (hs : FsS l) (h : Place l p i) (hh : hitB l p i = true) : l.take i ++ l.drop (i + 1) = outF l p := by
  have h1 := h.lowF
  have h2 := h.highF hs
  rw [if_pos hh] at h2
  rw [← h1, ← h2]
  unfold outF
  clear h h1 h2 hh
  induction l with
  | nil => rfl
  | cons x r ih =>
    have hs' := List.pairwise_cons.1 hs
    cases hx : bl x.path p with
    | true => rw [List.filter_cons_of_pos (by rw [hx]), List.filter_cons_of_neg (by rw [bl_as hx]; decide), List.filter_cons_of_pos (by rw [hx]; rfl), List.cons_append, ih hs'.2]
    | false =>
      have hr : ∀ y ∈ r, bl y.path p = false := fun y hy => by
        cases hy2 : bl y.path p with
        | false => rfl
        | true => have := bl_tr (hs'.1 y hy) hy2; rw [hx] at this; cases this
      have e1 : (r.filter fun g => bl g.path p) = [] := List.filter_eq_nil_iff.2 fun y hy => by rw [hr y hy]; decide
      rw [List.filter_cons_of_neg (by rw [hx]; decide), e1, List.nil_append]
      have e2 : (r.filter fun g => bl g.path p || bl p g.path) = r.filter fun g => bl p g.path := List.filter_congr fun y hy => by rw [hr y hy, Bool.false_or]
      cases hx2 : bl p x.path with
      | true => rw [List.filter_cons_of_pos (by rw [hx2]), List.filter_cons_of_pos (by rw [hx2, Bool.or_true]), e2]
      | false => rw [List.filter_cons_of_neg (by rw [hx2]; decide), List.filter_cons_of_neg (by rw [hx, hx2]; decide), e2]
theorem IsF.take {w : World} {pb o n c : Nat} {l : List Fl} (h : IsF w (.slice (some ⟨pb, o, none⟩) n c) l) {i : Nat} (hi : i ≤ l.length) : IsF w (.slice (some ⟨pb, o, none⟩) i c) (l.take i) := by
  obtain ⟨⟨h1, ao, cap, e, h2, h3, h4, h5⟩, ok⟩ := h
  simp only [Value.slice.injEq] at e
  obtain ⟨rfl, rfl, rfl⟩ := e
  have hle : (l.take i).length = i := by rw [List.length_take]; omega
  have hf : ((l.take i).flatMap flC).length = i * 2 := by rw [flatLen (k := 2) (fun _ => rfl), hle]
  refine ⟨⟨by rw [hf, hle], _, c, by rw [hle], by omega, h3, (fun h => by cases h), fun j hj => ?_⟩, fun f hf => ok f (List.mem_of_mem_take hf)⟩
  rw [hf] at hj
  obtain ⟨b, off, e1, e2⟩ := h5 j (by rw [h1]; omega)
  refine ⟨b, off, e1, ?_⟩
  rw [e2, ← takeFlat (enc := flC) (k := 2) (fun _ => rfl) hi, List.getElem?_take_of_lt hj]
theorem IsF.drop {w : World} {pb o n c : Nat} {l : List Fl} (h : IsF w (.slice (some ⟨pb, o, none⟩) n c) l) {i : Nat} (hi : i ≤ l.length) : IsF w (.slice (some ⟨pb, o + i * 2, none⟩) (l.length - i) (c - i)) (l.drop i) := by
  obtain ⟨⟨h1, ao, cap, e, h2, h3, h4, h5⟩, ok⟩ := h
  simp only [Value.slice.injEq] at e
  obtain ⟨rfl, rfl, rfl⟩ := e
  have hle : (l.drop i).length = l.length - i := List.length_drop
  have hf : ((l.drop i).flatMap flC).length = (l.length - i) * 2 := by rw [flatLen (k := 2) (fun _ => rfl), hle]
  refine ⟨⟨by rw [hf, hle], _, c - i, by rw [hle], by omega, by omega, (fun h => by cases h), fun j hj => ?_⟩, fun f hf => ok f (List.mem_of_mem_drop hf)⟩
  rw [hf] at hj
  obtain ⟨b, off, e1, e2⟩ := h5 (i * 2 + j) (by rw [h1]; omega)
  simp only [Option.some.injEq, Addr.mk.injEq] at e1
  obtain ⟨rfl, rfl, _⟩ := e1
  refine ⟨_, _, rfl, ?_⟩
  rw [← dropFlat (enc := flC) (k := 2) (fun _ => rfl) hi, List.getElem?_drop, Nat.add_assoc]
  exact e2
theorem IsF.none {w : World} {pb o : Nat} : IsF w (.slice (some ⟨pb, o, none⟩) 0 0) [] := ⟨⟨rfl, _, 0, rfl, Nat.le_refl _, by omega, (fun h => by cases h), fun j hj => absurd hj (Nat.not_lt_zero _)⟩, fun f h => by cases h⟩
/-- What tree.Remove answers. -/
def remV (l : List Fl) (p : ByteArray) : List Fl × Int := if repoB l = false then ([], 170) else match getL l p with | none => ([], 4) | some _ => (outF l p, 0)

set_option maxHeartbeats 8000000 in
set_option maxRecDepth 100000 in
theorem treeRemove (w : World) (v : Value) (l : List Fl) (h : IsF w v l) (p : ByteArray) :
    Calls Tryz.prog 22 #[.agg #[v], .string p] w fun e w' => ∃ v', e = .returned (.tuple #[.agg #[v'], .int .i64 (remV l p).2]) ∧ IsF w' v' (remV l p).1 ∧ Ext w w' := by
  obtain ⟨R, hR⟩ : ∃ R, remV l p = R := ⟨_, rfl⟩
  rw [hR]
  have HR := Lib.hid hR
  have HF := Lib.hid h
  obtain ⟨a0, c0, e0⟩ := sl_len h.sl
  subst e0
  clear hR h
  go_enter Tryz.func22, Tryz.ntmps22
  go_upto_region 1 with fail
  obtain ⟨G, hG⟩ : ∃ G, w.heap.size = G := ⟨_, rfl⟩
  rw [hG]
  refine wp_forgetH (fun W => Ext w W ∧ W.heap[G]? = some (.cells #[.slice a0 l.length c0] 24 (0, 0)) ∧ W.heap[G + 1]? = some (.cells #[nilS] 24 (0, 0))) ⟨((Ext.refl w).alloc _).alloc _, blk_old (blk_new hG), blk_new (by simp [hG])⟩ ?_
  rintro w1 ⟨x1, bP, bR⟩
  have hG1 : G + 2 ≤ w1.heap.size := block_lt bR
  go_wp2_with ((with_reducible refine at_load 24 (.tmp 2) ?_); refine wpl_load (by rfl) 24 (.tmp 2) rfl G (by rfl) 24 #[.slice a0 l.length c0] (0, 0) _ bP Tryz.underlying24 rfl (infoRp _) ?_)
  refine Calls.mono (treeCheck w1 _ l (HF.out.ext x1)) ?_
  rintro e w2 ⟨rfl, x2⟩
  have bP2 := x2.keeps bP
  have bR2 := x2.keeps bR
  cases hrb : repoB l with
  | false =>
    rw [show errR false = 170 from rfl]
    have hg : w2.grownBy (w2.setRow (G + 1) #[nilS]) (some (G + 1)) := grown_setRow'
    have f1 := setRow_heap w2 (G + 1) _ #[nilS] _ _ bR2
    have xF := (x1.trans x2).grown hg (fun k hk => by cases hk; omega)
    obtain rfl : ([], 170) = R := by rw [← HR.out]; unfold remV; rw [hrb]; rfl
    go_wp2_with ((with_reducible refine at_store 24 (.tmp 4) (.tmp 13) ?_); refine wpl_store (by rfl) 24 (.tmp 4) (.tmp 13) rfl (G + 1) #[nilS] (by rfl) (by rfl) 24 _ bR2 (infoRp _) rfl (by kernel_rfl) ?_)
    exact bodyPost_ret (results_ct (p := 4) (r := 5) rfl _ _ (G + 1) _ _ _ _ (by rfl) f1 Tryz.underlying24 rfl (infoRp _)) rfl ⟨nilS, rfl, isF_nil _, xF⟩
  | true =>
    rw [show errR true = 0 from rfl]
    have HS := Lib.hid (repo_sorted hrb)
    have hl := repo_len hrb
    have HRB := Lib.hid hrb
    have XX2 := x1.trans x2
    clear hrb
    go_wp2_with ((with_reducible refine at_load 24 (.tmp 2) ?_); refine wpl_load (by rfl) 24 (.tmp 2) rfl G (by rfl) 24 #[.slice a0 l.length c0] (0, 0) _ bP2 Tryz.underlying24 rfl (infoRp _) ?_)
    refine Calls.mono (treeFind w2 _ l (HF.out.ext XX2) p HS.out (by omega)) ?_
    rintro e w3 ⟨i, hi, rfl, x3⟩
    have bP3 := x3.keeps bP2
    have bR3 := x3.keeps bR2
    have X3 := Lib.hid (XX2.trans x3)
    obtain ⟨q1, q2⟩ := hit_has HS.out hi
    cases hh : hitB l p i with
    | false =>
      obtain rfl : ([], 4) = R := by rw [← HR.out]; unfold remV; rw [HRB.out, if_neg (by decide), q2 hh]
      have hg : w3.grownBy (w3.setRow (G + 1) #[nilS]) (some (G + 1)) := grown_setRow'
      have f1 := setRow_heap w3 (G + 1) _ #[nilS] _ _ bR3
      have xF := X3.out.grown hg (fun k hk => by cases hk; omega)
      clear q1 q2
      go_wp2_with ((with_reducible refine at_store 24 (.tmp 4) (.tmp 23) ?_); refine wpl_store (by rfl) 24 (.tmp 4) (.tmp 23) rfl (G + 1) #[nilS] (by rfl) (by rfl) 24 _ bR3 (infoRp _) rfl (by kernel_rfl) ?_)
      exact bodyPost_ret (results_ct (p := 4) (r := 5) rfl _ _ (G + 1) _ _ _ _ (by rfl) f1 Tryz.underlying24 rfl (infoRp _)) rfl ⟨nilS, rfl, isF_nil _, xF⟩
    | true =>
      obtain ⟨hil, hgl⟩ := q1 hh
      have hRR : R = (outF l p, 0) := by rw [← HR.out]; unfold remV; rw [HRB.out, if_neg (by decide), hgl]
      subst hRR
      have hout := outF_hit HS.out hi hh
      obtain ⟨pb, o, rfl⟩ : ∃ pb o, a0 = some ⟨pb, o, none⟩ := by
        obtain ⟨h1, ao', cap', e, _, _, _, h5⟩ := HF.out.sl
        simp only [Value.slice.injEq] at e
        obtain ⟨b, off, e1, _⟩ := h5 0 (by rw [h1]; omega)
        exact ⟨b, off, by rw [e.1]; exact e1⟩
      obtain ⟨_, k1, k2⟩ := sl_cap HF.out.sl
      have i0 : (0 : Int) ≤ (i : Int) := Int.natCast_nonneg _
      have i1 : (i : Int) < (l.length : Int) := by omega
      have i2 : (i : Int) ≤ (c0 : Int) := by omega
      have i3 : (i : Int) + 1 ≤ (l.length : Int) := by omega
      have i4 : (l.length : Int) ≤ (c0 : Int) := by omega
      have i5 : (c0 : Int) ≤ 9223372036854775807 := by omega
      have hl2 : (l.length : Int) ≤ 16 := by omega
      have HA := (HF.out.ext X3.out).take (i := i) (by omega)
      have HB := (HF.out.ext X3.out).drop (i := i + 1) (by omega)
      have HAA := Lib.hid HA
      have HBB := Lib.hid HB
      have HOUT := Lib.hid hout
      have KP := fun v (h : Ext w3 v) => block_allH (h.keeps bP3)
      clear q1 q2 hh hgl HA HB hout
      have hwr : IntKind.i64.wrap ((i : Int) + 1) = (i : Int) + 1 := by rw [IntKind.wrap_i64]; omega
      have h01 : (0 : Int) ≤ (i : Int) + 1 := by omega
      have hti : ((i : Int) + 1).toNat = i + 1 := by omega
      go_wp2_with fail
      by_cases hcc : c0 = i + 1
      · subst hcc
        have h02 : (i : Int) ≤ (i : Int) + 1 := by omega
        have HB2 : IsF w3 (.slice (some ⟨pb, o, none⟩) 0 0) (l.drop (i + 1)) := by
          rw [List.drop_eq_nil_of_le (by omega)]
          exact IsF.none
        have HB3 := Lib.hid HB2
        clear HB2

        obtain ⟨V2, hV2⟩ : ∃ V2, Value.slice (some ⟨pb, o, none⟩) 0 0 = V2 := ⟨_, rfl⟩
        rw [hV2] at HB3
        have HV2 := Lib.hid hV2
        clear hV2
        have hpsl : ∀ (W : World) (X : Ext w3 W), ∀ x ∈ [(Value.slice (some ⟨pb, o, none⟩) i (i + 1), l.take i), (V2, l.drop (i + 1))], IsF W x.1 x.2 := fun W X x hx => by
          rcases List.mem_cons.1 hx with rfl | hx
          · exact HAA.out.ext X
          · rw [List.mem_singleton.1 hx]; exact HB3.out.ext X
        have hcat : catP [(Value.slice (some ⟨pb, o, none⟩) i (i + 1), l.take i), (V2, l.drop (i + 1))] = outF l p := by
          rw [← HOUT.out]
          simp [catP]
        have hcl : (outF l p).length ≤ 100000 := Nat.le_trans (List.length_filter_le _ _) (by omega)
        have HPSL := Lib.hid hpsl
        have HCAT := Lib.hid hcat
        have HBR := Lib.hid bR3
        have hG3 : G + 2 ≤ w3.heap.size := block_lt bR3
        clear hpsl hcat bR3
        refine wp_region_G 12 (fun v => Ext w3 v) (by kernel_rfl) fun wd hqd hHeld => ?_
        refine G_pure (i := 0) (u := ?vra0) rfl (by kernel_rfl) (by kernel_rfl) (by kernel_rfl) (fun _ _ _ h => h) (by decide) (Or.inl ⟨by rfl, ?hyra0⟩) hHeld ?_
        case hyra0 => (intro w hSw; go_simp; try with_reducible rfl)
        simp only [Act.put, List.setIfInBounds_toArray, List.set_cons_zero, List.set_cons_succ, List.getElem_toArray, List.getElem_cons_zero, List.getElem_cons_succ]
        refine G_take (i := 1) (u := ?vra1) rfl (by kernel_rfl) (by kernel_rfl) (by kernel_rfl) (fun _ _ _ h => h) rfl (by kernel_rfl) (by decide) (by rfl) (Or.inl ⟨by rfl, ?hyra1⟩) hHeld ?_
        case hyra1 => (intro w hSw; have kk := KP _ hSw; go_simp; try with_reducible rfl)
        simp only [Act.put, List.setIfInBounds_toArray, List.set_cons_zero, List.set_cons_succ, List.getElem_toArray, List.getElem_cons_zero, List.getElem_cons_succ]
        refine G_pure (i := 2) (u := ?vra2) rfl (by kernel_rfl) (by kernel_rfl) (by kernel_rfl) (fun _ _ _ h => h) (by decide) (Or.inl ⟨by rfl, ?hyra2⟩) hHeld ?_
        case hyra2 => (intro w hSw; go_simp; try with_reducible rfl)
        simp only [Act.put, List.setIfInBounds_toArray, List.set_cons_zero, List.set_cons_succ, List.getElem_toArray, List.getElem_cons_zero, List.getElem_cons_succ]
        refine G_pure (i := 3) (u := ?vra3) rfl (by kernel_rfl) (by kernel_rfl) (by kernel_rfl) (fun _ _ _ h => h) (by decide) (Or.inl ⟨by rfl, ?hyra3⟩) hHeld ?_
        case hyra3 => (intro w hSw; go_simp; try with_reducible rfl)
        simp only [Act.put, List.setIfInBounds_toArray, List.set_cons_zero, List.set_cons_succ, List.getElem_toArray, List.getElem_cons_zero, List.getElem_cons_succ]
        refine G_pure (i := 4) (u := ?vra4) rfl (by kernel_rfl) (by kernel_rfl) (by kernel_rfl) (fun _ _ _ h => h) (by decide) (Or.inl ⟨by rfl, ?hyra4⟩) hHeld ?_
        case hyra4 => (intro w hSw; go_simp; try with_reducible rfl)
        simp only [Act.put, List.setIfInBounds_toArray, List.set_cons_zero, List.set_cons_succ, List.getElem_toArray, List.getElem_cons_zero, List.getElem_cons_succ]
        refine G_take (i := 5) (u := ?vra5) rfl (by kernel_rfl) (by kernel_rfl) (by kernel_rfl) (fun _ _ _ h => h) rfl (by kernel_rfl) (by decide) (by rfl) (Or.inl ⟨by rfl, ?hyra5⟩) hHeld ?_
        case hyra5 => (intro w hSw; have kk := KP _ hSw; go_simp; try with_reducible rfl)
        simp only [Act.put, List.setIfInBounds_toArray, List.set_cons_zero, List.set_cons_succ, List.getElem_toArray, List.getElem_cons_zero, List.getElem_cons_succ]
        refine G_pure (i := 6) (u := ?vra6) rfl (by kernel_rfl) (by kernel_rfl) (by kernel_rfl) (fun _ _ _ h => h) (by decide) (Or.inl ⟨by rfl, ?hyra6⟩) hHeld ?_
        case hyra6 => (intro w hSw; go_simp; try with_reducible rfl)
        simp only [Act.put, List.setIfInBounds_toArray, List.set_cons_zero, List.set_cons_succ, List.getElem_toArray, List.getElem_cons_zero, List.getElem_cons_succ]
        refine G_take (i := 7) (u := ?vra7) rfl (by kernel_rfl) (by kernel_rfl) (by kernel_rfl) (fun _ _ _ h => h) rfl (by kernel_rfl) (by decide) (by rfl) (Or.inl ⟨by rfl, ?hyra7⟩) hHeld ?_
        case hyra7 => (intro w hSw; have kk := hwr; go_simp; try with_reducible rfl)
        simp only [Act.put, List.setIfInBounds_toArray, List.set_cons_zero, List.set_cons_succ, List.getElem_toArray, List.getElem_cons_zero, List.getElem_cons_succ]
        refine G_take (i := 8) (u := ?vra8) rfl (by kernel_rfl) (by kernel_rfl) (by kernel_rfl) (fun _ _ _ h => h) rfl (by kernel_rfl) (by decide) (by rfl) (Or.inl ⟨by rfl, ?hyra8⟩) hHeld ?_
        case hyra8 => (intro w hSw; have kk := hti; go_simp; try with_reducible rfl)
        simp only [Act.put, List.setIfInBounds_toArray, List.set_cons_zero, List.set_cons_succ, List.getElem_toArray, List.getElem_cons_zero, List.getElem_cons_succ]
        refine G_all (rs := [9]) (by kernel_rfl) (by simp) ?_
        intro i hi; obtain rfl : i = 9 := by simpa using hi
        refine wpOp_run rfl (by rfl) ?_
        go_simp
        rw [HV2.out]
        have hnb := heap_alloc_new wd (.cells #[Value.slice (some ⟨pb, o, none⟩) i (i + 1), V2] 22)
        have xb : Ext wd (wd.alloc (.cells #[Value.slice (some ⟨pb, o, none⟩) i (i + 1), V2] 22)) := (Ext.refl wd).alloc _
        have hHeld := hHeld.trans xb
        first | refine ⟨fun _ => hHeld, ?_⟩ | refine ⟨hHeld, ?_⟩ | skip
        try simp only [Act.put, List.setIfInBounds_toArray, List.set_cons_zero, List.set_cons_succ, List.getElem_toArray, List.getElem_cons_zero, List.getElem_cons_succ]
        refine G_all (rs := [10]) (by kernel_rfl) (by simp) ?_
        intro i hi; obtain rfl : i = 10 := by simpa using hi
        refine wpOp_run rfl (by rfl) ?_
        go_simp
        refine Calls.mono (concatF _ _ (HPSL.out _ hHeld) wd.heap.size 2 (fun k hk => by rw [block_cell hnb]; match k, hk with | 0, _ => rfl | 1, _ => rfl) (by show 2 ≤ 1000; omega) (by rw [HCAT.out]; exact hcl) (Nat.le_refl 2) (by omega)) ?_
        rintro e w4 ⟨v4, rfl, own4, x4⟩
        rw [HCAT.out] at own4
        obtain ⟨a4, c4, rfl⟩ := ownSh own4
        have bR4 := (hHeld.trans x4).keeps HBR.out
        have hsz4 := hHeld.size
        have hHeld := hHeld.trans x4
        first | refine ⟨fun _ => hHeld, ?_⟩ | refine ⟨hHeld, ?_⟩
        try simp only [Act.put, List.setIfInBounds_toArray, List.set_cons_zero, List.set_cons_succ, List.getElem_toArray, List.getElem_cons_zero, List.getElem_cons_succ]
        refine G_pure (i := 11) (u := ?vra11) rfl (by kernel_rfl) (by kernel_rfl) (by kernel_rfl) (fun _ _ _ h => h) (by decide) (Or.inl ⟨by rfl, ?hyra11⟩) hHeld ?_
        case hyra11 => (intro w hSw; go_simp; try with_reducible rfl)
        simp only [Act.put, List.setIfInBounds_toArray, List.set_cons_zero, List.set_cons_succ, List.getElem_toArray, List.getElem_cons_zero, List.getElem_cons_succ]
        refine G_all (rs := [12]) (by kernel_rfl) (by simp) ?_
        intro i hi; obtain rfl : i = 12 := by simpa using hi
        refine wpOp_run rfl (by rfl) ?_
        refine wp_store_row 24 (.tmp 4) (.tmp 35) rfl (G + 1) #[.slice a4 (outF l p).length c4] (by rfl) (by rfl) 24 _ bR4 (infoRp _) rfl (by kernel_rfl) ?_
        try refine ⟨fun e => absurd e (by decide), ?_⟩
        refine G_free _ _ _ _ (by kernel_rfl) ?_
        try simp only [Act.put, List.setIfInBounds_toArray, List.set_cons_zero, List.set_cons_succ, List.getElem_toArray, List.getElem_cons_zero, List.getElem_cons_succ]
        refine wpAny_take (i := 13) (v := ?vra13) rfl (by kernel_rfl) (by kernel_rfl) (by kernel_rfl) (fun _ _ _ h => h) (Or.inl ⟨by rfl, ?hyra13⟩) ?_
        case hyra13 => (intro w ; go_simp; try with_reducible rfl)
        simp only [Act.put, List.setIfInBounds_toArray, List.set_cons_zero, List.set_cons_succ, List.getElem_toArray, List.getElem_cons_zero, List.getElem_cons_succ]
        refine wpAny_done (by kernel_rfl) ?_ _
        refine NoPanic.normal ?_
        go_wp2_with fail
        have hg : w4.grownBy (w4.setRow (G + 1) #[.slice a4 (outF l p).length c4]) (some (G + 1)) := grown_setRow'
        have f1 := setRow_heap w4 (G + 1) _ #[.slice a4 (outF l p).length c4] _ _ bR4
        have xF := (X3.out.trans hHeld).grown hg (fun k hk => by cases hk; omega)
        have o5 := ownsRow_grown own4 hg (own_neH own4 bR4 (by decide))
        exact bodyPost_ret (results_ct (p := 4) (r := 5) rfl _ _ (G + 1) _ _ _ _ (by rfl) f1 Tryz.underlying24 rfl (infoRp _)) rfl ⟨_, rfl, ⟨IsSl.of_owns o5, fun f hf => HF.out.ok f (List.mem_filter.1 hf).1⟩, xF⟩
      · have hcc1 : ¬ (c0 : Int) = (i : Int) + 1 := by omega
        have HB3 := HBB

        obtain ⟨V2, hV2⟩ : ∃ V2, Value.slice (some ⟨pb, o + (i + 1) * 2, none⟩) (l.length - (i + 1)) (c0 - (i + 1)) = V2 := ⟨_, rfl⟩
        rw [hV2] at HB3
        have HV2 := Lib.hid hV2
        clear hV2
        have hpsl : ∀ (W : World) (X : Ext w3 W), ∀ x ∈ [(Value.slice (some ⟨pb, o, none⟩) i c0, l.take i), (V2, l.drop (i + 1))], IsF W x.1 x.2 := fun W X x hx => by
          rcases List.mem_cons.1 hx with rfl | hx
          · exact HAA.out.ext X
          · rw [List.mem_singleton.1 hx]; exact HB3.out.ext X
        have hcat : catP [(Value.slice (some ⟨pb, o, none⟩) i c0, l.take i), (V2, l.drop (i + 1))] = outF l p := by
          rw [← HOUT.out]
          simp [catP]
        have hcl : (outF l p).length ≤ 100000 := Nat.le_trans (List.length_filter_le _ _) (by omega)
        have HPSL := Lib.hid hpsl
        have HCAT := Lib.hid hcat
        have HBR := Lib.hid bR3
        have hG3 : G + 2 ≤ w3.heap.size := block_lt bR3
        clear hpsl hcat bR3
        refine wp_region_G 12 (fun v => Ext w3 v) (by kernel_rfl) fun wd hqd hHeld => ?_
        refine G_pure (i := 0) (u := ?vrb0) rfl (by kernel_rfl) (by kernel_rfl) (by kernel_rfl) (fun _ _ _ h => h) (by decide) (Or.inl ⟨by rfl, ?hyrb0⟩) hHeld ?_
        case hyrb0 => (intro w hSw; go_simp; try with_reducible rfl)
        simp only [Act.put, List.setIfInBounds_toArray, List.set_cons_zero, List.set_cons_succ, List.getElem_toArray, List.getElem_cons_zero, List.getElem_cons_succ]
        refine G_take (i := 1) (u := ?vrb1) rfl (by kernel_rfl) (by kernel_rfl) (by kernel_rfl) (fun _ _ _ h => h) rfl (by kernel_rfl) (by decide) (by rfl) (Or.inl ⟨by rfl, ?hyrb1⟩) hHeld ?_
        case hyrb1 => (intro w hSw; have kk := KP _ hSw; go_simp; try with_reducible rfl)
        simp only [Act.put, List.setIfInBounds_toArray, List.set_cons_zero, List.set_cons_succ, List.getElem_toArray, List.getElem_cons_zero, List.getElem_cons_succ]
        refine G_pure (i := 2) (u := ?vrb2) rfl (by kernel_rfl) (by kernel_rfl) (by kernel_rfl) (fun _ _ _ h => h) (by decide) (Or.inl ⟨by rfl, ?hyrb2⟩) hHeld ?_
        case hyrb2 => (intro w hSw; go_simp; try with_reducible rfl)
        simp only [Act.put, List.setIfInBounds_toArray, List.set_cons_zero, List.set_cons_succ, List.getElem_toArray, List.getElem_cons_zero, List.getElem_cons_succ]
        refine G_pure (i := 3) (u := ?vrb3) rfl (by kernel_rfl) (by kernel_rfl) (by kernel_rfl) (fun _ _ _ h => h) (by decide) (Or.inl ⟨by rfl, ?hyrb3⟩) hHeld ?_
        case hyrb3 => (intro w hSw; go_simp; try with_reducible rfl)
        simp only [Act.put, List.setIfInBounds_toArray, List.set_cons_zero, List.set_cons_succ, List.getElem_toArray, List.getElem_cons_zero, List.getElem_cons_succ]
        refine G_pure (i := 4) (u := ?vrb4) rfl (by kernel_rfl) (by kernel_rfl) (by kernel_rfl) (fun _ _ _ h => h) (by decide) (Or.inl ⟨by rfl, ?hyrb4⟩) hHeld ?_
        case hyrb4 => (intro w hSw; go_simp; try with_reducible rfl)
        simp only [Act.put, List.setIfInBounds_toArray, List.set_cons_zero, List.set_cons_succ, List.getElem_toArray, List.getElem_cons_zero, List.getElem_cons_succ]
        refine G_take (i := 5) (u := ?vrb5) rfl (by kernel_rfl) (by kernel_rfl) (by kernel_rfl) (fun _ _ _ h => h) rfl (by kernel_rfl) (by decide) (by rfl) (Or.inl ⟨by rfl, ?hyrb5⟩) hHeld ?_
        case hyrb5 => (intro w hSw; have kk := KP _ hSw; go_simp; try with_reducible rfl)
        simp only [Act.put, List.setIfInBounds_toArray, List.set_cons_zero, List.set_cons_succ, List.getElem_toArray, List.getElem_cons_zero, List.getElem_cons_succ]
        refine G_pure (i := 6) (u := ?vrb6) rfl (by kernel_rfl) (by kernel_rfl) (by kernel_rfl) (fun _ _ _ h => h) (by decide) (Or.inl ⟨by rfl, ?hyrb6⟩) hHeld ?_
        case hyrb6 => (intro w hSw; go_simp; try with_reducible rfl)
        simp only [Act.put, List.setIfInBounds_toArray, List.set_cons_zero, List.set_cons_succ, List.getElem_toArray, List.getElem_cons_zero, List.getElem_cons_succ]
        refine G_take (i := 7) (u := ?vrb7) rfl (by kernel_rfl) (by kernel_rfl) (by kernel_rfl) (fun _ _ _ h => h) rfl (by kernel_rfl) (by decide) (by rfl) (Or.inl ⟨by rfl, ?hyrb7⟩) hHeld ?_
        case hyrb7 => (intro w hSw; have kk := hwr; go_simp; try with_reducible rfl)
        simp only [Act.put, List.setIfInBounds_toArray, List.set_cons_zero, List.set_cons_succ, List.getElem_toArray, List.getElem_cons_zero, List.getElem_cons_succ]
        refine G_take (i := 8) (u := ?vrb8) rfl (by kernel_rfl) (by kernel_rfl) (by kernel_rfl) (fun _ _ _ h => h) rfl (by kernel_rfl) (by decide) (by rfl) (Or.inl ⟨by rfl, ?hyrb8⟩) hHeld ?_
        case hyrb8 => (intro w hSw; have kk := hti; go_simp; try with_reducible rfl)
        simp only [Act.put, List.setIfInBounds_toArray, List.set_cons_zero, List.set_cons_succ, List.getElem_toArray, List.getElem_cons_zero, List.getElem_cons_succ]
        refine G_all (rs := [9]) (by kernel_rfl) (by simp) ?_
        intro i hi; obtain rfl : i = 9 := by simpa using hi
        refine wpOp_run rfl (by rfl) ?_
        go_simp
        rw [HV2.out]
        have hnb := heap_alloc_new wd (.cells #[Value.slice (some ⟨pb, o, none⟩) i c0, V2] 22)
        have xb : Ext wd (wd.alloc (.cells #[Value.slice (some ⟨pb, o, none⟩) i c0, V2] 22)) := (Ext.refl wd).alloc _
        have hHeld := hHeld.trans xb
        first | refine ⟨fun _ => hHeld, ?_⟩ | refine ⟨hHeld, ?_⟩ | skip
        try simp only [Act.put, List.setIfInBounds_toArray, List.set_cons_zero, List.set_cons_succ, List.getElem_toArray, List.getElem_cons_zero, List.getElem_cons_succ]
        refine G_all (rs := [10]) (by kernel_rfl) (by simp) ?_
        intro i hi; obtain rfl : i = 10 := by simpa using hi
        refine wpOp_run rfl (by rfl) ?_
        go_simp
        refine Calls.mono (concatF _ _ (HPSL.out _ hHeld) wd.heap.size 2 (fun k hk => by rw [block_cell hnb]; match k, hk with | 0, _ => rfl | 1, _ => rfl) (by show 2 ≤ 1000; omega) (by rw [HCAT.out]; exact hcl) (Nat.le_refl 2) (by omega)) ?_
        rintro e w4 ⟨v4, rfl, own4, x4⟩
        rw [HCAT.out] at own4
        obtain ⟨a4, c4, rfl⟩ := ownSh own4
        have bR4 := (hHeld.trans x4).keeps HBR.out
        have hsz4 := hHeld.size
        have hHeld := hHeld.trans x4
        first | refine ⟨fun _ => hHeld, ?_⟩ | refine ⟨hHeld, ?_⟩
        try simp only [Act.put, List.setIfInBounds_toArray, List.set_cons_zero, List.set_cons_succ, List.getElem_toArray, List.getElem_cons_zero, List.getElem_cons_succ]
        refine G_pure (i := 11) (u := ?vrb11) rfl (by kernel_rfl) (by kernel_rfl) (by kernel_rfl) (fun _ _ _ h => h) (by decide) (Or.inl ⟨by rfl, ?hyrb11⟩) hHeld ?_
        case hyrb11 => (intro w hSw; go_simp; try with_reducible rfl)
        simp only [Act.put, List.setIfInBounds_toArray, List.set_cons_zero, List.set_cons_succ, List.getElem_toArray, List.getElem_cons_zero, List.getElem_cons_succ]
        refine G_all (rs := [12]) (by kernel_rfl) (by simp) ?_
        intro i hi; obtain rfl : i = 12 := by simpa using hi
        refine wpOp_run rfl (by rfl) ?_
        refine wp_store_row 24 (.tmp 4) (.tmp 35) rfl (G + 1) #[.slice a4 (outF l p).length c4] (by rfl) (by rfl) 24 _ bR4 (infoRp _) rfl (by kernel_rfl) ?_
        try refine ⟨fun e => absurd e (by decide), ?_⟩
        refine G_free _ _ _ _ (by kernel_rfl) ?_
        try simp only [Act.put, List.setIfInBounds_toArray, List.set_cons_zero, List.set_cons_succ, List.getElem_toArray, List.getElem_cons_zero, List.getElem_cons_succ]
        refine wpAny_take (i := 13) (v := ?vrb13) rfl (by kernel_rfl) (by kernel_rfl) (by kernel_rfl) (fun _ _ _ h => h) (Or.inl ⟨by rfl, ?hyrb13⟩) ?_
        case hyrb13 => (intro w ; go_simp; try with_reducible rfl)
        simp only [Act.put, List.setIfInBounds_toArray, List.set_cons_zero, List.set_cons_succ, List.getElem_toArray, List.getElem_cons_zero, List.getElem_cons_succ]
        refine wpAny_done (by kernel_rfl) ?_ _
        refine NoPanic.normal ?_
        go_wp2_with fail
        have hg : w4.grownBy (w4.setRow (G + 1) #[.slice a4 (outF l p).length c4]) (some (G + 1)) := grown_setRow'
        have f1 := setRow_heap w4 (G + 1) _ #[.slice a4 (outF l p).length c4] _ _ bR4
        have xF := (X3.out.trans hHeld).grown hg (fun k hk => by cases hk; omega)
        have o5 := ownsRow_grown own4 hg (own_neH own4 bR4 (by decide))
        exact bodyPost_ret (results_ct (p := 4) (r := 5) rfl _ _ (G + 1) _ _ _ _ (by rfl) f1 Tryz.underlying24 rfl (infoRp _)) rfl ⟨_, rfl, ⟨IsSl.of_owns o5, fun f hf => HF.out.ok f (List.mem_filter.1 hf).1⟩, xF⟩
end Go.Proofs.YtpadfabjihaapaaGreatDoor

namespace Go.Proofs.YtpadfabjihaapaaGreatDoor
open Go.RowKit
set_option linter.unusedVariables false
set_option linter.unusedSimpArgs false

set_option maxHeartbeats 4000000 in
set_option maxRecDepth 100000 in
theorem largeC (w : World) (v : Value) (l : List Fl) (h : IsF w v l) :
    Calls Tryz.prog 8 #[.agg #[v]] w fun e w' => ∃ b, e = .returned (.bool b) ∧ (b = false → l.length ≤ 100 ∧ ∀ f ∈ l, f.path.size ≤ 131072 ∧ f.text.size ≤ 131072) ∧ Ext w w' := by
  obtain ⟨ao, cap, rfl, b1, m1, z1, g1⟩ := h.opened
  have G1 := Lib.hid g1
  have HF := Lib.hid h
  clear g1 z1 h
  go_enter Tryz.func8, Tryz.ntmps8
  go_upto_region 1 with fail
  obtain ⟨G, hG⟩ : ∃ G, w.heap.size = G := ⟨_, rfl⟩
  rw [hG]
  refine wp_forgetH (fun W => Ext w W ∧ W.heap[G]? = some (.cells #[.slice ao l.length cap] 24 (0, 0))) ⟨(Ext.refl w).alloc _, blk_new hG⟩ ?_
  rintro w1 ⟨x1, b0⟩
  have k0 := block_allH b0
  go_wp2_with fail
  clear k0
  go_loopg [3, 9] l.length (fun q s3 s9 wr => ∃ j K : Nat, j ≤ l.length ∧ l.length - j ≤ q ∧ s9 = .int .i64 (j : Int) ∧ s3 = .int .i64 (K : Int) ∧ K ≤ 131072 ∧ j ≤ 100 ∧ (∀ f ∈ l.take j, f.path.size ≤ 131072 ∧ f.text.size ≤ 131072) ∧ Ext w wr)
  case atStart => exact ⟨0, 0, Nat.zero_le _, by omega, rfl, rfl, by omega, by omega, fun f hf => by simp at hf, x1⟩
  case round =>
  obtain ⟨j, K, hj, hq, rfl, rfl, hK, hj1, hall, xr⟩ := hrel
  have HALL := Lib.hid hall
  clear hall
  by_cases hlt : j < l.length
  · obtain ⟨pb, o, rfl, e0, e1⟩ := G1.out j hlt
    have e0 := xr.cell e0
    have e1 := xr.cell e1
    have htk : l.take (j + 1) = l.take j ++ [l[j]] := by rw [List.take_succ_eq_append_getElem hlt]
    have hok := HF.out.ok _ (List.getElem_mem hlt)
    generalize l[j] = f at *
    have HTKJ := Lib.hid htk
    obtain ⟨ok1, ok2⟩ := hok
    clear htk
    go_upto_region 6 with fail
    obtain ⟨NN, hNN⟩ : ∃ NN : Nat, (K : Int) + (min (f.text.size : Int) 1048576 + min (f.path.size : Int) 1048576) = (NN : Int) := ⟨K + (min f.text.size 1048576 + min f.path.size 1048576), by omega⟩
    rw [hNN]
    refine wp_forgetH (fun W => Ext wr W) ((Ext.refl wr).alloc _) ?_
    rintro w2 x2
    by_cases h100 : j = 100
    · have d1 : decide ((j : Int) = 100) = true := decide_eq_true (by omega)
      clear hNN
      go_wp2_with fail
      exact bodyPost_ret (results_t rfl _ _) rfl ⟨true, rfl, (fun h => by cases h), xr.trans x2⟩
    · have d1 : decide ((j : Int) = 100) = false := decide_eq_false (by omega)
      by_cases hgt : 131072 < NN
      · have d2 : decide ((131072 : Int) < (NN : Int)) = true := decide_eq_true (by omega)
        clear hNN
        go_wp2_with fail
        exact bodyPost_ret (results_t rfl _ _) rfl ⟨true, rfl, (fun h => by cases h), xr.trans x2⟩
      · have d2 : decide ((131072 : Int) < (NN : Int)) = false := decide_eq_false (by omega)
        have hf1 : f.path.size ≤ 131072 ∧ f.text.size ≤ 131072 := by omega
        have HF1 := Lib.hid hf1
        have hNK : NN ≤ 131072 := by omega
        have hj99 : j + 1 ≤ 100 := by omega
        clear hNN hf1
        go_wp2_with fail
        go_roundg (l.length - (j + 1))
        case measure => omega
        case rel =>
          refine ⟨j + 1, NN, by omega, by omega, by go_num, rfl, hNK, hj99, fun x hx => ?_, xr.trans x2⟩
          rw [HTKJ.out] at hx
          rcases List.mem_append.1 hx with q | q
          · exact HALL.out x q
          · rw [List.mem_singleton.1 q]; exact HF1.out
  · obtain rfl : j = l.length := by omega
    have hall := HALL.out
    rw [List.take_length] at hall
    have HALL2 := Lib.hid hall
    clear hall
    go_wp2_with fail
    exact bodyPost_ret (results_t rfl _ _) rfl ⟨false, rfl, (fun _ => ⟨hj1, HALL2.out⟩), xr⟩

theorem new2s7 {w : World} {G : Nat} (hG : w.heap.size = G) (a b : Obj) : Ext w ((w.alloc a).alloc b) ∧ ((w.alloc a).alloc b).heap[G]? = some a ∧ ((w.alloc a).alloc b).heap[G + 1]? = some b :=
  ⟨((Ext.refl w).alloc _).alloc _, blk_old (blk_new hG), blk_new (by simp [hG])⟩
set_option maxHeartbeats 4000000 in
set_option maxRecDepth 100000 in
theorem copiedC (w : World) (v : Value) (l : List Fl) (h : IsF w v l) (hl : l.length ≤ 1000000) :
    Calls Tryz.prog 10 #[.agg #[v]] w fun e w' => ∃ v', e = .returned (.agg #[v']) ∧ IsF w' v' l ∧ Ext w w' := by
  obtain ⟨zE, tyE⟩ := tyFi
  obtain ⟨ao, cap, rfl⟩ := sl_len h.sl
  obtain ⟨_, k1, m1⟩ := sl_cap h.sl
  go_enter Tryz.func10, Tryz.ntmps10
  go_upto_region 1 with fail
  generalize hG : w.heap.size = G at *
  refine wp_forgetH (fun W => Ext w W ∧ W.heap[G]? = some (.cells #[.slice ao l.length cap] 24 (0, 0)) ∧ W.heap[G + 1]? = some (.cells #[.slice none 0 0] 24 (0, 0))) (new2s7 hG _ _) ?_
  rintro w1 ⟨x1, b0, b1⟩
  have o0 := World.ownsRow_made (base := w1.heap.size) (e := 66) (size := 2) w1 #[] 0 (Nat.le_refl _) (by decide) rfl
  have hh := h.ext x1
  have x2 : Ext w1 (w1.alloc (.cells #[] 66)) := (Ext.refl w1).alloc _
  have k0 := block_allH (x2.keeps b0)
  have b1 := x2.keeps b1
  have HB1 := Lib.hid b1
  have HH := Lib.hid hh
  clear h hh b0 b1
  go_wp2_with (first
    | (at_builtin; refine wp_app (w := w1.alloc (.cells #[] 66)) tyE rfl (.tmp 3) (.tmp 5) rfl w1.heap.size _ 0 [] o0 (by rfl) _ l.length (l.flatMap flC) (HH.out.sl.ext x2) (by rfl) (flC_oneL l) (by omega) (by omega) (by have := x2.size; omega) ?_; intro v2 w2 own2 gr2; obtain ⟨a2, c2, rfl⟩ := ownSh own2; have b2 := grown_keep gr2 HB1.out (own_neH o0 HB1.out (by decide)); have kk2 := block_allH b2; have ff2 := fun z => block_free b2 z))
  have gF : w2.grownBy (w2.setCell ⟨G + 1, 0, none⟩ (.slice a2 l.length c2)) (some (G + 1)) := grown_setCell _ _ _ _
  have hfin := block_setCell b2 (i := 0) (.slice a2 l.length c2)
  rw [Nat.zero_add, List.nil_append] at own2
  have oF := ownsRow_grown own2 gF (own_neH own2 b2 (by decide))
  have hs1 := x1.size
  have xF := ((own_base o0 gr2 (x1.trans x2) (by omega)).grown gF (fun k hk => by cases hk; omega))
  refine bodyPost_ret (results_cellH rfl _ _ (G + 1) _ _ _ _ (by rfl) hfin Tryz.underlying24 rfl (infoRp _)) rfl ⟨_, rfl, ⟨IsSl.of_owns oF, HH.out.ok⟩, xF⟩
end Go.Proofs.YtpadfabjihaapaaGreatDoor

namespace Go.Proofs.YtpadfabjihaapaaGreatDoor
open Go.RowKit
set_option linter.unusedVariables false
set_option linter.unusedSimpArgs false

/-- One file of With. -/
def withS (x : Fl) (a : List Fl × Bool) (f : Fl) : List Fl × Bool :=
  if f.path = x.path then (if a.2 = false ∧ bl f.path x.path = false then (a.1 ++ [x], true) else a)
  else (if a.2 = false ∧ bl f.path x.path = false then (a.1 ++ [x] ++ [f], true) else (a.1 ++ [f], a.2))
def withL (l : List Fl) (x : Fl) : List Fl := if (l.foldl (withS x) ([], false)).2 then (l.foldl (withS x) ([], false)).1 else (l.foldl (withS x) ([], false)).1 ++ [x]
theorem withS_mem {x f g : Fl} {a : List Fl × Bool} (h : g ∈ (withS x a f).1) : g ∈ a.1 ∨ g = x ∨ g = f := by
  unfold withS at h
  split at h
  · split at h
    · rcases List.mem_append.1 h with q | q
      · exact .inl q
      · exact .inr (.inl (List.mem_singleton.1 q))
    · exact .inl h
  · split at h
    · rcases List.mem_append.1 h with q | q
      · rcases List.mem_append.1 q with q | q
        · exact .inl q
        · exact .inr (.inl (List.mem_singleton.1 q))
      · exact .inr (.inr (List.mem_singleton.1 q))
    · rcases List.mem_append.1 h with q | q
      · exact .inl q
      · exact .inr (.inr (List.mem_singleton.1 q))
theorem withS_len (x f : Fl) (a : List Fl × Bool) : (withS x a f).1.length ≤ a.1.length + 2 := by
  unfold withS
  split <;> split <;> simp <;> omega
/-- A store of one file behind files of the call's own. -/
theorem bl_not (a b : ByteArray) : (Op.bytesLess a.toList b.toList || a.toList == b.toList) = !bl b a := bl_leqR _ _
set_option maxHeartbeats 8000000 in
set_option maxRecDepth 100000 in
theorem refWith (w : World) (v : Value) (l : List Fl) (h : IsF w v l) (hl : l.length ≤ 10000) (x : Fl) (hx : flOk x) :
    Calls Tryz.prog 26 #[v, .agg (flC x).toArray] w fun e w' => ∃ v', e = .returned v' ∧ IsF w' v' (withL l x) ∧ Ext w w' := by
  obtain ⟨zF, tyF⟩ := tyFi
  obtain ⟨ao, cap, rfl, b1, m1, z1, g1⟩ := h.opened
  have G1 := Lib.hid g1
  have HF := Lib.hid h
  have HXK := Lib.hid hx
  clear g1 z1 h hx
  go_enter Tryz.func26, Tryz.ntmps26
  go_upto_region 1 with fail
  obtain ⟨G, hG⟩ : ∃ G, w.heap.size = G := ⟨_, rfl⟩
  rw [hG]
  refine wp_forgetH (fun W => Ext w W ∧ W.heap[G]? = some (.cells (flC x).toArray 66 (0, 0))) ⟨(Ext.refl w).alloc _, blk_new hG⟩ ?_
  rintro w1 ⟨x1, b0⟩
  have HB0 := Lib.hid b0
  have hw1 : w.heap.size ≤ w1.heap.size := x1.size
  clear b0
  go_wp2_with fail
  go_loopg [5, 6, 7] l.length (fun q s5 s6 s7 wr => ∃ (j : Nat) (fs : List Fl) (pt : Bool), j ≤ l.length ∧ l.length - j ≤ q ∧ s7 = .int .i64 (j : Int) ∧ s6 = .bool pt ∧ (l.take j).foldl (withS x) ([], false) = (fs, pt) ∧ wr.ownsRow w1.heap.size 66 2 s5 fs.length (fs.flatMap flC) ∧ fs.length ≤ 2 * j ∧ (∀ f ∈ fs, flOk f) ∧ Ext w1 wr)
  case atStart => exact ⟨0, [], false, Nat.zero_le _, by omega, rfl, rfl, by simp, World.ownsRow_nil _ _ _ _, by simp, (fun f hf => by cases hf), Ext.refl _⟩
  case round =>
  obtain ⟨j, fs, pt, hj, hq, rfl, rfl, hst, own, hfl, hok, xr⟩ := hrel
  have HST := Lib.hid hst
  have HOW := Lib.hid own
  have HOK := Lib.hid hok
  have hwr : w.heap.size ≤ wr.heap.size := Nat.le_trans hw1 xr.size
  have b1 := xr.keeps HB0.out
  have c0 : wr.cell? ⟨G, 0, none⟩ = some (.string x.path) := by rw [block_cell b1]; rfl
  clear hst own hok
  by_cases hlt : j < l.length
  · obtain ⟨pb, o, rfl, e0, e1⟩ := G1.out j hlt
    have X1 := x1.trans xr
    have E0 := Lib.hid e0
    have E1 := Lib.hid e1
    have e0 := X1.cell e0
    have e1 := X1.cell e1
    have htk : l.take (j + 1) = l.take j ++ [l[j]] := by rw [List.take_succ_eq_append_getElem hlt]
    have hfo := HF.out.ok _ (List.getElem_mem hlt)
    generalize l[j] = f at *
    have HTK := Lib.hid htk
    have hst2 : (l.take (j + 1)).foldl (withS x) ([], false) = withS x (fs, pt) f := by rw [HTK.out, List.foldl_append, HST.out]; rfl
    have HS2 := Lib.hid hst2
    have HFO := Lib.hid hfo
    have j0 : (0 : Int) ≤ (j : Int) := Int.natCast_nonneg _
    have j1 : (j : Int) < (l.length : Int) := by omega
    have KC0 := fun v (h : Ext wr v) => h.cell c0
    have KE0 := fun v (h : Ext wr v) => h.cell e0
    clear htk hst2 hfo
    go_upto_region 6 with fail
    cases hle : bl f.path x.path with
    | true =>
      have hleq : (Op.bytesLess x.path.toList f.path.toList || x.path.toList == f.path.toList) = false := by rw [bl_not, hle]; rfl
      have hne : f.path ≠ x.path := bl_ne hle
      have hneb : (f.path.toList == x.path.toList) = false := nbeq_path.2 hne
      cases pt with
      | true =>
        refine wp_region_S (fun v => Ext wr v) (by kernel_rfl) (fun w' h => h) fun wd hqd xd hHeld => ?_
        refine wpAnyH_take (i := 0) (v := ?vrtl0) rfl (by kernel_rfl) (by kernel_rfl) (by kernel_rfl) (fun _ _ _ h => h) (Or.inl ⟨by rfl, ?hyrtl0⟩) hHeld ?_
        case hyrtl0 => (intro w hSw; go_simp; try with_reducible rfl)
        simp only [Act.put, List.setIfInBounds_toArray, List.set_cons_zero, List.set_cons_succ, List.getElem_toArray, List.getElem_cons_zero, List.getElem_cons_succ]
        refine wpAnyH_take (i := 1) (v := ?vrtl1) rfl (by kernel_rfl) (by kernel_rfl) (by kernel_rfl) (fun _ _ _ h => h) (Or.inl ⟨by rfl, ?hyrtl1⟩) hHeld ?_
        case hyrtl1 => (intro w hSw; go_simp; try with_reducible rfl)
        simp only [Act.put, List.setIfInBounds_toArray, List.set_cons_zero, List.set_cons_succ, List.getElem_toArray, List.getElem_cons_zero, List.getElem_cons_succ]
        refine wpAnyH_take (i := 2) (v := ?vrtl2) rfl (by kernel_rfl) (by kernel_rfl) (by kernel_rfl) (fun _ _ _ h => h) (Or.inl ⟨by rfl, ?hyrtl2⟩) hHeld ?_
        case hyrtl2 => (intro w hSw; go_simp; try with_reducible rfl)
        simp only [Act.put, List.setIfInBounds_toArray, List.set_cons_zero, List.set_cons_succ, List.getElem_toArray, List.getElem_cons_zero, List.getElem_cons_succ]
        refine wpAnyH_take (i := 3) (v := undef) rfl (by kernel_rfl) (by kernel_rfl) (by kernel_rfl) (fun _ _ _ h => h) (Or.inr ⟨by rfl, rfl⟩) hHeld ?_
        simp only [Act.put, List.setIfInBounds_toArray, List.set_cons_zero, List.set_cons_succ, List.getElem_toArray, List.getElem_cons_zero, List.getElem_cons_succ]
        refine wpAnyH_take (i := 4) (v := undef) rfl (by kernel_rfl) (by kernel_rfl) (by kernel_rfl) (fun _ _ _ h => h) (Or.inr ⟨by rfl, rfl⟩) hHeld ?_
        simp only [Act.put, List.setIfInBounds_toArray, List.set_cons_zero, List.set_cons_succ, List.getElem_toArray, List.getElem_cons_zero, List.getElem_cons_succ]
        refine wpAnyH_take (i := 5) (v := undef) rfl (by kernel_rfl) (by kernel_rfl) (by kernel_rfl) (fun _ _ _ h => h) (Or.inr ⟨by rfl, rfl⟩) hHeld ?_
        simp only [Act.put, List.setIfInBounds_toArray, List.set_cons_zero, List.set_cons_succ, List.getElem_toArray, List.getElem_cons_zero, List.getElem_cons_succ]
        refine wpAnyH_take (i := 6) (v := undef) rfl (by kernel_rfl) (by kernel_rfl) (by kernel_rfl) (fun _ _ _ h => h) (Or.inr ⟨by rfl, rfl⟩) hHeld ?_
        simp only [Act.put, List.setIfInBounds_toArray, List.set_cons_zero, List.set_cons_succ, List.getElem_toArray, List.getElem_cons_zero, List.getElem_cons_succ]
        refine wpAnyH_take (i := 7) (v := undef) rfl (by kernel_rfl) (by kernel_rfl) (by kernel_rfl) (fun _ _ _ h => h) (Or.inr ⟨by rfl, rfl⟩) hHeld ?_
        simp only [Act.put, List.setIfInBounds_toArray, List.set_cons_zero, List.set_cons_succ, List.getElem_toArray, List.getElem_cons_zero, List.getElem_cons_succ]
        refine wpAnyH_take (i := 8) (v := undef) rfl (by kernel_rfl) (by kernel_rfl) (by kernel_rfl) (fun _ _ _ h => h) (Or.inr ⟨by rfl, rfl⟩) hHeld ?_
        simp only [Act.put, List.setIfInBounds_toArray, List.set_cons_zero, List.set_cons_succ, List.getElem_toArray, List.getElem_cons_zero, List.getElem_cons_succ]
        refine wpAnyH_take (i := 9) (v := undef) rfl (by kernel_rfl) (by kernel_rfl) (by kernel_rfl) (fun _ _ _ h => h) (Or.inr ⟨by rfl, rfl⟩) hHeld ?_
        simp only [Act.put, List.setIfInBounds_toArray, List.set_cons_zero, List.set_cons_succ, List.getElem_toArray, List.getElem_cons_zero, List.getElem_cons_succ]
        refine wpAnyH_take (i := 10) (v := undef) rfl (by kernel_rfl) (by kernel_rfl) (by kernel_rfl) (fun _ _ _ h => h) (Or.inr ⟨by rfl, rfl⟩) hHeld ?_
        simp only [Act.put, List.setIfInBounds_toArray, List.set_cons_zero, List.set_cons_succ, List.getElem_toArray, List.getElem_cons_zero, List.getElem_cons_succ]
        refine wpAnyH_take (i := 11) (v := ?vrtl11) rfl (by kernel_rfl) (by kernel_rfl) (by kernel_rfl) (fun _ _ _ h => h) (Or.inl ⟨by rfl, ?hyrtl11⟩) hHeld ?_
        case hyrtl11 => (intro w hSw; go_simp; try with_reducible rfl)
        simp only [Act.put, List.setIfInBounds_toArray, List.set_cons_zero, List.set_cons_succ, List.getElem_toArray, List.getElem_cons_zero, List.getElem_cons_succ]
        refine wpAnyH_done (by kernel_rfl) ?_ _
        refine NoPanic.normal ?_
        have own2' := ownsRow_ext HOW.out xd
        have X2 := xr.trans xd
        obtain ⟨w2, rfl⟩ : ∃ x, x = wd := ⟨_, rfl⟩
        go_upto_region 9 with fail
        have c2 : w2.cell? ⟨G, 0, none⟩ = some (.string x.path) := by rw [block_cell (X2.keeps HB0.out)]; rfl
        have f2 := (x1.trans X2).cell E0.out
        have KC2 := fun v (h : Ext w2 v) => h.cell c2
        have KE2 := fun v (h : Ext w2 v) => h.cell f2
        have HO2 := Lib.hid own2'
        clear own2'
        refine wp_forgetH (fun W => W = w2) rfl ?_
        rintro w2' rfl
        refine wp_region_S (fun v => Ext w2' v) (by kernel_rfl) (fun w' h => h) fun wd hqd xd hHeld => ?_
        refine wpAnyH_take (i := 0) (v := ?vrtln0) rfl (by kernel_rfl) (by kernel_rfl) (by kernel_rfl) (fun _ _ _ h => h) (Or.inl ⟨by rfl, ?hyrtln0⟩) hHeld ?_
        case hyrtln0 => (intro w hSw; go_simp; try with_reducible rfl)
        simp only [Act.put, List.setIfInBounds_toArray, List.set_cons_zero, List.set_cons_succ, List.getElem_toArray, List.getElem_cons_zero, List.getElem_cons_succ]
        refine wpAnyH_take (i := 1) (v := ?vrtln1) rfl (by kernel_rfl) (by kernel_rfl) (by kernel_rfl) (fun _ _ _ h => h) (Or.inl ⟨by rfl, ?hyrtln1⟩) hHeld ?_
        case hyrtln1 => (intro w hSw; go_simp; try with_reducible rfl)
        simp only [Act.put, List.setIfInBounds_toArray, List.set_cons_zero, List.set_cons_succ, List.getElem_toArray, List.getElem_cons_zero, List.getElem_cons_succ]
        refine wpAnyH_take (i := 2) (v := ?vrtln2) rfl (by kernel_rfl) (by kernel_rfl) (by kernel_rfl) (fun _ _ _ h => h) (Or.inl ⟨by rfl, ?hyrtln2⟩) hHeld ?_
        case hyrtln2 => (intro w hSw; go_simp; try with_reducible rfl)
        simp only [Act.put, List.setIfInBounds_toArray, List.set_cons_zero, List.set_cons_succ, List.getElem_toArray, List.getElem_cons_zero, List.getElem_cons_succ]
        refine wpAnyH_take (i := 3) (v := ?vrtln3) rfl (by kernel_rfl) (by kernel_rfl) (by kernel_rfl) (fun _ _ _ h => h) (Or.inl ⟨by rfl, ?hyrtln3⟩) hHeld ?_
        case hyrtln3 => (intro w hSw; go_simp; try with_reducible rfl)
        simp only [Act.put, List.setIfInBounds_toArray, List.set_cons_zero, List.set_cons_succ, List.getElem_toArray, List.getElem_cons_zero, List.getElem_cons_succ]
        refine wpAnyH_take (i := 4) (v := ?vrtln4) rfl (by kernel_rfl) (by kernel_rfl) (by kernel_rfl) (fun _ _ _ h => h) (Or.inl ⟨by rfl, ?hyrtln4⟩) hHeld ?_
        case hyrtln4 => (intro w hSw; have kk := KE2 _ hSw; go_simp; try with_reducible rfl)
        simp only [Act.put, List.setIfInBounds_toArray, List.set_cons_zero, List.set_cons_succ, List.getElem_toArray, List.getElem_cons_zero, List.getElem_cons_succ]
        refine wpAnyH_take (i := 5) (v := ?vrtln5) rfl (by kernel_rfl) (by kernel_rfl) (by kernel_rfl) (fun _ _ _ h => h) (Or.inl ⟨by rfl, ?hyrtln5⟩) hHeld ?_
        case hyrtln5 => (intro w hSw; go_simp; try with_reducible rfl)
        simp only [Act.put, List.setIfInBounds_toArray, List.set_cons_zero, List.set_cons_succ, List.getElem_toArray, List.getElem_cons_zero, List.getElem_cons_succ]
        refine wpAnyH_take (i := 6) (v := ?vrtln6) rfl (by kernel_rfl) (by kernel_rfl) (by kernel_rfl) (fun _ _ _ h => h) (Or.inl ⟨by rfl, ?hyrtln6⟩) hHeld ?_
        case hyrtln6 => (intro w hSw; have kk := KC2 _ hSw; go_simp; try with_reducible rfl)
        simp only [Act.put, List.setIfInBounds_toArray, List.set_cons_zero, List.set_cons_succ, List.getElem_toArray, List.getElem_cons_zero, List.getElem_cons_succ]
        refine wpAnyH_take (i := 7) (v := ?vrtln7) rfl (by kernel_rfl) (by kernel_rfl) (by kernel_rfl) (fun _ _ _ h => h) (Or.inl ⟨by rfl, ?hyrtln7⟩) hHeld ?_
        case hyrtln7 => (intro w hSw; have kk := hneb; go_simp; try with_reducible rfl)
        simp only [Act.put, List.setIfInBounds_toArray, List.set_cons_zero, List.set_cons_succ, List.getElem_toArray, List.getElem_cons_zero, List.getElem_cons_succ]
        refine wpAnyH_done (by kernel_rfl) ?_ _
        refine NoPanic.normal ?_
        have X3 := X2.trans xd
        have e0d := (x1.trans X3).cell E0.out
        have e1d := (x1.trans X3).cell E1.out
        have xb3 : Ext wd (wd.alloc (.cells (flC f).toArray 66)) := (Ext.refl _).alloc _
        have HBN3 := Lib.hid (heap_alloc_new wd (.cells (flC f).toArray 66))
        have HOB3 := Lib.hid (ownsRow_ext (ownsRow_ext HO2.out xd) xb3)
        have hsb3 : w1.heap.size ≤ (wd.alloc (.cells (flC f).toArray 66)).heap.size := by have := xb3.size; have := (X3).size; omega
        go_wp2_with (first | ((with_reducible refine at_build1 22 (.tmp 42) ?_); refine wpl_buildOne (by rfl) 22 (.tmp 42) rfl (flC f) (by rfl) (build_fl _ _) ?_) | (at_builtin; refine wpl_appAt tyF (by rfl) (.tmp 38) (.tmp 43) rfl w1.heap.size _ _ _ HOB3.out (by rfl) wd.heap.size (flC f) (0, 0) HBN3.out rfl (by rfl) (flC_one1 _) (by first | omega | (simp; omega)) (by first | omega | (simp; omega)) hsb3 ?_; intro v4 w4 own4 gr4 at4))
        have X4 : Ext w1 w4 := ((X3).trans xb3).grown gr4 (fun k hk => (HOB3.out.lt k hk).1)
        have own4' : w4.ownsRow w1.heap.size 66 2 v4 (fs ++ [f]).length ((fs ++ [f]).flatMap flC) := by rw [List.length_append, List.flatMap_append]; simpa using own4
        have HOF := Lib.hid own4'
        have hws : withS x (fs, true) f = (fs ++ [f], true) := by unfold withS; rw [if_neg hne, if_neg (fun h => by rw [hle] at h; cases h.2)]
        have HWS := Lib.hid hws
        clear hws
        go_roundg (l.length - (j + 1))
        case measure => omega
        case rel =>
          refine ⟨j + 1, fs ++ [f], true, by omega, by omega, by go_num, rfl, (by rw [HS2.out]; exact HWS.out), HOF.out, (by first | omega | (simp; omega)), fun g hg => ?_, X4⟩
          rcases withS_mem (x := x) (f := f) (a := (fs, true)) (by rw [HWS.out]; exact hg) with q | rfl | rfl
          · exact HOK.out g q
          · exact HXK.out
          · exact HFO.out
      | false =>
        refine wp_region_S (fun v => Ext wr v) (by kernel_rfl) (fun w' h => h) fun wd hqd xd hHeld => ?_
        refine wpAnyH_take (i := 0) (v := ?vrfl0) rfl (by kernel_rfl) (by kernel_rfl) (by kernel_rfl) (fun _ _ _ h => h) (Or.inl ⟨by rfl, ?hyrfl0⟩) hHeld ?_
        case hyrfl0 => (intro w hSw; go_simp; try with_reducible rfl)
        simp only [Act.put, List.setIfInBounds_toArray, List.set_cons_zero, List.set_cons_succ, List.getElem_toArray, List.getElem_cons_zero, List.getElem_cons_succ]
        refine wpAnyH_take (i := 1) (v := ?vrfl1) rfl (by kernel_rfl) (by kernel_rfl) (by kernel_rfl) (fun _ _ _ h => h) (Or.inl ⟨by rfl, ?hyrfl1⟩) hHeld ?_
        case hyrfl1 => (intro w hSw; go_simp; try with_reducible rfl)
        simp only [Act.put, List.setIfInBounds_toArray, List.set_cons_zero, List.set_cons_succ, List.getElem_toArray, List.getElem_cons_zero, List.getElem_cons_succ]
        refine wpAnyH_take (i := 2) (v := ?vrfl2) rfl (by kernel_rfl) (by kernel_rfl) (by kernel_rfl) (fun _ _ _ h => h) (Or.inl ⟨by rfl, ?hyrfl2⟩) hHeld ?_
        case hyrfl2 => (intro w hSw; go_simp; try with_reducible rfl)
        simp only [Act.put, List.setIfInBounds_toArray, List.set_cons_zero, List.set_cons_succ, List.getElem_toArray, List.getElem_cons_zero, List.getElem_cons_succ]
        refine wpAnyH_take (i := 3) (v := ?vrfl3) rfl (by kernel_rfl) (by kernel_rfl) (by kernel_rfl) (fun _ _ _ h => h) (Or.inl ⟨by rfl, ?hyrfl3⟩) hHeld ?_
        case hyrfl3 => (intro w hSw; go_simp; try with_reducible rfl)
        simp only [Act.put, List.setIfInBounds_toArray, List.set_cons_zero, List.set_cons_succ, List.getElem_toArray, List.getElem_cons_zero, List.getElem_cons_succ]
        refine wpAnyH_take (i := 4) (v := ?vrfl4) rfl (by kernel_rfl) (by kernel_rfl) (by kernel_rfl) (fun _ _ _ h => h) (Or.inl ⟨by rfl, ?hyrfl4⟩) hHeld ?_
        case hyrfl4 => (intro w hSw; have kk := KC0 _ hSw; go_simp; try with_reducible rfl)
        simp only [Act.put, List.setIfInBounds_toArray, List.set_cons_zero, List.set_cons_succ, List.getElem_toArray, List.getElem_cons_zero, List.getElem_cons_succ]
        refine wpAnyH_take (i := 5) (v := ?vrfl5) rfl (by kernel_rfl) (by kernel_rfl) (by kernel_rfl) (fun _ _ _ h => h) (Or.inl ⟨by rfl, ?hyrfl5⟩) hHeld ?_
        case hyrfl5 => (intro w hSw; go_simp; try with_reducible rfl)
        simp only [Act.put, List.setIfInBounds_toArray, List.set_cons_zero, List.set_cons_succ, List.getElem_toArray, List.getElem_cons_zero, List.getElem_cons_succ]
        refine wpAnyH_take (i := 6) (v := ?vrfl6) rfl (by kernel_rfl) (by kernel_rfl) (by kernel_rfl) (fun _ _ _ h => h) (Or.inl ⟨by rfl, ?hyrfl6⟩) hHeld ?_
        case hyrfl6 => (intro w hSw; go_simp; try with_reducible rfl)
        simp only [Act.put, List.setIfInBounds_toArray, List.set_cons_zero, List.set_cons_succ, List.getElem_toArray, List.getElem_cons_zero, List.getElem_cons_succ]
        refine wpAnyH_take (i := 7) (v := ?vrfl7) rfl (by kernel_rfl) (by kernel_rfl) (by kernel_rfl) (fun _ _ _ h => h) (Or.inl ⟨by rfl, ?hyrfl7⟩) hHeld ?_
        case hyrfl7 => (intro w hSw; go_simp; try with_reducible rfl)
        simp only [Act.put, List.setIfInBounds_toArray, List.set_cons_zero, List.set_cons_succ, List.getElem_toArray, List.getElem_cons_zero, List.getElem_cons_succ]
        refine wpAnyH_take (i := 8) (v := ?vrfl8) rfl (by kernel_rfl) (by kernel_rfl) (by kernel_rfl) (fun _ _ _ h => h) (Or.inl ⟨by rfl, ?hyrfl8⟩) hHeld ?_
        case hyrfl8 => (intro w hSw; go_simp; try with_reducible rfl)
        simp only [Act.put, List.setIfInBounds_toArray, List.set_cons_zero, List.set_cons_succ, List.getElem_toArray, List.getElem_cons_zero, List.getElem_cons_succ]
        refine wpAnyH_take (i := 9) (v := ?vrfl9) rfl (by kernel_rfl) (by kernel_rfl) (by kernel_rfl) (fun _ _ _ h => h) (Or.inl ⟨by rfl, ?hyrfl9⟩) hHeld ?_
        case hyrfl9 => (intro w hSw; have kk := KE0 _ hSw; go_simp; try with_reducible rfl)
        simp only [Act.put, List.setIfInBounds_toArray, List.set_cons_zero, List.set_cons_succ, List.getElem_toArray, List.getElem_cons_zero, List.getElem_cons_succ]
        refine wpAnyH_take (i := 10) (v := ?vrfl10) rfl (by kernel_rfl) (by kernel_rfl) (by kernel_rfl) (fun _ _ _ h => h) (Or.inl ⟨by rfl, ?hyrfl10⟩) hHeld ?_
        case hyrfl10 => (intro w hSw; have kk := hleq; go_simp; try with_reducible rfl)
        simp only [Act.put, List.setIfInBounds_toArray, List.set_cons_zero, List.set_cons_succ, List.getElem_toArray, List.getElem_cons_zero, List.getElem_cons_succ]
        refine wpAnyH_take (i := 11) (v := ?vrfl11) rfl (by kernel_rfl) (by kernel_rfl) (by kernel_rfl) (fun _ _ _ h => h) (Or.inl ⟨by rfl, ?hyrfl11⟩) hHeld ?_
        case hyrfl11 => (intro w hSw; go_simp; try with_reducible rfl)
        simp only [Act.put, List.setIfInBounds_toArray, List.set_cons_zero, List.set_cons_succ, List.getElem_toArray, List.getElem_cons_zero, List.getElem_cons_succ]
        refine wpAnyH_done (by kernel_rfl) ?_ _
        refine NoPanic.normal ?_
        have own2' := ownsRow_ext HOW.out xd
        have X2 := xr.trans xd
        obtain ⟨w2, rfl⟩ : ∃ x, x = wd := ⟨_, rfl⟩
        go_upto_region 9 with fail
        have c2 : w2.cell? ⟨G, 0, none⟩ = some (.string x.path) := by rw [block_cell (X2.keeps HB0.out)]; rfl
        have f2 := (x1.trans X2).cell E0.out
        have KC2 := fun v (h : Ext w2 v) => h.cell c2
        have KE2 := fun v (h : Ext w2 v) => h.cell f2
        have HO2 := Lib.hid own2'
        clear own2'
        refine wp_forgetH (fun W => W = w2) rfl ?_
        rintro w2' rfl
        refine wp_region_S (fun v => Ext w2' v) (by kernel_rfl) (fun w' h => h) fun wd hqd xd hHeld => ?_
        refine wpAnyH_take (i := 0) (v := ?vrfln0) rfl (by kernel_rfl) (by kernel_rfl) (by kernel_rfl) (fun _ _ _ h => h) (Or.inl ⟨by rfl, ?hyrfln0⟩) hHeld ?_
        case hyrfln0 => (intro w hSw; go_simp; try with_reducible rfl)
        simp only [Act.put, List.setIfInBounds_toArray, List.set_cons_zero, List.set_cons_succ, List.getElem_toArray, List.getElem_cons_zero, List.getElem_cons_succ]
        refine wpAnyH_take (i := 1) (v := ?vrfln1) rfl (by kernel_rfl) (by kernel_rfl) (by kernel_rfl) (fun _ _ _ h => h) (Or.inl ⟨by rfl, ?hyrfln1⟩) hHeld ?_
        case hyrfln1 => (intro w hSw; go_simp; try with_reducible rfl)
        simp only [Act.put, List.setIfInBounds_toArray, List.set_cons_zero, List.set_cons_succ, List.getElem_toArray, List.getElem_cons_zero, List.getElem_cons_succ]
        refine wpAnyH_take (i := 2) (v := ?vrfln2) rfl (by kernel_rfl) (by kernel_rfl) (by kernel_rfl) (fun _ _ _ h => h) (Or.inl ⟨by rfl, ?hyrfln2⟩) hHeld ?_
        case hyrfln2 => (intro w hSw; go_simp; try with_reducible rfl)
        simp only [Act.put, List.setIfInBounds_toArray, List.set_cons_zero, List.set_cons_succ, List.getElem_toArray, List.getElem_cons_zero, List.getElem_cons_succ]
        refine wpAnyH_take (i := 3) (v := ?vrfln3) rfl (by kernel_rfl) (by kernel_rfl) (by kernel_rfl) (fun _ _ _ h => h) (Or.inl ⟨by rfl, ?hyrfln3⟩) hHeld ?_
        case hyrfln3 => (intro w hSw; go_simp; try with_reducible rfl)
        simp only [Act.put, List.setIfInBounds_toArray, List.set_cons_zero, List.set_cons_succ, List.getElem_toArray, List.getElem_cons_zero, List.getElem_cons_succ]
        refine wpAnyH_take (i := 4) (v := ?vrfln4) rfl (by kernel_rfl) (by kernel_rfl) (by kernel_rfl) (fun _ _ _ h => h) (Or.inl ⟨by rfl, ?hyrfln4⟩) hHeld ?_
        case hyrfln4 => (intro w hSw; have kk := KE2 _ hSw; go_simp; try with_reducible rfl)
        simp only [Act.put, List.setIfInBounds_toArray, List.set_cons_zero, List.set_cons_succ, List.getElem_toArray, List.getElem_cons_zero, List.getElem_cons_succ]
        refine wpAnyH_take (i := 5) (v := ?vrfln5) rfl (by kernel_rfl) (by kernel_rfl) (by kernel_rfl) (fun _ _ _ h => h) (Or.inl ⟨by rfl, ?hyrfln5⟩) hHeld ?_
        case hyrfln5 => (intro w hSw; go_simp; try with_reducible rfl)
        simp only [Act.put, List.setIfInBounds_toArray, List.set_cons_zero, List.set_cons_succ, List.getElem_toArray, List.getElem_cons_zero, List.getElem_cons_succ]
        refine wpAnyH_take (i := 6) (v := ?vrfln6) rfl (by kernel_rfl) (by kernel_rfl) (by kernel_rfl) (fun _ _ _ h => h) (Or.inl ⟨by rfl, ?hyrfln6⟩) hHeld ?_
        case hyrfln6 => (intro w hSw; have kk := KC2 _ hSw; go_simp; try with_reducible rfl)
        simp only [Act.put, List.setIfInBounds_toArray, List.set_cons_zero, List.set_cons_succ, List.getElem_toArray, List.getElem_cons_zero, List.getElem_cons_succ]
        refine wpAnyH_take (i := 7) (v := ?vrfln7) rfl (by kernel_rfl) (by kernel_rfl) (by kernel_rfl) (fun _ _ _ h => h) (Or.inl ⟨by rfl, ?hyrfln7⟩) hHeld ?_
        case hyrfln7 => (intro w hSw; have kk := hneb; go_simp; try with_reducible rfl)
        simp only [Act.put, List.setIfInBounds_toArray, List.set_cons_zero, List.set_cons_succ, List.getElem_toArray, List.getElem_cons_zero, List.getElem_cons_succ]
        refine wpAnyH_done (by kernel_rfl) ?_ _
        refine NoPanic.normal ?_
        have X3 := X2.trans xd
        have e0d := (x1.trans X3).cell E0.out
        have e1d := (x1.trans X3).cell E1.out
        have xb3 : Ext wd (wd.alloc (.cells (flC f).toArray 66)) := (Ext.refl _).alloc _
        have HBN3 := Lib.hid (heap_alloc_new wd (.cells (flC f).toArray 66))
        have HOB3 := Lib.hid (ownsRow_ext (ownsRow_ext HO2.out xd) xb3)
        have hsb3 : w1.heap.size ≤ (wd.alloc (.cells (flC f).toArray 66)).heap.size := by have := xb3.size; have := (X3).size; omega
        go_wp2_with (first | ((with_reducible refine at_build1 22 (.tmp 42) ?_); refine wpl_buildOne (by rfl) 22 (.tmp 42) rfl (flC f) (by rfl) (build_fl _ _) ?_) | (at_builtin; refine wpl_appAt tyF (by rfl) (.tmp 38) (.tmp 43) rfl w1.heap.size _ _ _ HOB3.out (by rfl) wd.heap.size (flC f) (0, 0) HBN3.out rfl (by rfl) (flC_one1 _) (by first | omega | (simp; omega)) (by first | omega | (simp; omega)) hsb3 ?_; intro v4 w4 own4 gr4 at4))
        have X4 : Ext w1 w4 := ((X3).trans xb3).grown gr4 (fun k hk => (HOB3.out.lt k hk).1)
        have own4' : w4.ownsRow w1.heap.size 66 2 v4 (fs ++ [f]).length ((fs ++ [f]).flatMap flC) := by rw [List.length_append, List.flatMap_append]; simpa using own4
        have HOF := Lib.hid own4'
        have hws : withS x (fs, false) f = (fs ++ [f], false) := by unfold withS; rw [if_neg hne, if_neg (fun h => by rw [hle] at h; cases h.2)]
        have HWS := Lib.hid hws
        clear hws
        go_roundg (l.length - (j + 1))
        case measure => omega
        case rel =>
          refine ⟨j + 1, fs ++ [f], false, by omega, by omega, by go_num, rfl, (by rw [HS2.out]; exact HWS.out), HOF.out, (by first | omega | (simp; omega)), fun g hg => ?_, X4⟩
          rcases withS_mem (x := x) (f := f) (a := (fs, false)) (by rw [HWS.out]; exact hg) with q | rfl | rfl
          · exact HOK.out g q
          · exact HXK.out
          · exact HFO.out
    | false =>
      have hleq : (Op.bytesLess x.path.toList f.path.toList || x.path.toList == f.path.toList) = true := by rw [bl_not, hle]; rfl
      by_cases hne : f.path = x.path
      · have hneb : (f.path.toList == x.path.toList) = true := beq_path.2 hne
        cases pt with
        | true =>
          refine wp_region_S (fun v => Ext wr v) (by kernel_rfl) (fun w' h => h) fun wd hqd xd hHeld => ?_
          refine wpAnyH_take (i := 0) (v := ?vrte0) rfl (by kernel_rfl) (by kernel_rfl) (by kernel_rfl) (fun _ _ _ h => h) (Or.inl ⟨by rfl, ?hyrte0⟩) hHeld ?_
          case hyrte0 => (intro w hSw; go_simp; try with_reducible rfl)
          simp only [Act.put, List.setIfInBounds_toArray, List.set_cons_zero, List.set_cons_succ, List.getElem_toArray, List.getElem_cons_zero, List.getElem_cons_succ]
          refine wpAnyH_take (i := 1) (v := ?vrte1) rfl (by kernel_rfl) (by kernel_rfl) (by kernel_rfl) (fun _ _ _ h => h) (Or.inl ⟨by rfl, ?hyrte1⟩) hHeld ?_
          case hyrte1 => (intro w hSw; go_simp; try with_reducible rfl)
          simp only [Act.put, List.setIfInBounds_toArray, List.set_cons_zero, List.set_cons_succ, List.getElem_toArray, List.getElem_cons_zero, List.getElem_cons_succ]
          refine wpAnyH_take (i := 2) (v := ?vrte2) rfl (by kernel_rfl) (by kernel_rfl) (by kernel_rfl) (fun _ _ _ h => h) (Or.inl ⟨by rfl, ?hyrte2⟩) hHeld ?_
          case hyrte2 => (intro w hSw; go_simp; try with_reducible rfl)
          simp only [Act.put, List.setIfInBounds_toArray, List.set_cons_zero, List.set_cons_succ, List.getElem_toArray, List.getElem_cons_zero, List.getElem_cons_succ]
          refine wpAnyH_take (i := 3) (v := undef) rfl (by kernel_rfl) (by kernel_rfl) (by kernel_rfl) (fun _ _ _ h => h) (Or.inr ⟨by rfl, rfl⟩) hHeld ?_
          simp only [Act.put, List.setIfInBounds_toArray, List.set_cons_zero, List.set_cons_succ, List.getElem_toArray, List.getElem_cons_zero, List.getElem_cons_succ]
          refine wpAnyH_take (i := 4) (v := undef) rfl (by kernel_rfl) (by kernel_rfl) (by kernel_rfl) (fun _ _ _ h => h) (Or.inr ⟨by rfl, rfl⟩) hHeld ?_
          simp only [Act.put, List.setIfInBounds_toArray, List.set_cons_zero, List.set_cons_succ, List.getElem_toArray, List.getElem_cons_zero, List.getElem_cons_succ]
          refine wpAnyH_take (i := 5) (v := undef) rfl (by kernel_rfl) (by kernel_rfl) (by kernel_rfl) (fun _ _ _ h => h) (Or.inr ⟨by rfl, rfl⟩) hHeld ?_
          simp only [Act.put, List.setIfInBounds_toArray, List.set_cons_zero, List.set_cons_succ, List.getElem_toArray, List.getElem_cons_zero, List.getElem_cons_succ]
          refine wpAnyH_take (i := 6) (v := undef) rfl (by kernel_rfl) (by kernel_rfl) (by kernel_rfl) (fun _ _ _ h => h) (Or.inr ⟨by rfl, rfl⟩) hHeld ?_
          simp only [Act.put, List.setIfInBounds_toArray, List.set_cons_zero, List.set_cons_succ, List.getElem_toArray, List.getElem_cons_zero, List.getElem_cons_succ]
          refine wpAnyH_take (i := 7) (v := undef) rfl (by kernel_rfl) (by kernel_rfl) (by kernel_rfl) (fun _ _ _ h => h) (Or.inr ⟨by rfl, rfl⟩) hHeld ?_
          simp only [Act.put, List.setIfInBounds_toArray, List.set_cons_zero, List.set_cons_succ, List.getElem_toArray, List.getElem_cons_zero, List.getElem_cons_succ]
          refine wpAnyH_take (i := 8) (v := undef) rfl (by kernel_rfl) (by kernel_rfl) (by kernel_rfl) (fun _ _ _ h => h) (Or.inr ⟨by rfl, rfl⟩) hHeld ?_
          simp only [Act.put, List.setIfInBounds_toArray, List.set_cons_zero, List.set_cons_succ, List.getElem_toArray, List.getElem_cons_zero, List.getElem_cons_succ]
          refine wpAnyH_take (i := 9) (v := undef) rfl (by kernel_rfl) (by kernel_rfl) (by kernel_rfl) (fun _ _ _ h => h) (Or.inr ⟨by rfl, rfl⟩) hHeld ?_
          simp only [Act.put, List.setIfInBounds_toArray, List.set_cons_zero, List.set_cons_succ, List.getElem_toArray, List.getElem_cons_zero, List.getElem_cons_succ]
          refine wpAnyH_take (i := 10) (v := undef) rfl (by kernel_rfl) (by kernel_rfl) (by kernel_rfl) (fun _ _ _ h => h) (Or.inr ⟨by rfl, rfl⟩) hHeld ?_
          simp only [Act.put, List.setIfInBounds_toArray, List.set_cons_zero, List.set_cons_succ, List.getElem_toArray, List.getElem_cons_zero, List.getElem_cons_succ]
          refine wpAnyH_take (i := 11) (v := ?vrte11) rfl (by kernel_rfl) (by kernel_rfl) (by kernel_rfl) (fun _ _ _ h => h) (Or.inl ⟨by rfl, ?hyrte11⟩) hHeld ?_
          case hyrte11 => (intro w hSw; go_simp; try with_reducible rfl)
          simp only [Act.put, List.setIfInBounds_toArray, List.set_cons_zero, List.set_cons_succ, List.getElem_toArray, List.getElem_cons_zero, List.getElem_cons_succ]
          refine wpAnyH_done (by kernel_rfl) ?_ _
          refine NoPanic.normal ?_
          have own2' := ownsRow_ext HOW.out xd
          have X2 := xr.trans xd
          obtain ⟨w2, rfl⟩ : ∃ x, x = wd := ⟨_, rfl⟩
          go_upto_region 9 with fail
          have c2 : w2.cell? ⟨G, 0, none⟩ = some (.string x.path) := by rw [block_cell (X2.keeps HB0.out)]; rfl
          have f2 := (x1.trans X2).cell E0.out
          have KC2 := fun v (h : Ext w2 v) => h.cell c2
          have KE2 := fun v (h : Ext w2 v) => h.cell f2
          have HO2 := Lib.hid own2'
          clear own2'
          refine wp_forgetH (fun W => W = w2) rfl ?_
          rintro w2' rfl
          refine wp_region_S (fun v => Ext w2' v) (by kernel_rfl) (fun w' h => h) fun wd hqd xd hHeld => ?_
          refine wpAnyH_take (i := 0) (v := ?vrten0) rfl (by kernel_rfl) (by kernel_rfl) (by kernel_rfl) (fun _ _ _ h => h) (Or.inl ⟨by rfl, ?hyrten0⟩) hHeld ?_
          case hyrten0 => (intro w hSw; go_simp; try with_reducible rfl)
          simp only [Act.put, List.setIfInBounds_toArray, List.set_cons_zero, List.set_cons_succ, List.getElem_toArray, List.getElem_cons_zero, List.getElem_cons_succ]
          refine wpAnyH_take (i := 1) (v := ?vrten1) rfl (by kernel_rfl) (by kernel_rfl) (by kernel_rfl) (fun _ _ _ h => h) (Or.inl ⟨by rfl, ?hyrten1⟩) hHeld ?_
          case hyrten1 => (intro w hSw; go_simp; try with_reducible rfl)
          simp only [Act.put, List.setIfInBounds_toArray, List.set_cons_zero, List.set_cons_succ, List.getElem_toArray, List.getElem_cons_zero, List.getElem_cons_succ]
          refine wpAnyH_take (i := 2) (v := ?vrten2) rfl (by kernel_rfl) (by kernel_rfl) (by kernel_rfl) (fun _ _ _ h => h) (Or.inl ⟨by rfl, ?hyrten2⟩) hHeld ?_
          case hyrten2 => (intro w hSw; go_simp; try with_reducible rfl)
          simp only [Act.put, List.setIfInBounds_toArray, List.set_cons_zero, List.set_cons_succ, List.getElem_toArray, List.getElem_cons_zero, List.getElem_cons_succ]
          refine wpAnyH_take (i := 3) (v := ?vrten3) rfl (by kernel_rfl) (by kernel_rfl) (by kernel_rfl) (fun _ _ _ h => h) (Or.inl ⟨by rfl, ?hyrten3⟩) hHeld ?_
          case hyrten3 => (intro w hSw; go_simp; try with_reducible rfl)
          simp only [Act.put, List.setIfInBounds_toArray, List.set_cons_zero, List.set_cons_succ, List.getElem_toArray, List.getElem_cons_zero, List.getElem_cons_succ]
          refine wpAnyH_take (i := 4) (v := ?vrten4) rfl (by kernel_rfl) (by kernel_rfl) (by kernel_rfl) (fun _ _ _ h => h) (Or.inl ⟨by rfl, ?hyrten4⟩) hHeld ?_
          case hyrten4 => (intro w hSw; have kk := KE2 _ hSw; go_simp; try with_reducible rfl)
          simp only [Act.put, List.setIfInBounds_toArray, List.set_cons_zero, List.set_cons_succ, List.getElem_toArray, List.getElem_cons_zero, List.getElem_cons_succ]
          refine wpAnyH_take (i := 5) (v := ?vrten5) rfl (by kernel_rfl) (by kernel_rfl) (by kernel_rfl) (fun _ _ _ h => h) (Or.inl ⟨by rfl, ?hyrten5⟩) hHeld ?_
          case hyrten5 => (intro w hSw; go_simp; try with_reducible rfl)
          simp only [Act.put, List.setIfInBounds_toArray, List.set_cons_zero, List.set_cons_succ, List.getElem_toArray, List.getElem_cons_zero, List.getElem_cons_succ]
          refine wpAnyH_take (i := 6) (v := ?vrten6) rfl (by kernel_rfl) (by kernel_rfl) (by kernel_rfl) (fun _ _ _ h => h) (Or.inl ⟨by rfl, ?hyrten6⟩) hHeld ?_
          case hyrten6 => (intro w hSw; have kk := KC2 _ hSw; go_simp; try with_reducible rfl)
          simp only [Act.put, List.setIfInBounds_toArray, List.set_cons_zero, List.set_cons_succ, List.getElem_toArray, List.getElem_cons_zero, List.getElem_cons_succ]
          refine wpAnyH_take (i := 7) (v := ?vrten7) rfl (by kernel_rfl) (by kernel_rfl) (by kernel_rfl) (fun _ _ _ h => h) (Or.inl ⟨by rfl, ?hyrten7⟩) hHeld ?_
          case hyrten7 => (intro w hSw; have kk := hneb; go_simp; try with_reducible rfl)
          simp only [Act.put, List.setIfInBounds_toArray, List.set_cons_zero, List.set_cons_succ, List.getElem_toArray, List.getElem_cons_zero, List.getElem_cons_succ]
          refine wpAnyH_done (by kernel_rfl) ?_ _
          refine NoPanic.normal ?_
          have X3 := X2.trans xd
          have e0d := (x1.trans X3).cell E0.out
          have e1d := (x1.trans X3).cell E1.out
          have own4' := ownsRow_ext HO2.out xd
          have X4 := X3
          go_wp2_with fail
          have HOF := Lib.hid own4'
          have hws : withS x (fs, true) f = (fs, true) := by unfold withS; rw [if_pos hne, if_neg (fun h => by cases h.1)]
          have HWS := Lib.hid hws
          clear hws
          go_roundg (l.length - (j + 1))
          case measure => omega
          case rel =>
            refine ⟨j + 1, fs, true, by omega, by omega, by go_num, rfl, (by rw [HS2.out]; exact HWS.out), HOF.out, (by first | omega | (simp; omega)), fun g hg => ?_, X4⟩
            rcases withS_mem (x := x) (f := f) (a := (fs, true)) (by rw [HWS.out]; exact hg) with q | rfl | rfl
            · exact HOK.out g q
            · exact HXK.out
            · exact HFO.out
        | false =>
          refine wp_region_S (fun v => Ext wr v) (by kernel_rfl) (fun w' h => h) fun wd hqd xd hHeld => ?_
          refine wpAnyH_take (i := 0) (v := ?vrfe0) rfl (by kernel_rfl) (by kernel_rfl) (by kernel_rfl) (fun _ _ _ h => h) (Or.inl ⟨by rfl, ?hyrfe0⟩) hHeld ?_
          case hyrfe0 => (intro w hSw; go_simp; try with_reducible rfl)
          simp only [Act.put, List.setIfInBounds_toArray, List.set_cons_zero, List.set_cons_succ, List.getElem_toArray, List.getElem_cons_zero, List.getElem_cons_succ]
          refine wpAnyH_take (i := 1) (v := ?vrfe1) rfl (by kernel_rfl) (by kernel_rfl) (by kernel_rfl) (fun _ _ _ h => h) (Or.inl ⟨by rfl, ?hyrfe1⟩) hHeld ?_
          case hyrfe1 => (intro w hSw; go_simp; try with_reducible rfl)
          simp only [Act.put, List.setIfInBounds_toArray, List.set_cons_zero, List.set_cons_succ, List.getElem_toArray, List.getElem_cons_zero, List.getElem_cons_succ]
          refine wpAnyH_take (i := 2) (v := ?vrfe2) rfl (by kernel_rfl) (by kernel_rfl) (by kernel_rfl) (fun _ _ _ h => h) (Or.inl ⟨by rfl, ?hyrfe2⟩) hHeld ?_
          case hyrfe2 => (intro w hSw; go_simp; try with_reducible rfl)
          simp only [Act.put, List.setIfInBounds_toArray, List.set_cons_zero, List.set_cons_succ, List.getElem_toArray, List.getElem_cons_zero, List.getElem_cons_succ]
          refine wpAnyH_take (i := 3) (v := ?vrfe3) rfl (by kernel_rfl) (by kernel_rfl) (by kernel_rfl) (fun _ _ _ h => h) (Or.inl ⟨by rfl, ?hyrfe3⟩) hHeld ?_
          case hyrfe3 => (intro w hSw; go_simp; try with_reducible rfl)
          simp only [Act.put, List.setIfInBounds_toArray, List.set_cons_zero, List.set_cons_succ, List.getElem_toArray, List.getElem_cons_zero, List.getElem_cons_succ]
          refine wpAnyH_take (i := 4) (v := ?vrfe4) rfl (by kernel_rfl) (by kernel_rfl) (by kernel_rfl) (fun _ _ _ h => h) (Or.inl ⟨by rfl, ?hyrfe4⟩) hHeld ?_
          case hyrfe4 => (intro w hSw; have kk := KC0 _ hSw; go_simp; try with_reducible rfl)
          simp only [Act.put, List.setIfInBounds_toArray, List.set_cons_zero, List.set_cons_succ, List.getElem_toArray, List.getElem_cons_zero, List.getElem_cons_succ]
          refine wpAnyH_take (i := 5) (v := ?vrfe5) rfl (by kernel_rfl) (by kernel_rfl) (by kernel_rfl) (fun _ _ _ h => h) (Or.inl ⟨by rfl, ?hyrfe5⟩) hHeld ?_
          case hyrfe5 => (intro w hSw; go_simp; try with_reducible rfl)
          simp only [Act.put, List.setIfInBounds_toArray, List.set_cons_zero, List.set_cons_succ, List.getElem_toArray, List.getElem_cons_zero, List.getElem_cons_succ]
          refine wpAnyH_take (i := 6) (v := ?vrfe6) rfl (by kernel_rfl) (by kernel_rfl) (by kernel_rfl) (fun _ _ _ h => h) (Or.inl ⟨by rfl, ?hyrfe6⟩) hHeld ?_
          case hyrfe6 => (intro w hSw; go_simp; try with_reducible rfl)
          simp only [Act.put, List.setIfInBounds_toArray, List.set_cons_zero, List.set_cons_succ, List.getElem_toArray, List.getElem_cons_zero, List.getElem_cons_succ]
          refine wpAnyH_take (i := 7) (v := ?vrfe7) rfl (by kernel_rfl) (by kernel_rfl) (by kernel_rfl) (fun _ _ _ h => h) (Or.inl ⟨by rfl, ?hyrfe7⟩) hHeld ?_
          case hyrfe7 => (intro w hSw; go_simp; try with_reducible rfl)
          simp only [Act.put, List.setIfInBounds_toArray, List.set_cons_zero, List.set_cons_succ, List.getElem_toArray, List.getElem_cons_zero, List.getElem_cons_succ]
          refine wpAnyH_take (i := 8) (v := ?vrfe8) rfl (by kernel_rfl) (by kernel_rfl) (by kernel_rfl) (fun _ _ _ h => h) (Or.inl ⟨by rfl, ?hyrfe8⟩) hHeld ?_
          case hyrfe8 => (intro w hSw; go_simp; try with_reducible rfl)
          simp only [Act.put, List.setIfInBounds_toArray, List.set_cons_zero, List.set_cons_succ, List.getElem_toArray, List.getElem_cons_zero, List.getElem_cons_succ]
          refine wpAnyH_take (i := 9) (v := ?vrfe9) rfl (by kernel_rfl) (by kernel_rfl) (by kernel_rfl) (fun _ _ _ h => h) (Or.inl ⟨by rfl, ?hyrfe9⟩) hHeld ?_
          case hyrfe9 => (intro w hSw; have kk := KE0 _ hSw; go_simp; try with_reducible rfl)
          simp only [Act.put, List.setIfInBounds_toArray, List.set_cons_zero, List.set_cons_succ, List.getElem_toArray, List.getElem_cons_zero, List.getElem_cons_succ]
          refine wpAnyH_take (i := 10) (v := ?vrfe10) rfl (by kernel_rfl) (by kernel_rfl) (by kernel_rfl) (fun _ _ _ h => h) (Or.inl ⟨by rfl, ?hyrfe10⟩) hHeld ?_
          case hyrfe10 => (intro w hSw; have kk := hleq; go_simp; try with_reducible rfl)
          simp only [Act.put, List.setIfInBounds_toArray, List.set_cons_zero, List.set_cons_succ, List.getElem_toArray, List.getElem_cons_zero, List.getElem_cons_succ]
          refine wpAnyH_take (i := 11) (v := ?vrfe11) rfl (by kernel_rfl) (by kernel_rfl) (by kernel_rfl) (fun _ _ _ h => h) (Or.inl ⟨by rfl, ?hyrfe11⟩) hHeld ?_
          case hyrfe11 => (intro w hSw; go_simp; try with_reducible rfl)
          simp only [Act.put, List.setIfInBounds_toArray, List.set_cons_zero, List.set_cons_succ, List.getElem_toArray, List.getElem_cons_zero, List.getElem_cons_succ]
          refine wpAnyH_done (by kernel_rfl) ?_ _
          refine NoPanic.normal ?_
          have k0 : wd.cell? ⟨G, 0, none⟩ = some (.string x.path) := by rw [block_cell (xd.keeps b1)]; rfl
          have k1 : wd.cell? ⟨G, 1, none⟩ = some (.string x.text) := by rw [block_cell (xd.keeps b1)]; rfl
          have xb1 : Ext wd (wd.alloc (.cells (flC x).toArray 66)) := (Ext.refl _).alloc _
          have HBN1 := Lib.hid (heap_alloc_new wd (.cells (flC x).toArray 66))
          have HOB1 := Lib.hid (ownsRow_ext (ownsRow_ext HOW.out xd) xb1)
          have hsb1 : w1.heap.size ≤ (wd.alloc (.cells (flC x).toArray 66)).heap.size := by have := xb1.size; have := (xr.trans xd).size; omega
          go_upto_region 9 with (first | ((with_reducible refine at_build1 22 (.tmp 27) ?_); refine wpl_buildOne (by rfl) 22 (.tmp 27) rfl (flC x) (by rfl) (build_fl _ _) ?_) | (at_builtin; refine wpl_appAt tyF (by rfl) (.tmp 26) (.tmp 28) rfl w1.heap.size _ _ _ HOB1.out (by rfl) wd.heap.size (flC x) (0, 0) HBN1.out rfl (by rfl) (flC_one1 _) (by first | omega | (simp; omega)) (by first | omega | (simp; omega)) hsb1 ?_; intro v2 w2 own2 gr2 at2))
          have X2 : Ext w1 w2 := ((xr.trans xd).trans xb1).grown gr2 (fun k hk => (HOB1.out.lt k hk).1)
          have own2' : w2.ownsRow w1.heap.size 66 2 v2 (fs ++ [x]).length ((fs ++ [x]).flatMap flC) := by rw [List.length_append, List.flatMap_append]; simpa using own2
          clear k0 k1
          have c2 : w2.cell? ⟨G, 0, none⟩ = some (.string x.path) := by rw [block_cell (X2.keeps HB0.out)]; rfl
          have f2 := (x1.trans X2).cell E0.out
          have KC2 := fun v (h : Ext w2 v) => h.cell c2
          have KE2 := fun v (h : Ext w2 v) => h.cell f2
          have HO2 := Lib.hid own2'
          clear own2'
          refine wp_forgetH (fun W => W = w2) rfl ?_
          rintro w2' rfl
          refine wp_region_S (fun v => Ext w2' v) (by kernel_rfl) (fun w' h => h) fun wd hqd xd hHeld => ?_
          refine wpAnyH_take (i := 0) (v := ?vrfen0) rfl (by kernel_rfl) (by kernel_rfl) (by kernel_rfl) (fun _ _ _ h => h) (Or.inl ⟨by rfl, ?hyrfen0⟩) hHeld ?_
          case hyrfen0 => (intro w hSw; go_simp; try with_reducible rfl)
          simp only [Act.put, List.setIfInBounds_toArray, List.set_cons_zero, List.set_cons_succ, List.getElem_toArray, List.getElem_cons_zero, List.getElem_cons_succ]
          refine wpAnyH_take (i := 1) (v := ?vrfen1) rfl (by kernel_rfl) (by kernel_rfl) (by kernel_rfl) (fun _ _ _ h => h) (Or.inl ⟨by rfl, ?hyrfen1⟩) hHeld ?_
          case hyrfen1 => (intro w hSw; go_simp; try with_reducible rfl)
          simp only [Act.put, List.setIfInBounds_toArray, List.set_cons_zero, List.set_cons_succ, List.getElem_toArray, List.getElem_cons_zero, List.getElem_cons_succ]
          refine wpAnyH_take (i := 2) (v := ?vrfen2) rfl (by kernel_rfl) (by kernel_rfl) (by kernel_rfl) (fun _ _ _ h => h) (Or.inl ⟨by rfl, ?hyrfen2⟩) hHeld ?_
          case hyrfen2 => (intro w hSw; go_simp; try with_reducible rfl)
          simp only [Act.put, List.setIfInBounds_toArray, List.set_cons_zero, List.set_cons_succ, List.getElem_toArray, List.getElem_cons_zero, List.getElem_cons_succ]
          refine wpAnyH_take (i := 3) (v := ?vrfen3) rfl (by kernel_rfl) (by kernel_rfl) (by kernel_rfl) (fun _ _ _ h => h) (Or.inl ⟨by rfl, ?hyrfen3⟩) hHeld ?_
          case hyrfen3 => (intro w hSw; go_simp; try with_reducible rfl)
          simp only [Act.put, List.setIfInBounds_toArray, List.set_cons_zero, List.set_cons_succ, List.getElem_toArray, List.getElem_cons_zero, List.getElem_cons_succ]
          refine wpAnyH_take (i := 4) (v := ?vrfen4) rfl (by kernel_rfl) (by kernel_rfl) (by kernel_rfl) (fun _ _ _ h => h) (Or.inl ⟨by rfl, ?hyrfen4⟩) hHeld ?_
          case hyrfen4 => (intro w hSw; have kk := KE2 _ hSw; go_simp; try with_reducible rfl)
          simp only [Act.put, List.setIfInBounds_toArray, List.set_cons_zero, List.set_cons_succ, List.getElem_toArray, List.getElem_cons_zero, List.getElem_cons_succ]
          refine wpAnyH_take (i := 5) (v := ?vrfen5) rfl (by kernel_rfl) (by kernel_rfl) (by kernel_rfl) (fun _ _ _ h => h) (Or.inl ⟨by rfl, ?hyrfen5⟩) hHeld ?_
          case hyrfen5 => (intro w hSw; go_simp; try with_reducible rfl)
          simp only [Act.put, List.setIfInBounds_toArray, List.set_cons_zero, List.set_cons_succ, List.getElem_toArray, List.getElem_cons_zero, List.getElem_cons_succ]
          refine wpAnyH_take (i := 6) (v := ?vrfen6) rfl (by kernel_rfl) (by kernel_rfl) (by kernel_rfl) (fun _ _ _ h => h) (Or.inl ⟨by rfl, ?hyrfen6⟩) hHeld ?_
          case hyrfen6 => (intro w hSw; have kk := KC2 _ hSw; go_simp; try with_reducible rfl)
          simp only [Act.put, List.setIfInBounds_toArray, List.set_cons_zero, List.set_cons_succ, List.getElem_toArray, List.getElem_cons_zero, List.getElem_cons_succ]
          refine wpAnyH_take (i := 7) (v := ?vrfen7) rfl (by kernel_rfl) (by kernel_rfl) (by kernel_rfl) (fun _ _ _ h => h) (Or.inl ⟨by rfl, ?hyrfen7⟩) hHeld ?_
          case hyrfen7 => (intro w hSw; have kk := hneb; go_simp; try with_reducible rfl)
          simp only [Act.put, List.setIfInBounds_toArray, List.set_cons_zero, List.set_cons_succ, List.getElem_toArray, List.getElem_cons_zero, List.getElem_cons_succ]
          refine wpAnyH_done (by kernel_rfl) ?_ _
          refine NoPanic.normal ?_
          have X3 := X2.trans xd
          have e0d := (x1.trans X3).cell E0.out
          have e1d := (x1.trans X3).cell E1.out
          have own4' := ownsRow_ext HO2.out xd
          have X4 := X3
          go_wp2_with fail
          have HOF := Lib.hid own4'
          have hws : withS x (fs, false) f = ((fs ++ [x]), true) := by unfold withS; rw [if_pos hne, if_pos ⟨rfl, hle⟩]
          have HWS := Lib.hid hws
          clear hws
          go_roundg (l.length - (j + 1))
          case measure => omega
          case rel =>
            refine ⟨j + 1, (fs ++ [x]), true, by omega, by omega, by go_num, rfl, (by rw [HS2.out]; exact HWS.out), HOF.out, (by first | omega | (simp; omega)), fun g hg => ?_, X4⟩
            rcases withS_mem (x := x) (f := f) (a := (fs, false)) (by rw [HWS.out]; exact hg) with q | rfl | rfl
            · exact HOK.out g q
            · exact HXK.out
            · exact HFO.out
      · have hneb : (f.path.toList == x.path.toList) = false := nbeq_path.2 hne
        cases pt with
        | true =>
          refine wp_region_S (fun v => Ext wr v) (by kernel_rfl) (fun w' h => h) fun wd hqd xd hHeld => ?_
          refine wpAnyH_take (i := 0) (v := ?vrtg0) rfl (by kernel_rfl) (by kernel_rfl) (by kernel_rfl) (fun _ _ _ h => h) (Or.inl ⟨by rfl, ?hyrtg0⟩) hHeld ?_
          case hyrtg0 => (intro w hSw; go_simp; try with_reducible rfl)
          simp only [Act.put, List.setIfInBounds_toArray, List.set_cons_zero, List.set_cons_succ, List.getElem_toArray, List.getElem_cons_zero, List.getElem_cons_succ]
          refine wpAnyH_take (i := 1) (v := ?vrtg1) rfl (by kernel_rfl) (by kernel_rfl) (by kernel_rfl) (fun _ _ _ h => h) (Or.inl ⟨by rfl, ?hyrtg1⟩) hHeld ?_
          case hyrtg1 => (intro w hSw; go_simp; try with_reducible rfl)
          simp only [Act.put, List.setIfInBounds_toArray, List.set_cons_zero, List.set_cons_succ, List.getElem_toArray, List.getElem_cons_zero, List.getElem_cons_succ]
          refine wpAnyH_take (i := 2) (v := ?vrtg2) rfl (by kernel_rfl) (by kernel_rfl) (by kernel_rfl) (fun _ _ _ h => h) (Or.inl ⟨by rfl, ?hyrtg2⟩) hHeld ?_
          case hyrtg2 => (intro w hSw; go_simp; try with_reducible rfl)
          simp only [Act.put, List.setIfInBounds_toArray, List.set_cons_zero, List.set_cons_succ, List.getElem_toArray, List.getElem_cons_zero, List.getElem_cons_succ]
          refine wpAnyH_take (i := 3) (v := undef) rfl (by kernel_rfl) (by kernel_rfl) (by kernel_rfl) (fun _ _ _ h => h) (Or.inr ⟨by rfl, rfl⟩) hHeld ?_
          simp only [Act.put, List.setIfInBounds_toArray, List.set_cons_zero, List.set_cons_succ, List.getElem_toArray, List.getElem_cons_zero, List.getElem_cons_succ]
          refine wpAnyH_take (i := 4) (v := undef) rfl (by kernel_rfl) (by kernel_rfl) (by kernel_rfl) (fun _ _ _ h => h) (Or.inr ⟨by rfl, rfl⟩) hHeld ?_
          simp only [Act.put, List.setIfInBounds_toArray, List.set_cons_zero, List.set_cons_succ, List.getElem_toArray, List.getElem_cons_zero, List.getElem_cons_succ]
          refine wpAnyH_take (i := 5) (v := undef) rfl (by kernel_rfl) (by kernel_rfl) (by kernel_rfl) (fun _ _ _ h => h) (Or.inr ⟨by rfl, rfl⟩) hHeld ?_
          simp only [Act.put, List.setIfInBounds_toArray, List.set_cons_zero, List.set_cons_succ, List.getElem_toArray, List.getElem_cons_zero, List.getElem_cons_succ]
          refine wpAnyH_take (i := 6) (v := undef) rfl (by kernel_rfl) (by kernel_rfl) (by kernel_rfl) (fun _ _ _ h => h) (Or.inr ⟨by rfl, rfl⟩) hHeld ?_
          simp only [Act.put, List.setIfInBounds_toArray, List.set_cons_zero, List.set_cons_succ, List.getElem_toArray, List.getElem_cons_zero, List.getElem_cons_succ]
          refine wpAnyH_take (i := 7) (v := undef) rfl (by kernel_rfl) (by kernel_rfl) (by kernel_rfl) (fun _ _ _ h => h) (Or.inr ⟨by rfl, rfl⟩) hHeld ?_
          simp only [Act.put, List.setIfInBounds_toArray, List.set_cons_zero, List.set_cons_succ, List.getElem_toArray, List.getElem_cons_zero, List.getElem_cons_succ]
          refine wpAnyH_take (i := 8) (v := undef) rfl (by kernel_rfl) (by kernel_rfl) (by kernel_rfl) (fun _ _ _ h => h) (Or.inr ⟨by rfl, rfl⟩) hHeld ?_
          simp only [Act.put, List.setIfInBounds_toArray, List.set_cons_zero, List.set_cons_succ, List.getElem_toArray, List.getElem_cons_zero, List.getElem_cons_succ]
          refine wpAnyH_take (i := 9) (v := undef) rfl (by kernel_rfl) (by kernel_rfl) (by kernel_rfl) (fun _ _ _ h => h) (Or.inr ⟨by rfl, rfl⟩) hHeld ?_
          simp only [Act.put, List.setIfInBounds_toArray, List.set_cons_zero, List.set_cons_succ, List.getElem_toArray, List.getElem_cons_zero, List.getElem_cons_succ]
          refine wpAnyH_take (i := 10) (v := undef) rfl (by kernel_rfl) (by kernel_rfl) (by kernel_rfl) (fun _ _ _ h => h) (Or.inr ⟨by rfl, rfl⟩) hHeld ?_
          simp only [Act.put, List.setIfInBounds_toArray, List.set_cons_zero, List.set_cons_succ, List.getElem_toArray, List.getElem_cons_zero, List.getElem_cons_succ]
          refine wpAnyH_take (i := 11) (v := ?vrtg11) rfl (by kernel_rfl) (by kernel_rfl) (by kernel_rfl) (fun _ _ _ h => h) (Or.inl ⟨by rfl, ?hyrtg11⟩) hHeld ?_
          case hyrtg11 => (intro w hSw; go_simp; try with_reducible rfl)
          simp only [Act.put, List.setIfInBounds_toArray, List.set_cons_zero, List.set_cons_succ, List.getElem_toArray, List.getElem_cons_zero, List.getElem_cons_succ]
          refine wpAnyH_done (by kernel_rfl) ?_ _
          refine NoPanic.normal ?_
          have own2' := ownsRow_ext HOW.out xd
          have X2 := xr.trans xd
          obtain ⟨w2, rfl⟩ : ∃ x, x = wd := ⟨_, rfl⟩
          go_upto_region 9 with fail
          have c2 : w2.cell? ⟨G, 0, none⟩ = some (.string x.path) := by rw [block_cell (X2.keeps HB0.out)]; rfl
          have f2 := (x1.trans X2).cell E0.out
          have KC2 := fun v (h : Ext w2 v) => h.cell c2
          have KE2 := fun v (h : Ext w2 v) => h.cell f2
          have HO2 := Lib.hid own2'
          clear own2'
          refine wp_forgetH (fun W => W = w2) rfl ?_
          rintro w2' rfl
          refine wp_region_S (fun v => Ext w2' v) (by kernel_rfl) (fun w' h => h) fun wd hqd xd hHeld => ?_
          refine wpAnyH_take (i := 0) (v := ?vrtgn0) rfl (by kernel_rfl) (by kernel_rfl) (by kernel_rfl) (fun _ _ _ h => h) (Or.inl ⟨by rfl, ?hyrtgn0⟩) hHeld ?_
          case hyrtgn0 => (intro w hSw; go_simp; try with_reducible rfl)
          simp only [Act.put, List.setIfInBounds_toArray, List.set_cons_zero, List.set_cons_succ, List.getElem_toArray, List.getElem_cons_zero, List.getElem_cons_succ]
          refine wpAnyH_take (i := 1) (v := ?vrtgn1) rfl (by kernel_rfl) (by kernel_rfl) (by kernel_rfl) (fun _ _ _ h => h) (Or.inl ⟨by rfl, ?hyrtgn1⟩) hHeld ?_
          case hyrtgn1 => (intro w hSw; go_simp; try with_reducible rfl)
          simp only [Act.put, List.setIfInBounds_toArray, List.set_cons_zero, List.set_cons_succ, List.getElem_toArray, List.getElem_cons_zero, List.getElem_cons_succ]
          refine wpAnyH_take (i := 2) (v := ?vrtgn2) rfl (by kernel_rfl) (by kernel_rfl) (by kernel_rfl) (fun _ _ _ h => h) (Or.inl ⟨by rfl, ?hyrtgn2⟩) hHeld ?_
          case hyrtgn2 => (intro w hSw; go_simp; try with_reducible rfl)
          simp only [Act.put, List.setIfInBounds_toArray, List.set_cons_zero, List.set_cons_succ, List.getElem_toArray, List.getElem_cons_zero, List.getElem_cons_succ]
          refine wpAnyH_take (i := 3) (v := ?vrtgn3) rfl (by kernel_rfl) (by kernel_rfl) (by kernel_rfl) (fun _ _ _ h => h) (Or.inl ⟨by rfl, ?hyrtgn3⟩) hHeld ?_
          case hyrtgn3 => (intro w hSw; go_simp; try with_reducible rfl)
          simp only [Act.put, List.setIfInBounds_toArray, List.set_cons_zero, List.set_cons_succ, List.getElem_toArray, List.getElem_cons_zero, List.getElem_cons_succ]
          refine wpAnyH_take (i := 4) (v := ?vrtgn4) rfl (by kernel_rfl) (by kernel_rfl) (by kernel_rfl) (fun _ _ _ h => h) (Or.inl ⟨by rfl, ?hyrtgn4⟩) hHeld ?_
          case hyrtgn4 => (intro w hSw; have kk := KE2 _ hSw; go_simp; try with_reducible rfl)
          simp only [Act.put, List.setIfInBounds_toArray, List.set_cons_zero, List.set_cons_succ, List.getElem_toArray, List.getElem_cons_zero, List.getElem_cons_succ]
          refine wpAnyH_take (i := 5) (v := ?vrtgn5) rfl (by kernel_rfl) (by kernel_rfl) (by kernel_rfl) (fun _ _ _ h => h) (Or.inl ⟨by rfl, ?hyrtgn5⟩) hHeld ?_
          case hyrtgn5 => (intro w hSw; go_simp; try with_reducible rfl)
          simp only [Act.put, List.setIfInBounds_toArray, List.set_cons_zero, List.set_cons_succ, List.getElem_toArray, List.getElem_cons_zero, List.getElem_cons_succ]
          refine wpAnyH_take (i := 6) (v := ?vrtgn6) rfl (by kernel_rfl) (by kernel_rfl) (by kernel_rfl) (fun _ _ _ h => h) (Or.inl ⟨by rfl, ?hyrtgn6⟩) hHeld ?_
          case hyrtgn6 => (intro w hSw; have kk := KC2 _ hSw; go_simp; try with_reducible rfl)
          simp only [Act.put, List.setIfInBounds_toArray, List.set_cons_zero, List.set_cons_succ, List.getElem_toArray, List.getElem_cons_zero, List.getElem_cons_succ]
          refine wpAnyH_take (i := 7) (v := ?vrtgn7) rfl (by kernel_rfl) (by kernel_rfl) (by kernel_rfl) (fun _ _ _ h => h) (Or.inl ⟨by rfl, ?hyrtgn7⟩) hHeld ?_
          case hyrtgn7 => (intro w hSw; have kk := hneb; go_simp; try with_reducible rfl)
          simp only [Act.put, List.setIfInBounds_toArray, List.set_cons_zero, List.set_cons_succ, List.getElem_toArray, List.getElem_cons_zero, List.getElem_cons_succ]
          refine wpAnyH_done (by kernel_rfl) ?_ _
          refine NoPanic.normal ?_
          have X3 := X2.trans xd
          have e0d := (x1.trans X3).cell E0.out
          have e1d := (x1.trans X3).cell E1.out
          have xb3 : Ext wd (wd.alloc (.cells (flC f).toArray 66)) := (Ext.refl _).alloc _
          have HBN3 := Lib.hid (heap_alloc_new wd (.cells (flC f).toArray 66))
          have HOB3 := Lib.hid (ownsRow_ext (ownsRow_ext HO2.out xd) xb3)
          have hsb3 : w1.heap.size ≤ (wd.alloc (.cells (flC f).toArray 66)).heap.size := by have := xb3.size; have := (X3).size; omega
          go_wp2_with (first | ((with_reducible refine at_build1 22 (.tmp 42) ?_); refine wpl_buildOne (by rfl) 22 (.tmp 42) rfl (flC f) (by rfl) (build_fl _ _) ?_) | (at_builtin; refine wpl_appAt tyF (by rfl) (.tmp 38) (.tmp 43) rfl w1.heap.size _ _ _ HOB3.out (by rfl) wd.heap.size (flC f) (0, 0) HBN3.out rfl (by rfl) (flC_one1 _) (by first | omega | (simp; omega)) (by first | omega | (simp; omega)) hsb3 ?_; intro v4 w4 own4 gr4 at4))
          have X4 : Ext w1 w4 := ((X3).trans xb3).grown gr4 (fun k hk => (HOB3.out.lt k hk).1)
          have own4' : w4.ownsRow w1.heap.size 66 2 v4 (fs ++ [f]).length ((fs ++ [f]).flatMap flC) := by rw [List.length_append, List.flatMap_append]; simpa using own4
          have HOF := Lib.hid own4'
          have hws : withS x (fs, true) f = (fs ++ [f], true) := by unfold withS; rw [if_neg hne, if_neg (fun h => by cases h.1)]
          have HWS := Lib.hid hws
          clear hws
          go_roundg (l.length - (j + 1))
          case measure => omega
          case rel =>
            refine ⟨j + 1, fs ++ [f], true, by omega, by omega, by go_num, rfl, (by rw [HS2.out]; exact HWS.out), HOF.out, (by first | omega | (simp; omega)), fun g hg => ?_, X4⟩
            rcases withS_mem (x := x) (f := f) (a := (fs, true)) (by rw [HWS.out]; exact hg) with q | rfl | rfl
            · exact HOK.out g q
            · exact HXK.out
            · exact HFO.out
        | false =>
          refine wp_region_S (fun v => Ext wr v) (by kernel_rfl) (fun w' h => h) fun wd hqd xd hHeld => ?_
          refine wpAnyH_take (i := 0) (v := ?vrfg0) rfl (by kernel_rfl) (by kernel_rfl) (by kernel_rfl) (fun _ _ _ h => h) (Or.inl ⟨by rfl, ?hyrfg0⟩) hHeld ?_
          case hyrfg0 => (intro w hSw; go_simp; try with_reducible rfl)
          simp only [Act.put, List.setIfInBounds_toArray, List.set_cons_zero, List.set_cons_succ, List.getElem_toArray, List.getElem_cons_zero, List.getElem_cons_succ]
          refine wpAnyH_take (i := 1) (v := ?vrfg1) rfl (by kernel_rfl) (by kernel_rfl) (by kernel_rfl) (fun _ _ _ h => h) (Or.inl ⟨by rfl, ?hyrfg1⟩) hHeld ?_
          case hyrfg1 => (intro w hSw; go_simp; try with_reducible rfl)
          simp only [Act.put, List.setIfInBounds_toArray, List.set_cons_zero, List.set_cons_succ, List.getElem_toArray, List.getElem_cons_zero, List.getElem_cons_succ]
          refine wpAnyH_take (i := 2) (v := ?vrfg2) rfl (by kernel_rfl) (by kernel_rfl) (by kernel_rfl) (fun _ _ _ h => h) (Or.inl ⟨by rfl, ?hyrfg2⟩) hHeld ?_
          case hyrfg2 => (intro w hSw; go_simp; try with_reducible rfl)
          simp only [Act.put, List.setIfInBounds_toArray, List.set_cons_zero, List.set_cons_succ, List.getElem_toArray, List.getElem_cons_zero, List.getElem_cons_succ]
          refine wpAnyH_take (i := 3) (v := ?vrfg3) rfl (by kernel_rfl) (by kernel_rfl) (by kernel_rfl) (fun _ _ _ h => h) (Or.inl ⟨by rfl, ?hyrfg3⟩) hHeld ?_
          case hyrfg3 => (intro w hSw; go_simp; try with_reducible rfl)
          simp only [Act.put, List.setIfInBounds_toArray, List.set_cons_zero, List.set_cons_succ, List.getElem_toArray, List.getElem_cons_zero, List.getElem_cons_succ]
          refine wpAnyH_take (i := 4) (v := ?vrfg4) rfl (by kernel_rfl) (by kernel_rfl) (by kernel_rfl) (fun _ _ _ h => h) (Or.inl ⟨by rfl, ?hyrfg4⟩) hHeld ?_
          case hyrfg4 => (intro w hSw; have kk := KC0 _ hSw; go_simp; try with_reducible rfl)
          simp only [Act.put, List.setIfInBounds_toArray, List.set_cons_zero, List.set_cons_succ, List.getElem_toArray, List.getElem_cons_zero, List.getElem_cons_succ]
          refine wpAnyH_take (i := 5) (v := ?vrfg5) rfl (by kernel_rfl) (by kernel_rfl) (by kernel_rfl) (fun _ _ _ h => h) (Or.inl ⟨by rfl, ?hyrfg5⟩) hHeld ?_
          case hyrfg5 => (intro w hSw; go_simp; try with_reducible rfl)
          simp only [Act.put, List.setIfInBounds_toArray, List.set_cons_zero, List.set_cons_succ, List.getElem_toArray, List.getElem_cons_zero, List.getElem_cons_succ]
          refine wpAnyH_take (i := 6) (v := ?vrfg6) rfl (by kernel_rfl) (by kernel_rfl) (by kernel_rfl) (fun _ _ _ h => h) (Or.inl ⟨by rfl, ?hyrfg6⟩) hHeld ?_
          case hyrfg6 => (intro w hSw; go_simp; try with_reducible rfl)
          simp only [Act.put, List.setIfInBounds_toArray, List.set_cons_zero, List.set_cons_succ, List.getElem_toArray, List.getElem_cons_zero, List.getElem_cons_succ]
          refine wpAnyH_take (i := 7) (v := ?vrfg7) rfl (by kernel_rfl) (by kernel_rfl) (by kernel_rfl) (fun _ _ _ h => h) (Or.inl ⟨by rfl, ?hyrfg7⟩) hHeld ?_
          case hyrfg7 => (intro w hSw; go_simp; try with_reducible rfl)
          simp only [Act.put, List.setIfInBounds_toArray, List.set_cons_zero, List.set_cons_succ, List.getElem_toArray, List.getElem_cons_zero, List.getElem_cons_succ]
          refine wpAnyH_take (i := 8) (v := ?vrfg8) rfl (by kernel_rfl) (by kernel_rfl) (by kernel_rfl) (fun _ _ _ h => h) (Or.inl ⟨by rfl, ?hyrfg8⟩) hHeld ?_
          case hyrfg8 => (intro w hSw; go_simp; try with_reducible rfl)
          simp only [Act.put, List.setIfInBounds_toArray, List.set_cons_zero, List.set_cons_succ, List.getElem_toArray, List.getElem_cons_zero, List.getElem_cons_succ]
          refine wpAnyH_take (i := 9) (v := ?vrfg9) rfl (by kernel_rfl) (by kernel_rfl) (by kernel_rfl) (fun _ _ _ h => h) (Or.inl ⟨by rfl, ?hyrfg9⟩) hHeld ?_
          case hyrfg9 => (intro w hSw; have kk := KE0 _ hSw; go_simp; try with_reducible rfl)
          simp only [Act.put, List.setIfInBounds_toArray, List.set_cons_zero, List.set_cons_succ, List.getElem_toArray, List.getElem_cons_zero, List.getElem_cons_succ]
          refine wpAnyH_take (i := 10) (v := ?vrfg10) rfl (by kernel_rfl) (by kernel_rfl) (by kernel_rfl) (fun _ _ _ h => h) (Or.inl ⟨by rfl, ?hyrfg10⟩) hHeld ?_
          case hyrfg10 => (intro w hSw; have kk := hleq; go_simp; try with_reducible rfl)
          simp only [Act.put, List.setIfInBounds_toArray, List.set_cons_zero, List.set_cons_succ, List.getElem_toArray, List.getElem_cons_zero, List.getElem_cons_succ]
          refine wpAnyH_take (i := 11) (v := ?vrfg11) rfl (by kernel_rfl) (by kernel_rfl) (by kernel_rfl) (fun _ _ _ h => h) (Or.inl ⟨by rfl, ?hyrfg11⟩) hHeld ?_
          case hyrfg11 => (intro w hSw; go_simp; try with_reducible rfl)
          simp only [Act.put, List.setIfInBounds_toArray, List.set_cons_zero, List.set_cons_succ, List.getElem_toArray, List.getElem_cons_zero, List.getElem_cons_succ]
          refine wpAnyH_done (by kernel_rfl) ?_ _
          refine NoPanic.normal ?_
          have k0 : wd.cell? ⟨G, 0, none⟩ = some (.string x.path) := by rw [block_cell (xd.keeps b1)]; rfl
          have k1 : wd.cell? ⟨G, 1, none⟩ = some (.string x.text) := by rw [block_cell (xd.keeps b1)]; rfl
          have xb1 : Ext wd (wd.alloc (.cells (flC x).toArray 66)) := (Ext.refl _).alloc _
          have HBN1 := Lib.hid (heap_alloc_new wd (.cells (flC x).toArray 66))
          have HOB1 := Lib.hid (ownsRow_ext (ownsRow_ext HOW.out xd) xb1)
          have hsb1 : w1.heap.size ≤ (wd.alloc (.cells (flC x).toArray 66)).heap.size := by have := xb1.size; have := (xr.trans xd).size; omega
          go_upto_region 9 with (first | ((with_reducible refine at_build1 22 (.tmp 27) ?_); refine wpl_buildOne (by rfl) 22 (.tmp 27) rfl (flC x) (by rfl) (build_fl _ _) ?_) | (at_builtin; refine wpl_appAt tyF (by rfl) (.tmp 26) (.tmp 28) rfl w1.heap.size _ _ _ HOB1.out (by rfl) wd.heap.size (flC x) (0, 0) HBN1.out rfl (by rfl) (flC_one1 _) (by first | omega | (simp; omega)) (by first | omega | (simp; omega)) hsb1 ?_; intro v2 w2 own2 gr2 at2))
          have X2 : Ext w1 w2 := ((xr.trans xd).trans xb1).grown gr2 (fun k hk => (HOB1.out.lt k hk).1)
          have own2' : w2.ownsRow w1.heap.size 66 2 v2 (fs ++ [x]).length ((fs ++ [x]).flatMap flC) := by rw [List.length_append, List.flatMap_append]; simpa using own2
          clear k0 k1
          have c2 : w2.cell? ⟨G, 0, none⟩ = some (.string x.path) := by rw [block_cell (X2.keeps HB0.out)]; rfl
          have f2 := (x1.trans X2).cell E0.out
          have KC2 := fun v (h : Ext w2 v) => h.cell c2
          have KE2 := fun v (h : Ext w2 v) => h.cell f2
          have HO2 := Lib.hid own2'
          clear own2'
          refine wp_forgetH (fun W => W = w2) rfl ?_
          rintro w2' rfl
          refine wp_region_S (fun v => Ext w2' v) (by kernel_rfl) (fun w' h => h) fun wd hqd xd hHeld => ?_
          refine wpAnyH_take (i := 0) (v := ?vrfgn0) rfl (by kernel_rfl) (by kernel_rfl) (by kernel_rfl) (fun _ _ _ h => h) (Or.inl ⟨by rfl, ?hyrfgn0⟩) hHeld ?_
          case hyrfgn0 => (intro w hSw; go_simp; try with_reducible rfl)
          simp only [Act.put, List.setIfInBounds_toArray, List.set_cons_zero, List.set_cons_succ, List.getElem_toArray, List.getElem_cons_zero, List.getElem_cons_succ]
          refine wpAnyH_take (i := 1) (v := ?vrfgn1) rfl (by kernel_rfl) (by kernel_rfl) (by kernel_rfl) (fun _ _ _ h => h) (Or.inl ⟨by rfl, ?hyrfgn1⟩) hHeld ?_
          case hyrfgn1 => (intro w hSw; go_simp; try with_reducible rfl)
          simp only [Act.put, List.setIfInBounds_toArray, List.set_cons_zero, List.set_cons_succ, List.getElem_toArray, List.getElem_cons_zero, List.getElem_cons_succ]
          refine wpAnyH_take (i := 2) (v := ?vrfgn2) rfl (by kernel_rfl) (by kernel_rfl) (by kernel_rfl) (fun _ _ _ h => h) (Or.inl ⟨by rfl, ?hyrfgn2⟩) hHeld ?_
          case hyrfgn2 => (intro w hSw; go_simp; try with_reducible rfl)
          simp only [Act.put, List.setIfInBounds_toArray, List.set_cons_zero, List.set_cons_succ, List.getElem_toArray, List.getElem_cons_zero, List.getElem_cons_succ]
          refine wpAnyH_take (i := 3) (v := ?vrfgn3) rfl (by kernel_rfl) (by kernel_rfl) (by kernel_rfl) (fun _ _ _ h => h) (Or.inl ⟨by rfl, ?hyrfgn3⟩) hHeld ?_
          case hyrfgn3 => (intro w hSw; go_simp; try with_reducible rfl)
          simp only [Act.put, List.setIfInBounds_toArray, List.set_cons_zero, List.set_cons_succ, List.getElem_toArray, List.getElem_cons_zero, List.getElem_cons_succ]
          refine wpAnyH_take (i := 4) (v := ?vrfgn4) rfl (by kernel_rfl) (by kernel_rfl) (by kernel_rfl) (fun _ _ _ h => h) (Or.inl ⟨by rfl, ?hyrfgn4⟩) hHeld ?_
          case hyrfgn4 => (intro w hSw; have kk := KE2 _ hSw; go_simp; try with_reducible rfl)
          simp only [Act.put, List.setIfInBounds_toArray, List.set_cons_zero, List.set_cons_succ, List.getElem_toArray, List.getElem_cons_zero, List.getElem_cons_succ]
          refine wpAnyH_take (i := 5) (v := ?vrfgn5) rfl (by kernel_rfl) (by kernel_rfl) (by kernel_rfl) (fun _ _ _ h => h) (Or.inl ⟨by rfl, ?hyrfgn5⟩) hHeld ?_
          case hyrfgn5 => (intro w hSw; go_simp; try with_reducible rfl)
          simp only [Act.put, List.setIfInBounds_toArray, List.set_cons_zero, List.set_cons_succ, List.getElem_toArray, List.getElem_cons_zero, List.getElem_cons_succ]
          refine wpAnyH_take (i := 6) (v := ?vrfgn6) rfl (by kernel_rfl) (by kernel_rfl) (by kernel_rfl) (fun _ _ _ h => h) (Or.inl ⟨by rfl, ?hyrfgn6⟩) hHeld ?_
          case hyrfgn6 => (intro w hSw; have kk := KC2 _ hSw; go_simp; try with_reducible rfl)
          simp only [Act.put, List.setIfInBounds_toArray, List.set_cons_zero, List.set_cons_succ, List.getElem_toArray, List.getElem_cons_zero, List.getElem_cons_succ]
          refine wpAnyH_take (i := 7) (v := ?vrfgn7) rfl (by kernel_rfl) (by kernel_rfl) (by kernel_rfl) (fun _ _ _ h => h) (Or.inl ⟨by rfl, ?hyrfgn7⟩) hHeld ?_
          case hyrfgn7 => (intro w hSw; have kk := hneb; go_simp; try with_reducible rfl)
          simp only [Act.put, List.setIfInBounds_toArray, List.set_cons_zero, List.set_cons_succ, List.getElem_toArray, List.getElem_cons_zero, List.getElem_cons_succ]
          refine wpAnyH_done (by kernel_rfl) ?_ _
          refine NoPanic.normal ?_
          have X3 := X2.trans xd
          have e0d := (x1.trans X3).cell E0.out
          have e1d := (x1.trans X3).cell E1.out
          have xb3 : Ext wd (wd.alloc (.cells (flC f).toArray 66)) := (Ext.refl _).alloc _
          have HBN3 := Lib.hid (heap_alloc_new wd (.cells (flC f).toArray 66))
          have HOB3 := Lib.hid (ownsRow_ext (ownsRow_ext HO2.out xd) xb3)
          have hsb3 : w1.heap.size ≤ (wd.alloc (.cells (flC f).toArray 66)).heap.size := by have := xb3.size; have := (X3).size; omega
          go_wp2_with (first | ((with_reducible refine at_build1 22 (.tmp 42) ?_); refine wpl_buildOne (by rfl) 22 (.tmp 42) rfl (flC f) (by rfl) (build_fl _ _) ?_) | (at_builtin; refine wpl_appAt tyF (by rfl) (.tmp 38) (.tmp 43) rfl w1.heap.size _ _ _ HOB3.out (by rfl) wd.heap.size (flC f) (0, 0) HBN3.out rfl (by rfl) (flC_one1 _) (by first | omega | (simp; omega)) (by first | omega | (simp; omega)) hsb3 ?_; intro v4 w4 own4 gr4 at4))
          have X4 : Ext w1 w4 := ((X3).trans xb3).grown gr4 (fun k hk => (HOB3.out.lt k hk).1)
          have own4' : w4.ownsRow w1.heap.size 66 2 v4 ((fs ++ [x]) ++ [f]).length (((fs ++ [x]) ++ [f]).flatMap flC) := by rw [List.length_append, List.flatMap_append]; simpa using own4
          have HOF := Lib.hid own4'
          have hws : withS x (fs, false) f = ((fs ++ [x]) ++ [f], true) := by unfold withS; rw [if_neg hne, if_pos ⟨rfl, hle⟩]
          have HWS := Lib.hid hws
          clear hws
          go_roundg (l.length - (j + 1))
          case measure => omega
          case rel =>
            refine ⟨j + 1, (fs ++ [x]) ++ [f], true, by omega, by omega, by go_num, rfl, (by rw [HS2.out]; exact HWS.out), HOF.out, (by first | omega | (simp; omega)), fun g hg => ?_, X4⟩
            rcases withS_mem (x := x) (f := f) (a := (fs, false)) (by rw [HWS.out]; exact hg) with q | rfl | rfl
            · exact HOK.out g q
            · exact HXK.out
            · exact HFO.out
  · obtain rfl : j = l.length := by omega
    have hst := HST.out
    rw [List.take_length] at hst
    cases pt with
    | true =>
      have hW : withL l x = fs := by unfold withL; rw [hst]; rfl
      go_wp2_with fail
      rw [hW]
      exact bodyPost_ret (results_t rfl _ _) rfl ⟨_, rfl, ⟨IsSl.of_owns HOW.out, HOK.out⟩, x1.trans xr⟩
    | false =>
      have hW : withL l x = fs ++ [x] := by unfold withL; rw [hst]; rfl
      have k1 : wr.cell? ⟨G, 1, none⟩ = some (.string x.text) := by rw [block_cell b1]; rfl
      have xb1 : Ext wr (wr.alloc (.cells (flC x).toArray 66)) := (Ext.refl _).alloc _
      have HBN1 := Lib.hid (heap_alloc_new wr (.cells (flC x).toArray 66))
      have HOB1 := Lib.hid (ownsRow_ext HOW.out xb1)
      have hsb1 : w1.heap.size ≤ (wr.alloc (.cells (flC x).toArray 66)).heap.size := by have := xb1.size; have := (xr).size; omega
      go_wp2_with (first | ((with_reducible refine at_build1 22 (.tmp 48) ?_); refine wpl_buildOne (by rfl) 22 (.tmp 48) rfl (flC x) (by rfl) (build_fl _ _) ?_) | (at_builtin; refine wpl_appAt tyF (by rfl) (.tmp 47) (.tmp 49) rfl w1.heap.size _ _ _ HOB1.out (by rfl) wr.heap.size (flC x) (0, 0) HBN1.out rfl (by rfl) (flC_one1 _) (by first | omega | (simp; omega)) (by first | omega | (simp; omega)) hsb1 ?_; intro v2 w2 own2 gr2 at2))
      have X2 : Ext w1 w2 := ((xr).trans xb1).grown gr2 (fun k hk => (HOB1.out.lt k hk).1)
      have own2' : w2.ownsRow w1.heap.size 66 2 v2 (fs ++ [x]).length ((fs ++ [x]).flatMap flC) := by rw [List.length_append, List.flatMap_append]; simpa using own2
      rw [hW]
      exact bodyPost_ret (results_t rfl _ _) rfl ⟨_, rfl, ⟨IsSl.of_owns own2', fun f hf => by
        rcases List.mem_append.1 hf with q | q
        · exact HOK.out f q
        · rw [List.mem_singleton.1 q]; exact HXK.out⟩, x1.trans X2⟩
end Go.Proofs.YtpadfabjihaapaaGreatDoor

namespace Go.Proofs.YtpadfabjihaapaaGreatDoor
open Go.RowKit
set_option linter.unusedVariables false
set_option linter.unusedSimpArgs false

theorem with_true (x : Fl) : ∀ (l : List Fl) (a : List Fl), l.foldl (withS x) (a, true) = (a ++ l.filter (fun g => !decide (g.path = x.path)), true)
  | [], a => by simp
  | f :: r, a => by
    rw [List.foldl_cons]
    by_cases h : f.path = x.path
    · have e : withS x (a, true) f = (a, true) := by unfold withS; rw [if_pos h, if_neg (fun h => by cases h.1)]
      rw [e, with_true x r a, List.filter_cons_of_neg (by simp [h])]
    · have e : withS x (a, true) f = (a ++ [f], true) := by unfold withS; rw [if_neg h, if_neg (fun h => by cases h.1)]
      rw [e, with_true x r, List.filter_cons_of_pos (by simp [h])]
      simp
theorem with_ins (x : Fl) : ∀ (l : List Fl) (a : List Fl), FsS l → (if (l.foldl (withS x) (a, false)).2 then (l.foldl (withS x) (a, false)).1 else (l.foldl (withS x) (a, false)).1 ++ [x]) = a ++ insF l x
  | [], a, _ => by simp [insF]
  | f :: r, a, hs => by
    have hs' := List.pairwise_cons.1 hs
    rw [List.foldl_cons]
    cases hb : bl f.path x.path with
    | true =>
      have e : withS x (a, false) f = (a ++ [f], false) := by unfold withS; rw [if_neg (bl_ne hb), if_neg (fun h => by rw [hb] at h; cases h.2)]
      rw [e, with_ins x r _ hs'.2]
      have e2 : insF (f :: r) x = f :: insF r x := by unfold insF; rw [List.filter_cons_of_pos (by rw [hb]), List.filter_cons_of_neg (by rw [bl_as hb]; decide), List.cons_append]
      rw [e2]
      simp
    | false =>
      have hr : ∀ g ∈ r, bl x.path g.path = true := fun g hg => by
        have h1 := hs'.1 g hg
        cases h2 : bl x.path g.path with
        | true => rfl
        | false =>
          cases h3 : bl g.path x.path with
          | true => rw [bl_tr h1 h3] at hb; cases hb
          | false => rw [bl_eq h3 h2] at h1; rw [h1] at hb; cases hb
      have hf1 : (r.filter fun g => bl x.path g.path) = r := List.filter_eq_self.2 hr
      have hf2 : (r.filter fun g => bl g.path x.path) = [] := List.filter_eq_nil_iff.2 fun g hg => by rw [bl_as (hr g hg)]; decide
      have hf3 : (r.filter fun g => !decide (g.path = x.path)) = r := List.filter_eq_self.2 fun g hg => by simp [Ne.symm (bl_ne (hr g hg))]
      by_cases he : f.path = x.path
      · have e : withS x (a, false) f = (a ++ [x], true) := by unfold withS; rw [if_pos he, if_pos ⟨rfl, hb⟩]
        have e2 : insF (f :: r) x = x :: r := by unfold insF; rw [List.filter_cons_of_neg (by rw [hb]; decide), List.filter_cons_of_neg (by rw [he, bl_irr]; decide), hf1, hf2]; rfl
        rw [e, with_true, e2, hf3]
        simp
      · have hxf : bl x.path f.path = true := by
          cases h : bl x.path f.path with
          | true => rfl
          | false => exact absurd (bl_eq hb h) he
        have e : withS x (a, false) f = (a ++ [x] ++ [f], true) := by unfold withS; rw [if_neg he, if_pos ⟨rfl, hb⟩]
        have e2 : insF (f :: r) x = x :: f :: r := by unfold insF; rw [List.filter_cons_of_neg (by rw [hb]; decide), List.filter_cons_of_pos (by rw [hxf]), hf1, hf2]; rfl
        rw [e, with_true, e2, hf3]
        simp
theorem withL_ins {l : List Fl} (x : Fl) (hs : FsS l) : withL l x = insF l x := by
  have := with_ins x l [] hs
  unfold withL
  rw [this, List.nil_append]
theorem outF_sorted {l : List Fl} {p : ByteArray} (hs : FsS l) : FsS (outF l p) := List.Pairwise.sublist List.filter_sublist hs
theorem insF_sorted {l : List Fl} {f : Fl} (hs : FsS l) : FsS (insF l f) := by
  unfold insF FsS
  rw [List.pairwise_append]
  refine ⟨List.Pairwise.sublist List.filter_sublist hs, List.pairwise_cons.2 ⟨fun g hg => (List.mem_filter.1 hg).2, List.Pairwise.sublist List.filter_sublist hs⟩, fun g hg h hh => ?_⟩
  have h1 := (List.mem_filter.1 hg).2
  rcases List.mem_cons.1 hh with rfl | q
  · exact h1
  · exact bl_tr h1 (List.mem_filter.1 q).2
theorem ins_out {l : List Fl} {f : Fl} {i : Nat} (hs : FsS l) (h : Place l f.path i) (hh : hitB l f.path i = true) (hi : i < l.length) (hf : l[i] = f) : insF (outF l f.path) f = l := by
  have e1 : ((outF l f.path).filter fun g => bl g.path f.path) = l.filter fun g => bl g.path f.path := by
    unfold outF
    rw [List.filter_filter]
    refine List.filter_congr fun g _ => ?_
    cases bl g.path f.path <;> simp
  have e2 : ((outF l f.path).filter fun g => bl f.path g.path) = l.filter fun g => bl f.path g.path := by
    unfold outF
    rw [List.filter_filter]
    refine List.filter_congr fun g _ => ?_
    cases bl f.path g.path <;> simp
  unfold insF
  rw [e1, e2, h.lowF, h.highF hs, if_pos hh, ← hf, ← List.drop_eq_getElem_cons hi, List.take_append_drop]
theorem out_len {l : List Fl} {p : ByteArray} {i : Nat} (hs : FsS l) (h : Place l p i) (hh : hitB l p i = true) (hi : i < l.length) : (outF l p).length = l.length - 1 := by
  rw [← outF_hit hs h hh]
  simp
  omega
/-- A place there is. -/
theorem place_of {l : List Fl} (p : ByteArray) (hs : FsS l) : ∃ i, Place l p i := by
  induction l with
  | nil => exact ⟨0, Nat.le_refl _, fun j hj => absurd hj (Nat.not_lt_zero _), fun j hj => absurd hj (Nat.not_lt_zero _)⟩
  | cons f r ih =>
    have hs' := List.pairwise_cons.1 hs
    cases hb : bl f.path p with
    | false =>
      refine ⟨0, Nat.zero_le _, fun j hj h => absurd h (Nat.not_lt_zero _), fun j hj _ => ?_⟩
      cases j with
      | zero => exact hb
      | succ j =>
        have hj' : j < r.length := by simpa using hj
        show bl r[j].path p = false
        cases h2 : bl r[j].path p with
        | false => rfl
        | true => rw [bl_tr (hs'.1 _ (List.getElem_mem _)) h2] at hb; cases hb
    | true =>
      obtain ⟨i, h1, h2, h3⟩ := ih hs'.2
      refine ⟨i + 1, by simp; omega, fun j hj h => ?_, fun j hj h => ?_⟩
      · cases j with
        | zero => exact hb
        | succ j => exact h2 j (by simpa using hj) (by omega)
      · cases j with
        | zero => omega
        | succ j => exact h3 j (by simpa using hj) (by omega)
theorem get_path {l : List Fl} {p : ByteArray} {f : Fl} (h : getL l p = some f) : f.path = p ∧ f ∈ l := by
  unfold getL at h
  have h1 : (f.path.toList == p.toList) = true := List.find?_some (p := fun g : Fl => g.path.toList == p.toList) h
  exact ⟨beq_path.1 h1, List.mem_of_find?_eq_some h⟩
/-- What was taken away and is put back. -/
theorem put_back {l : List Fl} {p : ByteArray} {f : Fl} (hs : FsS l) (h : getL l p = some f) : withL (outF l p) ⟨p, f.text⟩ = l ∧ (outF l p).length = l.length - 1 ∧ 0 < l.length := by
  obtain ⟨i, hi⟩ := place_of p hs
  obtain ⟨q1, q2⟩ := hit_has hs hi
  cases hh : hitB l p i with
  | false => rw [q2 hh] at h; cases h
  | true =>
    obtain ⟨hil, hg⟩ := q1 hh
    rw [h] at hg
    have hf : l[i] = f := (Option.some.inj hg).symm
    obtain ⟨hp, _⟩ := get_path h
    have e : (⟨p, f.text⟩ : Fl) = f := by cases f; simp only at hp; rw [hp]
    rw [withL_ins _ (outF_sorted hs), e]
    subst hp
    exact ⟨ins_out hs hi hh hil hf, out_len hs hi hh hil, by omega⟩
end Go.Proofs.YtpadfabjihaapaaGreatDoor

namespace Go.Proofs.YtpadfabjihaapaaGreatDoor
open Go.RowKit Go.Deep Go.ChangeShapes Go.WideShapes
set_option linter.unusedVariables false

section
variable {H : Type} {enc : TypeId × Value → H} {w : World}
set_option maxRecDepth 100000 in
theorem opens_file : Opens enc Tryz.prog w 66 (fun cs => ∃ f : Fl, cs = flC f ∧ (flC f).length = 2 ∧ flOk f) := by
  refine (opens_struct Tryz.underlying66 2 (by kernel_rfl)
    [fun cs => ∃ s : ByteArray, cs = [.string s] ∧ s.size ≤ 140737488351232, fun cs => ∃ s : ByteArray, cs = [.string s] ∧ s.size ≤ 140737488351232] rfl ?_).mono ?_
  · intro i f hf ok hok
    match i with
    | 0 => cases hf; cases hok; exact opens_string Tryz.underlying9
    | 1 => cases hf; cases hok; exact opens_string Tryz.underlying9
    | i + 2 => cases hok
  · rintro cs ⟨hl, h⟩
    obtain ⟨s, e0, hs⟩ := h 0 _ rfl _ rfl
    obtain ⟨t, e1, ht⟩ := h 1 _ rfl _ rfl
    have a2 : cs.drop (1 + 1) = [] := List.drop_eq_nil_of_le (by omega)
    have a1 := cut_at 1 1 a2
    have a0 := cut_at 0 1 a1
    rw [List.drop_zero] at a0
    refine ⟨⟨s, t⟩, ?_, rfl, ⟨Nat.le_trans hs (by omega), Nat.le_trans ht (by omega)⟩⟩
    rw [a0]
    exact congr (congrArg _ e0) (congr (congrArg _ e1) rfl) |>.trans (by simp [flC])
set_option maxRecDepth 100000 in
theorem opens_repo : Opens enc Tryz.prog w 24 (fun cs => ∃ (v : Value) (l : List Fl), cs = [v] ∧ IsF w v l) := by
  refine (opens_struct Tryz.underlying24 1 (by kernel_rfl)
    [fun cs => ∃ (v : Value) (xs : List Fl), cs = [v] ∧ IsSl w v 2 xs.length (xs.flatMap flC) ∧ (∀ x ∈ xs, flOk x) ∧ xs.length * 32 ≤ 140737488351232] rfl ?_).mono ?_
  · intro i f hf ok hok
    match i with
    | 0 => cases hf; cases hok; exact opens_slice 2 32 flC flOk Tryz.underlying22 (by kernel_rfl) (by omega) (by kernel_rfl) opens_file
    | i + 1 => cases hok
  · rintro cs ⟨hl, h⟩
    obtain ⟨v, l, e0, h1, h2, _⟩ := h 0 _ rfl _ rfl
    have a1 : cs.drop (0 + 1) = [] := List.drop_eq_nil_of_le (by omega)
    have a0 := cut_at 0 1 a1
    rw [List.drop_zero] at a0
    refine ⟨v, l, ?_, ⟨h1, h2⟩⟩
    rw [a0]
    exact congr (congrArg _ e0) rfl |>.trans (by simp)
end
/-- An api.Repo as an argument. -/
def ArgRepo (w : World) (v : Value) (fs : List Fl) : Prop := ∃ u : Value, v = .agg #[u] ∧ IsF w u fs
set_option maxRecDepth 100000 in
theorem open_repo {H : Type} {enc : TypeId × Value → H} {w : World} {v : Value} {d : DataW H} {p : List MemPlace} {r : Reach} {b0 : Nat}
    (hv : Value.okWide Tryz.prog w r b0 24 v) (h : DataW.Trod enc Tryz.prog w 0 (fun _ => true) true 24 v d p) (hL : Light Tryz.prog 24 d) : ∃ fs, ArgRepo w v fs := by
  obtain ⟨cs, rfl⟩ := agg_arg Tryz.underlying24 hv
  obtain ⟨u, l, e, k⟩ := arg_of opens_repo h hL
  have e : cs.toList = [u] := by simpa [Value.cells] using e
  exact ⟨l, u, by rw [← Array.toArray_toList (xs := cs), e], k⟩
end Go.Proofs.YtpadfabjihaapaaGreatDoor
