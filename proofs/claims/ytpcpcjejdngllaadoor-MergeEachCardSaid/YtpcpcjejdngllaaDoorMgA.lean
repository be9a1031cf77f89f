/- cmp.Compare of strings; a binary search among files; merge.at. -/
import Derived.Test.YtpcpcjejdngllaaDoorFlP
namespace Go.Proofs.YtpcpcjejdngllaaDoor
open Go.RowKit
set_option linter.unusedVariables false
set_option linter.unusedSimpArgs false

def cmpS (a b : ByteArray) : Int := if bl a b = true then -1 else if bl b a = true then 1 else 0
theorem isNaN (w : World) (a : ByteArray) : Calls Tryd.prog 68 #[.string a] w fun e w' => e = .returned (.bool false) ∧ w' = w := by
  go_enter Tryd.func68, Tryd.ntmps68
  go_wp2
  go_ret
  exact ⟨by simp, rfl⟩
theorem cmpCompare (w : World) (a b : ByteArray) : Calls Tryd.prog 46 #[.string a, .string b] w fun e w' => e = .returned (.int .i64 (cmpS a b)) ∧ w' = w := by
  obtain ⟨R, hR⟩ : ∃ R, cmpS a b = R := ⟨_, rfl⟩
  rw [hR]
  have HR := Lib.hid hR
  clear hR
  go_enter Tryd.func46, Tryd.ntmps46
  go_wp2_with fail
  refine Calls.mono (isNaN _ a) ?_
  rintro e w1 ⟨rfl, rfl⟩
  go_wp2_with fail
  refine Calls.mono (isNaN _ b) ?_
  rintro e w1 ⟨rfl, rfl⟩
  cases h1 : Op.bytesLess a.toList b.toList with
  | true =>
    obtain rfl : -1 = R := by rw [← HR.out]; unfold cmpS bl; rw [h1]; rfl
    go_wp2
    go_ret
    exact ⟨rfl, rfl⟩
  | false =>
    cases h2 : (a.toList == b.toList) with
    | false =>
      obtain rfl : 1 = R := by
        have h3 : bl b a = true := by
          cases h : bl b a with
          | true => rfl
          | false => exact absurd (bl_eq h1 h) (nbeq_path.1 h2)
        rw [← HR.out]; unfold cmpS; rw [h3, show bl a b = false from h1]; rfl
      go_wp2
      go_ret
      exact ⟨rfl, rfl⟩
    | true =>
      obtain rfl : 0 = R := by
        have h3 : bl b a = false := by rw [beq_path.1 h2]; exact bl_irr _
        rw [← HR.out]; unfold cmpS; rw [h3, show bl a b = false from h1]; rfl
      go_wp2
      go_ret
      exact ⟨rfl, rfl⟩
theorem atClosure (w : World) (x : Fl) (p : ByteArray) : Calls Tryd.prog 72 #[.agg #[.string x.path, .string x.text], .string p] w fun e w' => e = .returned (.int .i64 (cmpS x.path p)) ∧ Ext w w' := by
  go_enter Tryd.func72, Tryd.ntmps72
  go_wp2_with fail
  refine Calls.mono (cmpCompare _ x.path p) ?_
  rintro e w1 ⟨rfl, rfl⟩
  go_wp2
  go_ret
  exact ⟨rfl, (Ext.refl w).alloc _⟩

/-- Where a path stands, or would stand. -/
structure Place (l : List Fl) (p : ByteArray) (i : Nat) : Prop where
  le : i ≤ l.length
  low : ∀ j (hj : j < l.length), j < i → bl l[j].path p = true
  high : ∀ j (hj : j < l.length), i ≤ j → bl l[j].path p = false
def hitB (l : List Fl) (p : ByteArray) (i : Nat) : Bool := decide (i < l.length) && ((l.getD i default).path.toList == p.toList)
set_option maxHeartbeats 4000000 in
set_option maxRecDepth 100000 in
theorem binSearch (w : World) (v : Value) (l : List Fl) (h : IsF w v l) (p : ByteArray) (g : Nat) (hs : FsS l) (hl : l.length ≤ 1000000)
    (hc : ∀ (W : World) (x : Fl), Calls Tryd.prog g #[.agg #[.string x.path, .string x.text], .string p] W fun e w' => e = .returned (.int .i64 (cmpS x.path p)) ∧ Ext W w')
    (eg : ∀ args w, (callFunc g args).run Tryd.prog w = .ok (.enter g args) w) :
    Calls Tryd.prog 66 #[v, .string p, .func (.func g) #[] #[]] w fun e w' => ∃ i : Nat, Place l p i ∧ e = .returned (.tuple #[.int .i64 (i : Int), .bool (hitB l p i)]) ∧ Ext w w' := by
  obtain ⟨ao, cap, rfl, b1, m1, z1, g1⟩ := h.opened
  have G1 := Lib.hid g1
  have HC := Lib.hid hc
  have HS := Lib.hid hs
  clear g1 z1 h hc hs
  go_enter Tryd.func66, Tryd.ntmps66
  go_wp2
  go_loopg [9, 10] l.length (fun q s9 s10 wr => ∃ i j : Nat, i ≤ j ∧ j ≤ l.length ∧ j - i ≤ q ∧ s9 = .int .i64 (i : Int) ∧ s10 = .int .i64 (j : Int) ∧ (∀ k (hk : k < l.length), k < i → bl l[k].path p = true) ∧ (∀ k (hk : k < l.length), j ≤ k → bl l[k].path p = false) ∧ Ext w wr)
  case atStart => exact ⟨0, l.length, by omega, by omega, by omega, rfl, rfl, fun k _ hk => absurd hk (Nat.not_lt_zero _), fun k h1 h2 => by omega, Ext.refl _⟩
  case round =>
    obtain ⟨i, j, hij, hj, hq, rfl, rfl, hlo, hhi, xr⟩ := hrel
    have HLO := Lib.hid hlo
    have HHI := Lib.hid hhi
    clear hlo hhi
    by_cases hlt : i < j
    · obtain ⟨m, hm⟩ : ∃ m, (i + j) / 2 = m := ⟨_, rfl⟩
      have hm1 : i ≤ m := by omega
      have hm2 : m < j := by omega
      obtain ⟨pb, o, rfl, e0, e1⟩ := G1.out m (by omega)
      have e0 := xr.cell e0
      have e1 := xr.cell e1
      generalize hx : l[m] = x at *
      have HX := Lib.hid hx
      clear hx
      go_wp2_with fail
      refine Calls.mono (HC.out _ x) ?_
      rintro e w2 ⟨rfl, x2⟩
      have hm' : ((i : Int) + j) / 2 = (m : Int) := by omega
      rw [hm']
      cases hb : bl x.path p with
      | true =>
        have hcm : cmpS x.path p = -1 := by unfold cmpS; rw [hb]; rfl
        rw [hcm]
        have HB := Lib.hid hb
        clear hb hcm
        go_wp2_with fail
        go_roundg (j - (m + 1))
        case measure => omega
        case rel =>
          refine ⟨m + 1, j, by omega, by omega, by omega, by go_num, rfl, fun k hk h => ?_, HHI.out, xr.trans x2⟩
          by_cases e : k = m
          · subst e; rw [HX.out]; exact HB.out
          · have h1 := fs_lt HS.out (i := k) (j := m) (by omega) (by omega)
            rw [HX.out] at h1
            exact bl_tr h1 HB.out
      | false =>
        have hcm : ¬ cmpS x.path p < 0 := by unfold cmpS; rw [hb, if_neg (by decide)]; split <;> omega
        have HB := Lib.hid hb
        generalize cmpS x.path p = C at *
        clear hb
        go_wp2_with fail
        go_roundg (m - i)
        case measure => omega
        case rel =>
          refine ⟨i, m, by omega, by omega, by omega, rfl, by go_num, HLO.out, fun k hk h => ?_, xr.trans x2⟩
          by_cases e : k = m
          · subst e; rw [HX.out]; exact HB.out
          · have h1 := fs_lt HS.out (i := m) (j := k) hk (by omega)
            rw [HX.out] at h1
            cases h2 : bl (l[k]).path p with
            | false => rfl
            | true => have := bl_tr h1 h2; rw [HB.out] at this; cases this
    · obtain rfl : i = j := by omega
      have HP := Lib.hid (Place.mk hj HLO.out HHI.out)
      by_cases hil : i < l.length
      · obtain ⟨pb, o, rfl, e0, e1⟩ := G1.out i hil
        have e0 := xr.cell e0
        have e1 := xr.cell e1
        have hhi := HHI.out i hil (Nat.le_refl _)
        have hit : hitB l p i = ((l[i]).path.toList == p.toList) := by unfold hitB; rw [decide_eq_true hil, getD_at hil]; rfl
        generalize hx : l[i] = x at *
        have HIT := Lib.hid hit
        clear hx hit
        go_wp2_with fail
        refine Calls.mono (HC.out _ x) ?_
        rintro e w2 ⟨rfl, x2⟩
        have hcm : (cmpS x.path p == 0) = (x.path.toList == p.toList) := by
          unfold cmpS
          rw [hhi]
          cases h2 : (x.path.toList == p.toList) with
          | true => rw [beq_path.1 h2, bl_irr]; rfl
          | false =>
            have h3 : bl p x.path = true := by
              cases h : bl p x.path with
              | true => rfl
              | false => exact absurd (bl_eq hhi h) (nbeq_path.1 h2)
            rw [h3]; rfl
        have HCM := Lib.hid hcm
        generalize cmpS x.path p = C at *
        clear hcm hhi
        go_wp2_with fail
        go_ret2
        exact ⟨i, HP.out, by rw [HIT.out, ← HCM.out]; rfl, xr.trans x2⟩
      · have hit : hitB l p i = false := by unfold hitB; rw [decide_eq_false hil]; rfl
        have HIT := Lib.hid hit
        have hlt2 : ¬ ((i : Int) < (l.length : Int)) := by omega
        clear hit
        go_wp2_with fail
        go_ret2
        exact ⟨i, HP.out, by rw [HIT.out]; rfl, xr⟩

theorem hit_has {l : List Fl} {p : ByteArray} {i : Nat} (hs : FsS l) (h : Place l p i) : (hitB l p i = true → ∃ hi : i < l.length, getL l p = some l[i]) ∧ (hitB l p i = false → getL l p = none) := by
  constructor
  · intro hh
    unfold hitB at hh
    simp only [Bool.and_eq_true, decide_eq_true_eq] at hh
    obtain ⟨hi, he⟩ := hh
    rw [getD_at hi] at he
    refine ⟨hi, ?_⟩
    rw [← beq_path.1 he]
    exact getL_sorted hs hi
  · intro hh
    refine getL_no fun j hj => nbeq_path.2 fun e => ?_
    rcases Nat.lt_or_ge j i with h1 | h1
    · have := h.low j hj h1
      rw [e, bl_irr] at this
      cases this
    · have h2 := h.high j hj h1
      have hi : i < l.length := by omega
      unfold hitB at hh
      rw [decide_eq_true hi, getD_at hi, Bool.true_and] at hh
      have h3 := h.high i hi (Nat.le_refl _)
      have h4 : bl p l[i].path = true := by
        cases h5 : bl p l[i].path with
        | true => rfl
        | false => exact absurd (bl_eq h3 h5) (nbeq_path.1 hh)
      by_cases e2 : j = i
      · subst e2; rw [e, bl_irr] at h4; cases h4
      · have := bl_tr h4 (fs_lt hs hj (by omega))
        rw [e, bl_irr] at this
        cases this
/-- What stands at a path: is it there, its text. -/
def atM (l : List Fl) (p : ByteArray) : Bool × ByteArray := match getL l p with | some f => (true, f.text) | none => (false, ByteArray.empty)
def mC (m : Bool × ByteArray) : List Value := [.bool m.1, .string m.2]
theorem atM_of {l : List Fl} {p : ByteArray} {f : Fl} (h : getL l p = some f) : atM l p = (true, f.text) := by unfold atM; rw [h]
theorem atM_no {l : List Fl} {p : ByteArray} (h : getL l p = none) : atM l p = (false, ByteArray.empty) := by unfold atM; rw [h]
theorem info2 (a b : Value) : (Tryd.prog.info? 72).map (·.size) = some (#[a, b] : Array Value).size := by show _ = some 2; kernel_rfl
theorem results_cellM {P : Program} {fn : Func} {p : Tmp} {ty : TypeId} (h : fn.results = #[.cell p ty]) (tmps : Array Value) (w : World) (g : Nat) (t : TypeId) (cs : Array Value) (fr : Nat × Nat) (d : TypeDesc)
    (hp : tmps.getD p undef = .pointer (some ⟨g, 0, none⟩)) (hg : w.heap[g]? = some (.cells cs t fr))
    (hu : P.underlying ty = some d) (hd : (match d with | .struct _ | .array _ _ => true | _ => false) = true) (hi : (P.info? ty).map (·.size) = some cs.size) :
    (results fn tmps).run P w = .ok (.agg cs) w := by
  have hp' : tmps[p]?.getD undef = .pointer (some ⟨g, 0, none⟩) := by simpa using hp
  simp [results, h, hp', asAddr, run_loadVar_row w g t ty cs fr d hg hu hd hi]
set_option maxHeartbeats 4000000 in
set_option maxRecDepth 100000 in
theorem mergeAt (w : World) (v : Value) (l : List Fl) (h : IsF w v l) (p : ByteArray) (hs : FsS l) (hl : l.length ≤ 1000000) :
    Calls Tryd.prog 61 #[.agg #[v], .string p] w fun e w' => e = .returned (.agg (mC (atM l p)).toArray) ∧ Ext w w' := by
  obtain ⟨R, hR⟩ : ∃ R, atM l p = R := ⟨_, rfl⟩
  rw [hR]
  have HR := Lib.hid hR
  clear hR
  have b0 := blk_old (o := .cells #[.bool false, .string ⟨#[]⟩] 72) (heap_alloc_new w (.cells #[v] 24))
  have bR := blk_new (w := w.alloc (.cells #[v] 24)) (b := w.heap.size + 1) (o := .cells #[.bool false, .string ⟨#[]⟩] 72) (by simp)
  have X0 : Ext w ((w.alloc (.cells #[v] 24)).alloc (.cells #[.bool false, .string ⟨#[]⟩] 72)) := ((Ext.refl w).alloc _).alloc _
  have HF := Lib.hid (h.ext X0)
  obtain ⟨ao, cap, rfl, _, _, _, g1⟩ := (h.ext X0).opened
  have G1 := Lib.hid g1
  have cb : ((w.alloc (.cells #[.slice ao l.length cap] 24)).alloc (.cells #[.bool false, .string ⟨#[]⟩] 72)).cell? ⟨w.heap.size, 0, none⟩ = some (.slice ao l.length cap) := by rw [block_cell b0]; rfl
  have HS := Lib.hid hs
  clear h g1 b0 hs
  go_enter Tryd.func61, Tryd.ntmps61
  go_wp2_with fail
  generalize (w.alloc (.cells #[.slice ao l.length cap] 24)).alloc (.cells #[.bool false, .string ⟨#[]⟩] 72) = w0 at *
  generalize hG : w.heap.size = G at *
  refine Calls.mono (binSearch w0 _ l HF.out p 72 HS.out hl (fun W x => atClosure W x p) (enters_of Tryd.func72 (by kernel_rfl) rfl)) ?_
  rintro e w1 ⟨i, hi, rfl, x1⟩
  have cb1 := x1.cell cb
  have bR1 := x1.keeps bR
  have f0 := block_free bR1 0
  have f1 := block_free bR1 1
  have k0 := block_cell bR1 0
  have k1 := block_cell bR1 1
  obtain ⟨q1, q2⟩ := hit_has HS.out hi
  cases hh : hitB l p i with
  | true =>
    obtain ⟨hil, hgl⟩ := q1 hh
    obtain rfl : (true, l[i].text) = R := by rw [← HR.out]; exact (atM_of hgl).symm
    obtain ⟨pb, o, rfl, e0, e1⟩ := G1.out i hil
    have e1 := x1.cell e1
    clear q1 q2 HR hgl
    obtain ⟨x, hx⟩ : ∃ x, l[i] = x := ⟨_, rfl⟩
    rw [hx] at e1
    have HX := Lib.hid hx
    clear hx e0
    go_wp2_with fail
    have bF : ((w1.setCell ⟨G + 1, 0, none⟩ (.bool true)).setCell ⟨G + 1, 1, none⟩ (.string x.text)).heap[G + 1]? = some (.cells #[.bool true, .string x.text] 72 (0, 0)) := block_setCell (block_setCell bR1 (i := 0) (.bool true)) (i := 1) (.string x.text)
    refine bodyPost_ret (results_cellM rfl _ _ (G + 1) _ _ _ _ (by rfl) bF Tryd.underlying72 rfl (info2 _ _)) rfl ?_
    refine ⟨by rw [HX.out]; rfl, ((X0.trans x1).setCell (p := ⟨G + 1, 0, none⟩) ?_ _).setCell (p := ⟨G + 1, 1, none⟩) ?_ _⟩ <;> (show w.heap.size ≤ G + 1; omega)
  | false =>
    obtain rfl : (false, ByteArray.empty) = R := by rw [← HR.out]; exact (atM_no (q2 hh)).symm
    clear q1 q2 HR
    go_wp2_with fail
    have bF : ((w1.setCell ⟨G + 1, 0, none⟩ (.bool false)).setCell ⟨G + 1, 1, none⟩ (.string ⟨#[]⟩)).heap[G + 1]? = some (.cells #[.bool false, .string ⟨#[]⟩] 72 (0, 0)) := block_setCell (block_setCell bR1 (i := 0) (.bool false)) (i := 1) (.string ⟨#[]⟩)
    refine bodyPost_ret (results_cellM rfl _ _ (G + 1) _ _ _ _ (by rfl) bF Tryd.underlying72 rfl (info2 _ _)) rfl ?_
    refine ⟨rfl, ((X0.trans x1).setCell (p := ⟨G + 1, 0, none⟩) ?_ _).setCell (p := ⟨G + 1, 1, none⟩) ?_ _⟩ <;> (show w.heap.size ≤ G + 1; omega)
end Go.Proofs.YtpcpcjejdngllaaDoor
