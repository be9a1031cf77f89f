/- Names in order; cmp.Compare; a binary search among branches; refs.find; slices.Clone at branches. -/
import Derived.Test.YtglcjdiejnennaaGreatDoorRfD
import Derived.Sort.Walk0
import Derived.Lib.SliceRun
namespace Go.Proofs.YtglcjdiejnennaaGreatDoor
open Go.RowKit
set_option linter.unusedVariables false
set_option linter.unusedSimpArgs false

theorem nm_eq (a b : ByteArray) : (a.toList == b.toList) = decide (a = b) := by
  rw [ByteArray.toList_eq, ByteArray.toList_eq, Bool.eq_iff_iff, beq_iff_eq, decide_eq_true_iff]
  obtain ⟨⟨x⟩⟩ := a
  obtain ⟨⟨y⟩⟩ := b
  simp
/-- A name stands ahead of another. -/
def nl (a b : ByteArray) : Bool := Op.bytesLess a.toList b.toList
theorem nl_irr (a : ByteArray) : nl a a = false := by
  unfold nl; rw [bytesLess_eq, decide_eq_false_iff_not]; exact List.lt_irrefl _
theorem nl_tr {a b c : ByteArray} (h1 : nl a b = true) (h2 : nl b c = true) : nl a c = true := by
  unfold nl at *
  rw [bytesLess_eq, decide_eq_true_eq] at *
  exact List.lt_trans h1 h2
theorem nl_as {a b : ByteArray} (h1 : nl a b = true) : nl b a = false := by
  cases h : nl b a with
  | false => rfl
  | true => have := nl_tr h1 h; rw [nl_irr] at this; cases this
theorem nl_eq {a b : ByteArray} (h1 : nl a b = false) (h2 : nl b a = false) : a = b := by
  unfold nl at *
  rw [bytesLess_eq, decide_eq_false_iff_not] at *
  have : a.toList = b.toList := by
    rcases Std.lt_trichotomy b.toList a.toList with h3 | h3 | h3
    · exact absurd h3 h2
    · exact h3.symm
    · exact absurd h3 h1
  have h := nm_eq a b
  rw [this, beq_self_eq_true] at h
  exact of_decide_eq_true h.symm
theorem nl_ne {a b : ByteArray} (h : nl a b = true) : a ≠ b := fun e => by subst e; rw [nl_irr] at h; cases h
theorem beq_nm {a b : ByteArray} : ((a.toList == b.toList) = true) ↔ a = b := by rw [nm_eq]; exact decide_eq_true_iff
theorem nbeq_nm {a b : ByteArray} : ((a.toList == b.toList) = false) ↔ a ≠ b := by rw [nm_eq]; exact decide_eq_false_iff_not
/-- Branches in order. -/
def RsS (l : List Rf) : Prop := l.Pairwise fun a b => nl a.name b.name = true
theorem rs_chain : ∀ (l : List Rf) (q : ByteArray), rsB (some q) l = true → RsS l ∧ (∀ e ∈ l, nameB e.name = true ∧ nl q e.name = true)
  | [], _, _ => ⟨List.Pairwise.nil, fun e h => by cases h⟩
  | e :: r, q, h => by
    have h0 : (nameB e.name && Op.bytesLess q.toList e.name.toList && rsB (some e.name) r) = true := by
      cases h1 : nameB e.name with
      | false => rw [rs_bad h1] at h; cases h
      | true =>
        cases h2 : Op.bytesLess q.toList e.name.toList with
        | false => rw [rs_fall h2] at h; cases h
        | true => rw [rs_next h1 h2] at h; rw [h]; rfl
    simp only [Bool.and_eq_true] at h0
    obtain ⟨a, b⟩ := rs_chain r e.name h0.2
    refine ⟨List.Pairwise.cons (fun x hx => (b x hx).2) a, fun x hx => ?_⟩
    rcases List.mem_cons.1 hx with rfl | hx
    · exact ⟨h0.1.1, h0.1.2⟩
    · exact ⟨(b x hx).1, nl_tr h0.1.2 (b x hx).2⟩
theorem ok_facts {l : List Rf} (h : okR l = true) : l.length ≤ 8 ∧ RsS l ∧ ∀ e ∈ l, nameB e.name = true := by
  unfold okR at h
  simp only [Bool.and_eq_true, decide_eq_true_eq] at h
  refine ⟨h.1, ?_⟩
  cases l with
  | nil => exact ⟨List.Pairwise.nil, fun e h => by cases h⟩
  | cons e r =>
    have h2 := h.2
    cases h1 : nameB e.name with
    | false => rw [rs_bad h1] at h2; cases h2
    | true =>
      rw [rs_first h1] at h2
      obtain ⟨a, b⟩ := rs_chain r e.name h2
      refine ⟨List.Pairwise.cons (fun x hx => (b x hx).2) a, fun x hx => ?_⟩
      rcases List.mem_cons.1 hx with rfl | hx
      · exact h1
      · exact (b x hx).1
theorem rs_of : ∀ (l : List Rf) (q : ByteArray), RsS l → (∀ e ∈ l, nameB e.name = true ∧ nl q e.name = true) → rsB (some q) l = true
  | [], _, _, _ => rfl
  | e :: r, q, h, hn => by
    rw [rs_next (hn e (List.mem_cons_self ..)).1 (hn e (List.mem_cons_self ..)).2]
    have h := List.pairwise_cons.1 h
    exact rs_of r e.name h.2 fun x hx => ⟨(hn x (List.mem_cons_of_mem _ hx)).1, h.1 x hx⟩
theorem ok_of {l : List Rf} (h1 : l.length ≤ 8) (h2 : RsS l) (h3 : ∀ e ∈ l, nameB e.name = true) : okR l = true := by
  unfold okR
  rw [decide_eq_true h1, Bool.true_and]
  cases l with
  | nil => rfl
  | cons e r =>
    rw [rs_first (h3 e (List.mem_cons_self ..))]
    have h := List.pairwise_cons.1 h2
    exact rs_of r e.name h.2 fun x hx => ⟨h3 x (List.mem_cons_of_mem _ hx), h.1 x hx⟩
theorem rs_lt {l : List Rf} (h : RsS l) {i j : Nat} (hj : j < l.length) (hij : i < j) : nl (l[i]'(by omega)).name l[j].name = true := (List.pairwise_iff_getElem.1 h) i j (by omega) hj hij

def cmpN (a b : ByteArray) : Int := if nl a b = true then -1 else if nl b a = true then 1 else 0
theorem isNaN (w : World) (a : ByteArray) : Calls Tryz.prog 94 #[.string a] w fun e w' => e = .returned (.bool false) ∧ w' = w := by
  go_enter Tryz.func94, Tryz.ntmps94
  go_wp2
  go_ret
  exact ⟨by simp, rfl⟩
theorem cmpCompare (w : World) (a b : ByteArray) : Calls Tryz.prog 67 #[.string a, .string b] w fun e w' => e = .returned (.int .i64 (cmpN a b)) ∧ w' = w := by
  obtain ⟨R, hR⟩ : ∃ R, cmpN a b = R := ⟨_, rfl⟩
  rw [hR]
  have HR := Lib.hid hR
  clear hR
  go_enter Tryz.func67, Tryz.ntmps67
  go_wp2_with fail
  refine Calls.mono (isNaN _ a) ?_
  rintro e w1 ⟨rfl, rfl⟩
  go_wp2_with fail
  refine Calls.mono (isNaN _ b) ?_
  rintro e w1 ⟨rfl, rfl⟩
  cases h1 : Op.bytesLess a.toList b.toList with
  | true =>
    obtain rfl : -1 = R := by rw [← HR.out]; unfold cmpN nl; rw [h1]; rfl
    go_wp2
    go_ret
    exact ⟨rfl, rfl⟩
  | false =>
    cases h2 : (a.toList == b.toList) with
    | false =>
      obtain rfl : 1 = R := by
        have h3 : nl b a = true := by
          cases h : nl b a with
          | true => rfl
          | false => exact absurd (nl_eq h1 h) (nbeq_nm.1 h2)
        rw [← HR.out]; unfold cmpN; rw [h3, show nl a b = false from h1]; rfl
      go_wp2
      go_ret
      exact ⟨rfl, rfl⟩
    | true =>
      obtain rfl : 0 = R := by
        have h3 : nl b a = false := by rw [beq_nm.1 h2]; exact nl_irr _
        rw [← HR.out]; unfold cmpN; rw [h3, show nl a b = false from h1]; rfl
      go_wp2
      go_ret
      exact ⟨rfl, rfl⟩
theorem rfClosure (w : World) (x : Rf) (p : ByteArray) : Calls Tryz.prog 72 #[.agg (rfC x).toArray, .string p] w fun e w' => e = .returned (.int .i64 (cmpN x.name p)) ∧ Ext w w' := by
  have bn := heap_alloc_new w (.cells (rfC x).toArray 78)
  have cn : (w.alloc (.cells (rfC x).toArray 78)).cell? ⟨w.heap.size, 0, none⟩ = some (.string x.name) := by rw [block_cell bn]; rfl
  clear bn
  generalize (rfC x).toArray = EA at *
  go_enter Tryz.func72, Tryz.ntmps72
  go_wp2_with fail
  refine Calls.mono (cmpCompare _ x.name p) ?_
  rintro e w1 ⟨rfl, rfl⟩
  go_wp2
  go_ret
  exact ⟨rfl, (Ext.refl w).alloc _⟩

/-- Where a name stands, or would stand. -/
structure PlaceR (l : List Rf) (p : ByteArray) (i : Nat) : Prop where
  le : i ≤ l.length
  low : ∀ j (hj : j < l.length), j < i → nl l[j].name p = true
  high : ∀ j (hj : j < l.length), i ≤ j → nl l[j].name p = false
def hitR (l : List Rf) (p : ByteArray) (i : Nat) : Bool := decide (i < l.length) && ((l.getD i rf0).name.toList == p.toList)
theorem getD_rf {l : List Rf} {i : Nat} (h : i < l.length) : l.getD i rf0 = l[i] := by
  rw [List.getD_eq_getElem?_getD, List.getElem?_eq_getElem h]; rfl
set_option maxHeartbeats 1000000 in
set_option maxRecDepth 100000 in
theorem binSearchR (w : World) (v : Value) (l : List Rf) (h : IsR w v l) (p : ByteArray) (hs : RsS l) (hl : l.length ≤ 1000000) :
    Calls Tryz.prog 71 #[v, .string p, .func (.func 72) #[] #[]] w fun e w' => ∃ i : Nat, PlaceR l p i ∧ e = .returned (.tuple #[.int .i64 (i : Int), .bool (hitR l p i)]) ∧ Ext w w' := by
  have eg : ∀ args w, (callFunc 72 args).run Tryz.prog w = .ok (.enter 72 args) w := enters_of Tryz.func72 (by kernel_rfl) rfl
  obtain ⟨ao, cap, rfl⟩ := sl_len h.sl
  obtain ⟨_, k1, m1⟩ := sl_cap h.sl
  have H := Lib.hid h.sl
  have O := Lib.hid h.ok
  have HS := Lib.hid hs
  clear h hs
  go_enter Tryz.func71, Tryz.ntmps71
  go_wp2_with fail
  go_loopg [9, 10] l.length (fun q s9 s10 wr => ∃ i j : Nat, i ≤ j ∧ j ≤ l.length ∧ j - i ≤ q ∧ s9 = .int .i64 (i : Int) ∧ s10 = .int .i64 (j : Int) ∧ (∀ k (hk : k < l.length), k < i → nl l[k].name p = true) ∧ (∀ k (hk : k < l.length), j ≤ k → nl l[k].name p = false) ∧ Ext w wr)
  case atStart => exact ⟨0, l.length, by omega, by omega, by omega, rfl, rfl, fun k _ hk => absurd hk (Nat.not_lt_zero _), fun k h1 h2 => by omega, Ext.refl _⟩
  case round =>
    obtain ⟨i, j, hij, hj, hq, rfl, rfl, hlo, hhi, xr⟩ := hrel
    have HLO := Lib.hid hlo
    have HHI := Lib.hid hhi
    clear hlo hhi
    by_cases hlt : i < j
    · obtain ⟨m, hm⟩ : ∃ m, (i + j) / 2 = m := ⟨_, rfl⟩
      have hm1 : i ≤ m := by omega
      have hm2 : m < j := by omega
      have hml : m < l.length := by omega
      obtain ⟨pb, o, rfl, hra⟩ := rf_at H.out O.out m hml
      have hra := rangeAt_ext hra xr
      have hinf := rf_info (O.out _ (List.getElem_mem hml))
      generalize hx : l[m] = x at *
      have HX := Lib.hid hx
      have hm' : ((i : Int) + j) / 2 = (m : Int) := by omega
      clear hx
      go_wp2_with ((with_reducible refine at_load 78 (.tmp 27) ?_); refine wpl_mid (by rfl) 78 (.tmp 27) rfl pb (o + m * 33) (by first | rfl | (rw [hm']; rfl)) (rfC x) _ hra Tryz.underlying78 rfl hinf ?_)
      refine Calls.mono (rfClosure _ x p) ?_
      rintro e w2 ⟨rfl, x2⟩
      try rw [hm']
      cases hb : nl x.name p with
      | true =>
        have hcm : cmpN x.name p = -1 := by unfold cmpN; rw [hb]; rfl
        rw [hcm]
        have HB := Lib.hid hb
        clear hb hcm
        go_wp2_with fail
        go_roundg (j - (m + 1))
        case measure => omega
        case rel =>
          refine ⟨m + 1, j, by omega, by omega, by omega, by go_num, rfl, fun k hk h => ?_, HHI.out, xr.trans x2⟩
          by_cases e : k = m
          · subst e; rw [HX.out]; exact HB.out
          · have h1 := rs_lt HS.out (i := k) (j := m) (by omega) (by omega)
            rw [HX.out] at h1
            exact nl_tr h1 HB.out
      | false =>
        have hcm : ¬ cmpN x.name p < 0 := by unfold cmpN; rw [hb, if_neg (by decide)]; split <;> omega
        have HB := Lib.hid hb
        generalize cmpN x.name p = C at *
        clear hb
        go_wp2_with fail
        go_roundg (m - i)
        case measure => omega
        case rel =>
          refine ⟨i, m, by omega, by omega, by omega, rfl, by go_num, HLO.out, fun k hk h => ?_, xr.trans x2⟩
          by_cases e : k = m
          · subst e; rw [HX.out]; exact HB.out
          · have h1 := rs_lt HS.out (i := m) (j := k) hk (by omega)
            rw [HX.out] at h1
            cases h2 : nl (l[k]).name p with
            | false => rfl
            | true => have := nl_tr h1 h2; rw [HB.out] at this; cases this
    · obtain rfl : i = j := by omega
      have HP := Lib.hid (PlaceR.mk hj HLO.out HHI.out)
      by_cases hil : i < l.length
      · obtain ⟨pb, o, rfl, hra⟩ := rf_at H.out O.out i hil
        have hra := rangeAt_ext hra xr
        have hinf := rf_info (O.out _ (List.getElem_mem hil))
        have hhi := HHI.out i hil (Nat.le_refl _)
        have hit : hitR l p i = ((l[i]).name.toList == p.toList) := by unfold hitR; rw [decide_eq_true hil, getD_rf hil]; rfl
        generalize hx : l[i] = x at *
        have HIT := Lib.hid hit
        have i1 : (i : Int) < (l.length : Int) := by omega
        clear hx hit
        go_wp2_with ((with_reducible refine at_load 78 (.tmp 43) ?_); refine wpl_mid (by rfl) 78 (.tmp 43) rfl pb (o + i * 33) (by rfl) (rfC x) _ hra Tryz.underlying78 rfl hinf ?_)
        refine Calls.mono (rfClosure _ x p) ?_
        rintro e w2 ⟨rfl, x2⟩
        have hcm : (cmpN x.name p == 0) = (x.name.toList == p.toList) := by
          unfold cmpN
          rw [hhi]
          cases h2 : (x.name.toList == p.toList) with
          | true => rw [beq_nm.1 h2, nl_irr]; rfl
          | false =>
            have h3 : nl p x.name = true := by
              cases h : nl p x.name with
              | true => rfl
              | false => exact absurd (nl_eq hhi h) (nbeq_nm.1 h2)
            rw [h3]; rfl
        have HCM := Lib.hid hcm
        generalize cmpN x.name p = C at *
        clear hcm hhi
        go_wp2_with fail
        go_ret2
        exact ⟨i, HP.out, by rw [HIT.out, ← HCM.out]; rfl, xr.trans x2⟩
      · have hit : hitR l p i = false := by unfold hitR; rw [decide_eq_false hil]; rfl
        have HIT := Lib.hid hit
        have hlt2 : ¬ ((i : Int) < (l.length : Int)) := by omega
        clear hit
        go_wp2_with fail
        go_ret2
        exact ⟨i, HP.out, by rw [HIT.out]; rfl, xr⟩
set_option maxHeartbeats 1000000 in
theorem refsFind (w : World) (v : Value) (l : List Rf) (h : IsR w v l) (p : ByteArray) (hs : RsS l) (hl : l.length ≤ 1000000) :
    Calls Tryz.prog 42 #[.agg #[v], .string p] w fun e w' => ∃ i : Nat, PlaceR l p i ∧ e = .returned (.tuple #[.int .i64 (i : Int), .bool (hitR l p i)]) ∧ Ext w w' := by
  obtain ⟨ao, cap, rfl⟩ := sl_len h.sl
  have b0 := heap_alloc_new w (.cells #[.slice ao l.length cap] 63)
  have X0 := (Ext.refl w).alloc (.cells #[.slice ao l.length cap] 63)
  have HF := Lib.hid (h.ext X0)
  have cb := (block_cell b0 0).trans (show _ = some (Value.slice ao l.length cap) from rfl)
  have HS := Lib.hid hs
  clear h b0 hs
  go_enter Tryz.func42, Tryz.ntmps42
  go_wp2_with fail
  generalize w.alloc (.cells #[.slice ao l.length cap] 63) = w0 at *
  refine Calls.mono (binSearchR w0 _ l HF.out p HS.out hl) ?_
  rintro e w1 ⟨i, hi, rfl, x1⟩
  go_wp2_with fail
  go_ret2
  exact ⟨i, hi, rfl, X0.trans x1⟩
theorem rfC_one (l : List Rf) : ∀ u ∈ l.flatMap rfC, u.oneCell' = true := by
  intro u hu
  obtain ⟨x, _, hx⟩ := List.mem_flatMap.1 hu
  exact rf_one x u hx
theorem rf_flat {l : List Rf} (h : ∀ e ∈ l, RfOk e) : (l.flatMap rfC).length = l.length * 33 := flat_len rfC 33 l fun x hx => rfC_len (h x hx)
set_option maxHeartbeats 1000000 in
set_option maxRecDepth 100000 in
theorem cloneR (w : World) (v : Value) (l : List Rf) (h : IsR w v l) (hl : l.length ≤ 1000000) :
    Calls Tryz.prog 43 #[v] w fun e w' => ∃ v', e = .returned v' ∧ w'.ownsRow w.heap.size 78 33 v' l.length (l.flatMap rfC) ∧ Ext w w' := by
  have hx := h
  obtain ⟨zE, tyE⟩ := tyRf
  have q22 : ∀ (w : World) (a : Option Addr) (n c n' c' : Nat), (binOp .eql 61 (.slice a n c) (.slice none n' c')).run Tryz.prog w = .ok (.bool a.isNone) w := fun w a n c n' c' => Lib.run_eql_slice_nil w _ _ a n c n' c' Tryz.underlying61
  obtain ⟨ao, cap, rfl⟩ := sl_len h.sl
  obtain ⟨_, k1, m1⟩ := sl_cap h.sl
  have z1 : ao = none → cap = 0 := by
    obtain ⟨_, ao', cap', e, _, _, h4, _⟩ := h.sl
    simp only [Value.slice.injEq] at e
    obtain ⟨rfl, _, rfl⟩ := e
    exact h4
  cases ao with
  | none =>
    have hc := z1 rfl
    have hn : l = [] := List.eq_nil_of_length_eq_zero (by omega)
    subst hn
    subst hc
    clear z1 hx h
    go_enter Tryz.func43, Tryz.ntmps43
    go_wp2_with fail
    go_ret
    exact ⟨_, rfl, World.ownsRow_nil _ _ _ _, Ext.refl _⟩
  | some a =>
    clear z1 h
    have o0 := World.ownsRow_made (base := w.heap.size) (e := 78) (size := 33) w #[] 0 (Nat.le_refl _) (by decide) rfl
    go_enter Tryz.func43, Tryz.ntmps43
    go_wp2_with (at_builtin; refine wp_app tyE rfl _ _ rfl w.heap.size _ 0 [] o0 (by rfl) _ l.length (l.flatMap rfC) (hx.sl.ext ((Ext.refl _).alloc _)) (by rfl) (rfC_one l) (by omega) (by omega) (by simp) ?_; intro v2 w2 own2 gr2)
    go_ret
    have x2 := own_base o0 gr2 ((Ext.refl w).alloc _) (Nat.le_refl _)
    rw [Nat.zero_add, List.nil_append] at own2
    exact ⟨v2, rfl, own2, x2⟩
end Go.Proofs.YtglcjdiejnennaaGreatDoor
