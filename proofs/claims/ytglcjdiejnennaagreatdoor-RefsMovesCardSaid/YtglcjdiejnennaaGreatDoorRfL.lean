/- The reference's Apply, whatever the move. -/
import Derived.Test.YtglcjdiejnennaaGreatDoorRfKm
import Derived.Test.YtglcjdiejnennaaGreatDoorRfKf
namespace Go.Proofs.YtglcjdiejnennaaGreatDoor
theorem refApply09 (w : World) (v : Value) (l : List Rf) (h : IsR w v l) (hl : l.length ≤ 100) (m : Mv) (hm : MvOk m) :
    Calls Tryz.prog 21 #[.agg #[v], .agg (mvC m).toArray] w fun e w' => ∃ v', e = .returned (.tuple #[.agg #[v'], .int .i64 (applyS l m).2]) ∧ IsR w' v' (applyS l m).1 ∧ Ext w w' := by
  cases hz : zr m.fr with
  | true => exact refApplyM w v l h hl m hm hz
  | false => exact refApplyF w v l h hl m hm hz
end Go.Proofs.YtglcjdiejnennaaGreatDoor

namespace Go.Proofs.YtglcjdiejnennaaGreatDoor
open Go.RowKit
set_option linter.unusedVariables false
set_option linter.unusedSimpArgs false

def notN (nm : ByteArray) (x : Rf) : Bool := !(x.name.toList == nm.toList)
theorem keepL_is (nm : ByteArray) (x : Rf) (r : List Rf) : keepL nm x ++ r.filter (notN nm) = (x :: r).filter (notN nm) := by
  unfold keepL
  cases h : (x.name.toList == nm.toList) with
  | true => rw [List.filter_cons_of_neg (by simp [notN, h])]; rfl
  | false => rw [List.filter_cons_of_pos (by simp [notN, h])]; rfl
theorem step_true (nm : ByteArray) (dst : List UInt8) : ∀ l : List Rf, stepL nm dst l true = l.filter (notN nm)
  | [] => rfl
  | x :: r => by
    rw [← keepL_is, ← step_true nm dst r]
    simp [stepL]
theorem step_false (nm : ByteArray) (dst : List UInt8) : ∀ l : List Rf, stepL nm dst l false = l.take (plcR l nm) ++ ⟨nm, dst⟩ :: (l.drop (plcR l nm)).filter (notN nm)
  | [] => rfl
  | x :: r => by
    have ih := step_false nm dst r
    unfold plcR at ih ⊢
    cases h : nl x.name nm with
    | true =>
      rw [List.takeWhile_cons_of_pos (by simpa using h), List.length_cons, List.take_succ_cons, List.drop_succ_cons, List.cons_append, ← ih]
      have hne : (x.name.toList == nm.toList) = false := nbeq_nm.2 (nl_ne h)
      simp [stepL, h, keepL, hne]
    | false =>
      rw [List.takeWhile_cons_of_neg (by simpa using h)]
      simp only [List.length_nil, List.take_zero, List.drop_zero, List.nil_append]
      rw [← keepL_is, ← step_true nm dst r]
      simp [stepL, h]
theorem filter_none {nm : ByteArray} {l : List Rf} (h : getR l nm = none) : l.filter (notN nm) = l := by
  unfold getR at h
  rw [List.find?_eq_none] at h
  rw [List.filter_eq_self]
  intro x hx
  have := h x hx
  simpa [notN] using this
theorem getR_drop {nm : ByteArray} {l : List Rf} (h : getR l nm = none) (k : Nat) : getR (l.drop k) nm = none := by
  unfold getR at h ⊢
  rw [List.find?_eq_none] at h ⊢
  exact fun x hx => h x (List.mem_of_mem_drop hx)
theorem at_plc {nm : ByteArray} {l : List Rf} {e : Rf} (hs : RsS l) (h : getR l nm = some e) : ∃ hi : plcR l nm < l.length, l[plcR l nm] = e ∧ e.name = nm := by
  unfold getR at h
  rw [List.find?_eq_some_iff_getElem] at h
  obtain ⟨hn, i, hi, he, _⟩ := h
  have hn := beq_nm.1 hn
  have hp : PlaceR l nm i := by
    refine ⟨by omega, fun j hj hji => ?_, fun j hj hij => ?_⟩
    · have := rs_lt hs hi hji
      rw [he, hn] at this
      exact this
    · rcases Nat.lt_or_ge i j with h1 | h1
      · have := rs_lt hs hj h1
        rw [he, hn] at this
        exact nl_as this
      · obtain rfl : i = j := by omega
        rw [he, hn]
        exact nl_irr _
  have := plc_is hp
  subst this
  exact ⟨hi, he, hn⟩
theorem filter_drop {nm : ByteArray} {l : List Rf} {e : Rf} (hs : RsS l) (h : getR l nm = some e) : (l.drop (plcR l nm)).filter (notN nm) = l.drop (plcR l nm + 1) ∧ (l.take (plcR l nm)).filter (notN nm) = l.take (plcR l nm) := by
  obtain ⟨hi, he, hn⟩ := at_plc hs h
  constructor
  · rw [List.drop_eq_getElem_cons hi, List.filter_cons_of_neg (by rw [he]; simp [notN, hn]), List.filter_eq_self]
    intro x hx
    obtain ⟨j, hj, rfl⟩ := List.mem_iff_getElem.1 hx
    rw [List.getElem_drop]
    rw [List.length_drop] at hj
    have := rs_lt hs (i := plcR l nm) (j := plcR l nm + 1 + j) (by omega) (by omega)
    rw [he, hn] at this
    have h2 := nbeq_nm.2 (nl_ne this).symm
    simp only [notN, h2, Bool.not_false]
  · rw [List.filter_eq_self]
    intro x hx
    obtain ⟨j, hj, rfl⟩ := List.mem_iff_getElem.1 hx
    rw [List.getElem_take]
    rw [List.length_take] at hj
    have := rs_lt hs hi (i := j) (by omega)
    rw [he, hn] at this
    have h2 := nbeq_nm.2 (nl_ne this)
    simp only [notN, h2, Bool.not_false]
theorem apply_eq (l : List Rf) (m : Mv) : applyS l m = applyR l m := by
  unfold applyS applyR
  cases hb : (!okR l || (!nameB m.nm || (zr m.fr && zr m.dst))) with
  | true => rfl
  | false =>
    rw [if_neg Bool.false_ne_true, if_neg Bool.false_ne_true]
    simp only [Bool.or_eq_false_iff, Bool.not_eq_false'] at hb
    obtain ⟨hr, _, hz⟩ := hb
    obtain ⟨_, hs, _⟩ := ok_facts hr
    cases hg : getR l m.nm with
    | none =>
      simp only
      cases hf : zr m.fr with
      | false => rfl
      | true =>
        rw [hf, Bool.true_and] at hz
        rw [hz, step_false, filter_none (getR_drop hg _)]
    | some e =>
      simp only
      cases hf : zr m.fr with
      | true => rfl
      | false =>
        obtain ⟨f1, f2⟩ := filter_drop hs hg
        cases hd : zr m.dst with
        | true =>
          have : stepL m.nm m.dst l true = l.take (plcR l m.nm) ++ l.drop (plcR l m.nm + 1) := by
            rw [step_true]
            conv => lhs; rw [← List.take_append_drop (plcR l m.nm) l]
            rw [List.filter_append, f1, f2]
          rw [this]; simp
        | false =>
          rw [step_false, f1]; simp
end Go.Proofs.YtglcjdiejnennaaGreatDoor
