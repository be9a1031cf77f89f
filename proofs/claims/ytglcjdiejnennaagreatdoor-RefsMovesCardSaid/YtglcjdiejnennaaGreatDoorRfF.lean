/- refs.Get. -/
import Derived.Test.YtglcjdiejnennaaGreatDoorRfE
import Derived.Test.YtglcjdiejnennaaGreatDoorIdE
namespace Go.Proofs.YtglcjdiejnennaaGreatDoor
open Go.RowKit
set_option linter.unusedVariables false
set_option linter.unusedSimpArgs false

def getR (l : List Rf) (p : ByteArray) : Option Rf := l.find? fun e => e.name.toList == p.toList
theorem getR_no {l : List Rf} {p : ByteArray} (h : ∀ j (hj : j < l.length), (l[j].name.toList == p.toList) = false) : getR l p = none := by
  unfold getR
  rw [List.find?_eq_none]
  intro x hx
  obtain ⟨j, hj, rfl⟩ := List.mem_iff_getElem.1 hx
  rw [h j hj]
  exact Bool.false_ne_true
theorem getR_at {l : List Rf} (h : RsS l) {i : Nat} (hi : i < l.length) : getR l l[i].name = some l[i] := by
  unfold getR
  rw [List.find?_eq_some_iff_getElem]
  refine ⟨beq_nm.2 rfl, i, hi, rfl, fun j hj => ?_⟩
  have := rs_lt h hi hj
  rw [Bool.not_eq_true', nbeq_nm]
  exact nl_ne this
theorem hit_hasR {l : List Rf} {p : ByteArray} {i : Nat} (hs : RsS l) (h : PlaceR l p i) : (hitR l p i = true → ∃ hi : i < l.length, getR l p = some l[i] ∧ l[i].name = p) ∧ (hitR l p i = false → getR l p = none) := by
  constructor
  · intro hh
    unfold hitR at hh
    simp only [Bool.and_eq_true, decide_eq_true_eq] at hh
    obtain ⟨hi, he⟩ := hh
    rw [getD_rf hi] at he
    refine ⟨hi, ?_, beq_nm.1 he⟩
    rw [← beq_nm.1 he]
    exact getR_at hs hi
  · intro hh
    refine getR_no fun j hj => nbeq_nm.2 fun e => ?_
    rcases Nat.lt_or_ge j i with h1 | h1
    · have := h.low j hj h1
      rw [e, nl_irr] at this
      cases this
    · have h2 := h.high j hj h1
      have hi : i < l.length := by omega
      unfold hitR at hh
      rw [decide_eq_true hi, getD_rf hi, Bool.true_and] at hh
      have h3 := h.high i hi (Nat.le_refl _)
      have h4 : nl p l[i].name = true := by
        cases h5 : nl p l[i].name with
        | true => rfl
        | false => exact absurd (nl_eq h3 h5) (nbeq_nm.1 hh)
      by_cases e2 : j = i
      · subst e2; rw [e, nl_irr] at h4; cases h4
      · have := nl_tr h4 (rs_lt hs hj (by omega))
        rw [e, nl_irr] at this
        cases this
/-- What refs.Get answers. -/
def getA (l : List Rf) (p : ByteArray) : List UInt8 × Int := if okR l = false then (z32, 190) else match getR l p with | some e => (e.id, 0) | none => (z32, 4)
set_option maxHeartbeats 1000000 in
set_option maxRecDepth 100000 in
theorem refsGet (w : World) (v : Value) (l : List Rf) (h : IsR w v l) (p : ByteArray) :
    Calls Tryz.prog 24 #[.agg #[v], .string p] w fun e w' => e = .returned (.tuple #[.agg ((getA l p).1.map bc).toArray, .int .i64 (getA l p).2]) ∧ Ext w w' := by
  obtain ⟨R, hR⟩ : ∃ R, getA l p = R := ⟨_, rfl⟩
  rw [hR]
  have HR := Lib.hid hR
  clear hR
  obtain ⟨ao, cap, rfl⟩ := sl_len h.sl
  have b0 := blk_old (o := .cells (z32.map bc).toArray 33) (heap_alloc_new w (.cells #[.slice ao l.length cap] 63))
  have bR := blk_new (w := w.alloc (.cells #[.slice ao l.length cap] 63)) (b := w.heap.size + 1) (o := .cells (z32.map bc).toArray 33) (by simp)
  have X0 : Ext w ((w.alloc (.cells #[.slice ao l.length cap] 63)).alloc (.cells (z32.map bc).toArray 33)) := ((Ext.refl w).alloc _).alloc _
  have cb : ((w.alloc (.cells #[.slice ao l.length cap] 63)).alloc (.cells (z32.map bc).toArray 33)).cell? ⟨w.heap.size, 0, none⟩ = some (.slice ao l.length cap) := by rw [block_cell b0]; rfl
  have HF := Lib.hid (h.ext X0)
  obtain ⟨_, k1, m1⟩ := sl_cap h.sl
  clear h b0
  go_enter Tryz.func24, Tryz.ntmps24
  go_wp2_with fail
  refine Calls.mono (refsCheck _ _ l HF.out) ?_
  rintro e w1 ⟨rfl, y⟩
  replace bR := y.keeps bR
  replace cb := y.cell cb
  have X := X0.trans y
  have HF1 := HF.out.ext y
  clear y X0 HF
  generalize hG : w.heap.size = G at *
  cases hr : okR l with
  | false =>
    obtain rfl : (z32, 190) = R := by rw [← HR.out]; unfold getA; rw [hr]; rfl
    simp only [show chkR false = 190 from rfl]
    go_wp2_with ((with_reducible refine at_store 33 (.tmp 4) (.tmp 13) ?_); refine wpl_store (by rfl) 33 (.tmp 4) (.tmp 13) rfl (G + 1) (z32.map bc).toArray (by rfl) (by rfl) 33 _ bR (id_size rfl) rfl (id_one _) ?_)
    have hfin : (w1.setRow (G + 1) (z32.map bc).toArray).heap[G + 1]? = some (.cells (z32.map bc).toArray 33 (0, 0)) := setRow_heap _ _ _ _ _ _ bR
    exact bodyPost_ret (results_cell_tmp rfl _ _ (G + 1) _ _ _ _ (by rfl) hfin Tryz.underlying33 rfl (id_size rfl)) rfl ⟨rfl, X.grown grown_setRow' (fun k hk => by simp at hk; omega)⟩
  | true =>
    have hR2 : R = match getR l p with | some e => (e.id, 0) | none => (z32, 4) := by rw [← HR.out]; unfold getA; rw [hr]; rfl
    obtain ⟨hl8, hs, _⟩ := ok_facts hr
    have HS := Lib.hid hs
    have HR2 := Lib.hid hR2
    clear hR2 hr HR hs
    simp only [show chkR true = 0 from rfl]
    go_wp2_with fail
    refine Calls.mono (refsFind w1 _ l HF1 p HS.out (by omega)) ?_
    rintro e w2 ⟨i, hi, rfl, y⟩
    replace cb := y.cell cb
    replace bR := y.keeps bR
    have X := X.trans y
    obtain ⟨q1, q2⟩ := hit_hasR HS.out hi
    have HF2 := HF1.ext y
    clear y
    cases hh : hitR l p i with
    | false =>
      obtain rfl : R = (z32, 4) := by rw [HR2.out, q2 hh]
      clear q1 q2
      go_wp2_with ((with_reducible refine at_store 33 (.tmp 4) (.tmp 23) ?_); refine wpl_store (by rfl) 33 (.tmp 4) (.tmp 23) rfl (G + 1) (z32.map bc).toArray (by rfl) (by rfl) 33 _ bR (id_size rfl) rfl (id_one _) ?_)
      have hfin : (w2.setRow (G + 1) (z32.map bc).toArray).heap[G + 1]? = some (.cells (z32.map bc).toArray 33 (0, 0)) := setRow_heap _ _ _ _ _ _ bR
      exact bodyPost_ret (results_cell_tmp rfl _ _ (G + 1) _ _ _ _ (by rfl) hfin Tryz.underlying33 rfl (id_size rfl)) rfl ⟨rfl, X.grown grown_setRow' (fun k hk => by simp at hk; omega)⟩
    | true =>
      obtain ⟨hil, hgl, _⟩ := q1 hh
      obtain rfl : R = (l[i].id, 0) := by rw [HR2.out, hgl]
      obtain ⟨pb, o, rfl, hra⟩ := rf_at HF2.sl HF2.ok i hil
      obtain ⟨-, hri⟩ := rf_parts hra
      have hIl := (HF2.ok _ (List.getElem_mem hil)).1
      have i1 : (i : Int) < (l.length : Int) := by omega
      clear q1 q2 hgl HF2 HF1 hra hi hh HR2 HS
      obtain ⟨x, hx⟩ : ∃ x, l[i].id = x := ⟨_, rfl⟩
      rw [hx] at hri hIl
      have HX := Lib.hid hx
      clear hx
      have hinf : (Tryz.prog.info? 33).map (·.size) = some (x.map bc).length := by simpa using id_size hIl
      go_wp2_with (first
        | ((with_reducible refine at_load 33 (.tmp 28) ?_); refine wpl_mid (by rfl) 33 (.tmp 28) rfl pb (o + i * 33 + 1) (by rfl) (x.map bc) _ hri Tryz.underlying33 rfl hinf ?_)
        | ((with_reducible refine at_store 33 (.tmp 4) (.tmp 29) ?_); refine wpl_store (by rfl) 33 (.tmp 4) (.tmp 29) rfl (G + 1) (x.map bc).toArray (by rfl) (by rfl) 33 _ bR (id_size hIl) (id_same rfl hIl) (id_one _) ?_))
      have hfin : (w2.setRow (G + 1) (x.map bc).toArray).heap[G + 1]? = some (.cells (x.map bc).toArray 33 (0, 0)) := setRow_heap _ _ _ _ _ _ bR
      exact bodyPost_ret (results_cell_tmp rfl _ _ (G + 1) _ _ _ _ (by rfl) hfin Tryz.underlying33 rfl (id_size hIl)) rfl ⟨by rw [HX.out]; rfl, X.grown grown_setRow' (fun k hk => by simp at hk; omega)⟩
end Go.Proofs.YtglcjdiejnennaaGreatDoor
