/- The walk of the statements' 'large'. -/
import Derived.Test.YtcdlmappcbbacaaDoorObC
namespace Go.Proofs.YtcdlmappcbbacaaDoor
open Go.RowKit
set_option linter.unusedVariables false
set_option linter.unusedSimpArgs false

def longN (es : List EntL) : Bool := es.any fun e => decide ((1000 : Int) < (e.name.size : Int))
/-- Is this more than is gone through? -/
def largeB (o : ObjL) : Bool := decide ((10000 : Int) < (o.bytes.length : Int)) || (decide ((200 : Int) < (o.ents.length : Int)) || (decide ((200 : Int) < (o.pars.length : Int)) || (decide ((5000 : Int) < (o.note.size : Int)) || longN o.ents)))

set_option maxHeartbeats 4000000 in
set_option maxRecDepth 100000 in
theorem lawLarge (w : World) (QA : Array Value) (vb ve vp : Value) (o : ObjL) (h : IsObj w QA vb ve vp o) :
    Calls Tryd.prog 6 #[.agg QA] w fun e w' => e = .returned (.bool (largeB o)) ∧ Ext w w' := by
  have X : Ext w (w.alloc (.cells QA 29)) := (Ext.refl w).alloc _
  have hA := obj_at (heap_alloc_new w (.cells QA 29)) h.eq h.ok
  have h := h.ext X
  obtain ⟨ab, cb, rfl⟩ := sl_len h.vb
  obtain ⟨ae, ce, rfl⟩ := sl_len h.ve
  obtain ⟨ap, cp, rfl⟩ := sl_len h.vp
  obtain ⟨c0, c1, c2, c3, c4, c5, c6⟩ := hA
  have hbn := h.ok.ents
  have hel := h.ok.elen
  have hve := Lib.hid h.ve
  have hce : o.ents.length ≤ ce := by obtain ⟨_, _, _, e, h, _⟩ := hve.out; simp only [Value.slice.injEq] at e; omega
  obtain ⟨R, hR⟩ : ∃ R, R = largeB o := ⟨_, rfl⟩
  rw [← hR]
  unfold largeB at hR
  have HR := Lib.hid hR
  clear hR h
  generalize hG : w.heap.size = G at *
  go_enter Tryd.func6, Tryd.ntmps6
  go_wp2_with fail
  all_goals try (
    go_ret
    refine ⟨ret_bool ?_, X⟩
    rw [HR.out]
    first
      | (have q : decide ((10000 : Int) < (o.bytes.length : Int)) = true := decide_eq_true (by assumption)
         rw [q]; simp only [Bool.true_or, Bool.or_true]; done)
      | (have q : decide ((200 : Int) < (o.ents.length : Int)) = true := decide_eq_true (by assumption)
         rw [q]; simp only [Bool.true_or, Bool.or_true]; done)
      | (have q : decide ((200 : Int) < (o.pars.length : Int)) = true := decide_eq_true (by assumption)
         rw [q]; simp only [Bool.true_or, Bool.or_true]; done)
      | (have q : decide ((5000 : Int) < (o.note.size : Int)) = true := decide_eq_true (by omega)
         rw [q]; simp only [Bool.true_or, Bool.or_true]; done))
  have hR : R = longN o.ents := by
    have q1 : decide ((10000 : Int) < (o.bytes.length : Int)) = false := decide_eq_false (by omega)
    have q2 : decide ((200 : Int) < (o.ents.length : Int)) = false := decide_eq_false (by omega)
    have q3 : decide ((200 : Int) < (o.pars.length : Int)) = false := decide_eq_false (by omega)
    have q4 : decide ((5000 : Int) < (o.note.size : Int)) = false := decide_eq_false (by omega)
    rw [HR.out, q1, q2, q3, q4]
    simp only [Bool.false_or]
  clear HR c0 c1 c3 c4 c5 c6
  generalize o.ents = es at *
  generalize w.alloc (.cells QA 29) = w1 at *
  go_loopg [30] es.length (fun g s30 wr => ∃ i : Nat, i ≤ es.length ∧ es.length - i ≤ g ∧ s30 = .int .i64 i ∧ R = longN (es.drop i) ∧ Ext w wr ∧ Ext w1 wr)
  case atStart => exact ⟨0, Nat.zero_le _, by omega, rfl, hR, X, Ext.refl _⟩
  case round =>
    clear hR
    obtain ⟨i, hi, hg, rfl, hR, xr, xr1⟩ := hrel
    by_cases hlt : i < es.length
    · obtain ⟨p, off, rfl, hra⟩ := ent_at hve.out hbn i hlt
      have hok := hbn _ (List.getElem_mem hlt)
      rw [List.drop_eq_getElem_cons hlt] at hR
      have hra := rangeAt_ext hra xr1
      generalize es[i] = e at *
      have hl34 := entC_len hok
      have hinf := ent_info hok
      have hone := ent_one e
      have hec : entC e = .string e.name :: .bool e.folder :: e.id.map bc := rfl
      have hb2 := hok.2
      have HR := Lib.hid hR
      have i0 : (0 : Int) ≤ (i : Int) := Int.natCast_nonneg _
      have i1 : (i : Int) < (es.length : Int) := by omega
      have cn : (wr.alloc (.cells (entC e).toArray 49)).cell? ⟨wr.heap.size, 0, none⟩ = some (.string e.name) := by rw [block_cell (heap_alloc_new wr _), hec]; rfl
      clear hR hok
      cases hq : decide ((1000 : Int) < (e.name.size : Int)) with
      | true =>
        have hF : R = true := by rw [HR.out]; unfold longN; rw [List.any_cons, hq]; rfl
        have HF := Lib.hid hF
        have hq1 := of_decide_eq_true hq
        clear hF
        go_wp2_with (first
          | ((with_reducible refine at_load 49 (.tmp 32) ?_); refine wpl_mid (by rfl) 49 (.tmp 32) rfl p (off + i * 34) (by rfl) (entC e) _ hra Tryd.underlying49 rfl hinf ?_)
          | ((with_reducible refine at_store 49 (.tmp 4) (.tmp 33) ?_); refine wpl_store (by rfl) 49 (.tmp 4) (.tmp 33) rfl wr.heap.size (entC e).toArray (by rfl) (by rfl) 49 _ (heap_alloc_new _ _) (by simpa using hinf) (by simp [hl34]) (all_oneCell_toArray hone) ?_; rw [World.setRow_alloc_new]))
        go_ret
        exact ⟨ret_bool HF.out.symm, xr.alloc _⟩
      | false =>
        have hF : R = longN (es.drop (i + 1)) := by rw [HR.out]; unfold longN; rw [List.any_cons, hq]; rfl
        have HF := Lib.hid hF
        have hq1 := of_decide_eq_false hq
        clear hF
        go_wp2_with (first
          | ((with_reducible refine at_load 49 (.tmp 32) ?_); refine wpl_mid (by rfl) 49 (.tmp 32) rfl p (off + i * 34) (by rfl) (entC e) _ hra Tryd.underlying49 rfl hinf ?_)
          | ((with_reducible refine at_store 49 (.tmp 4) (.tmp 33) ?_); refine wpl_store (by rfl) 49 (.tmp 4) (.tmp 33) rfl wr.heap.size (entC e).toArray (by rfl) (by rfl) 49 _ (heap_alloc_new _ _) (by simpa using hinf) (by simp [hl34]) (all_oneCell_toArray hone) ?_; rw [World.setRow_alloc_new]))
        go_roundg (es.length - (i + 1))
        case measure => omega
        case rel => exact ⟨i + 1, by omega, by omega, by go_num, HF.out, xr.alloc _, xr1.alloc _⟩
    · have e : i = es.length := by omega
      have hT : R = false := by rw [hR, e, List.drop_length]; rfl
      have HT := Lib.hid hT
      clear hT hR
      go_wp2_with fail
      go_ret
      exact ⟨ret_bool HT.out.symm, xr⟩
end Go.Proofs.YtcdlmappcbbacaaDoor
