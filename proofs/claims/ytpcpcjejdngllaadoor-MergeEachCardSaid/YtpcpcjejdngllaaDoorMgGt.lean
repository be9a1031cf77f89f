/- tree.find, tree.Get. -/
import Derived.Test.YtpcpcjejdngllaaDoorMgCh
namespace Go.Proofs.YtpcpcjejdngllaaDoor
open Go.RowKit
set_option linter.unusedVariables false
set_option linter.unusedSimpArgs false

theorem findClosure (w : World) (x : Fl) (p : ByteArray) : Calls Tryd.prog 67 #[.agg #[.string x.path, .string x.text], .string p] w fun e w' => e = .returned (.int .i64 (cmpS x.path p)) ∧ Ext w w' := by
  go_enter Tryd.func67, Tryd.ntmps67
  go_wp2_with fail
  refine Calls.mono (cmpCompare _ x.path p) ?_
  rintro e w1 ⟨rfl, rfl⟩
  go_wp2
  go_ret
  exact ⟨rfl, (Ext.refl w).alloc _⟩
set_option maxHeartbeats 4000000 in
set_option maxRecDepth 100000 in
theorem treeFind (w : World) (v : Value) (l : List Fl) (h : IsF w v l) (p : ByteArray) (hs : FsS l) (hl : l.length ≤ 1000000) :
    Calls Tryd.prog 44 #[.agg #[v], .string p] w fun e w' => ∃ i : Nat, Place l p i ∧ e = .returned (.tuple #[.int .i64 (i : Int), .bool (hitB l p i)]) ∧ Ext w w' := by
  obtain ⟨ao, cap, rfl, -⟩ := h.opened
  have b0 := heap_alloc_new w (.cells #[.slice ao l.length cap] 24)
  have X0 := (Ext.refl w).alloc (.cells #[.slice ao l.length cap] 24)
  have HF := Lib.hid (h.ext X0)
  have cb := (block_cell b0 0).trans (show _ = some (Value.slice ao l.length cap) from rfl)
  have HS := Lib.hid hs
  clear h b0 hs
  go_enter Tryd.func44, Tryd.ntmps44
  go_wp2_with fail
  generalize w.alloc (.cells #[.slice ao l.length cap] 24) = w0 at *
  refine Calls.mono (binSearch w0 _ l HF.out p 67 HS.out hl (fun W x => findClosure W x p) (enters_of Tryd.func67 (by kernel_rfl) rfl)) ?_
  rintro e w1 ⟨i, hi, rfl, x1⟩
  go_wp2_with fail
  refine bodyPost_ret (results_TT rfl _ _) rfl ?_
  exact ⟨i, hi, rfl, X0.trans x1⟩
/-- What tree.Get answers. -/
def getE (l : List Fl) (p : ByteArray) : ByteArray × Int := if repoB l = false then (⟨#[]⟩, 170) else if (atM l p).1 = true then ((atM l p).2, 0) else (⟨#[]⟩, 4)
set_option maxHeartbeats 4000000 in
set_option maxRecDepth 100000 in
theorem treeGet (w : World) (v : Value) (l : List Fl) (h : IsF w v l) (p : ByteArray) :
    Calls Tryd.prog 28 #[.agg #[v], .string p] w fun e w' => e = .returned (.tuple #[.string (getE l p).1, .int .i64 (getE l p).2]) ∧ Ext w w' := by
  obtain ⟨R, hR⟩ : ∃ R, getE l p = R := ⟨_, rfl⟩
  rw [hR]
  have HR := Lib.hid hR
  clear hR
  obtain ⟨ao, cap, rfl, -⟩ := h.opened
  have b0 := heap_alloc_new w (.cells #[.slice ao l.length cap] 24)
  have X0 := (Ext.refl w).alloc (.cells #[.slice ao l.length cap] 24)
  have HF := Lib.hid (h.ext X0)
  have cb := (block_cell b0 0).trans (show _ = some (Value.slice ao l.length cap) from rfl)
  clear h b0
  go_enter Tryd.func28, Tryd.ntmps28
  go_wp2_with fail
  generalize w.alloc (.cells #[.slice ao l.length cap] 24) = w0 at *
  generalize hG : w.heap.size = G at *
  have E := treeCheck w0 _ l HF.out
  cases hr : repoB l with
  | false =>
    rw [hr] at E
    obtain rfl : (⟨#[]⟩, 170) = R := by rw [← HR.out]; unfold getE; rw [hr]; rfl
    refine Calls.mono E ?_
    rintro e w1 ⟨rfl, y⟩
    simp only [show errR false = 170 from rfl]
    go_wp2_with fail
    refine bodyPost_ret (results_TT rfl _ _) rfl ?_
    exact ⟨rfl, X0.trans y⟩
  | true =>
    rw [hr] at E
    have hR2 : R = if (atM l p).1 = true then ((atM l p).2, 0) else (⟨#[]⟩, 4) := by rw [← HR.out]; unfold getE; rw [hr]; rfl
    have HS := Lib.hid (repo_sorted hr)
    have hl := repo_len hr
    have HR2 := Lib.hid hR2
    clear hR2 hr HR
    refine Calls.mono E ?_
    rintro e w1 ⟨rfl, y⟩
    simp only [show errR true = 0 from rfl]
    have cb := y.cell cb
    have X := X0.trans y
    have HF1 := HF.out.ext y
    clear y E X0
    go_wp2_with fail
    refine Calls.mono (treeFind w1 _ l HF1 p HS.out (by omega)) ?_
    rintro e w2 ⟨i, hi, rfl, y⟩
    have cb := y.cell cb
    have X := X.trans y
    obtain ⟨q1, q2⟩ := hit_has HS.out hi
    have HF2 := HF1.ext y
    cases hh : hitB l p i with
    | false =>
      obtain rfl : R = (⟨#[]⟩, 4) := by rw [HR2.out, atM_no (q2 hh)]; rfl
      clear q1 q2
      go_wp2_with fail
      refine bodyPost_ret (results_TT rfl _ _) rfl ?_
      exact ⟨rfl, X⟩
    | true =>
      obtain ⟨hil, hgl⟩ := q1 hh
      obtain rfl : R = (l[i].text, 0) := by rw [HR2.out, atM_of hgl]; rfl
      obtain ⟨_, _, e0, _, _, _, g1⟩ := HF2.opened
      simp only [Value.slice.injEq, true_and] at e0
      obtain ⟨rfl, rfl⟩ := e0
      obtain ⟨pb, o, rfl, e0, e1⟩ := g1 i hil
      clear q1 q2 g1 hgl HF2 HF1 e0
      obtain ⟨x, hx⟩ : ∃ x, l[i] = x := ⟨_, rfl⟩
      rw [hx] at e1
      have HX := Lib.hid hx
      clear hx
      go_wp2_with fail
      refine bodyPost_ret (results_TT rfl _ _) rfl ?_
      rw [HX.out]
      exact ⟨rfl, X⟩
end Go.Proofs.YtpcpcjejdngllaaDoor
