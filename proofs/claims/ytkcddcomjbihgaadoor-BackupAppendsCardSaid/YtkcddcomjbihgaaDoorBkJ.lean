/- Backup: New, Last, Sure, Ready. -/
import Derived.Test.YtkcddcomjbihgaaDoorBkI
namespace Go.Proofs.YtkcddcomjbihgaaDoor
open Go.RowKit
set_option linter.unusedVariables false
set_option linter.unusedSimpArgs false

theorem bkCheckT (w : World) (vl : Value) (p : Pr) (h : IsLg w vl p.log) (hp : PrOk p) (hr : rightB p = true) :
    Calls Tryd.prog 23 #[.agg #[.int .i64 p.me, .int .u32 (p.v.n : Int), .int .i64 p.v.p, .int .i64 p.v.b, .int .u32 (p.base.1 : Int), .int .u32 (p.base.2 : Int), vl, .bool p.known, .bool p.joined, .bool p.instep, .int .u32 (p.acked : Int)]] w fun e w' => e = .returned (.int .i64 0) ∧ Ext w w' := by
  refine (bkCheck w vl p h hp).mono ?_
  rintro e w' ⟨rfl, x⟩
  rw [if_pos hr]
  exact ⟨rfl, x⟩
theorem bkCheckF (w : World) (vl : Value) (p : Pr) (h : IsLg w vl p.log) (hp : PrOk p) (hr : rightB p = false) :
    Calls Tryd.prog 23 #[.agg #[.int .i64 p.me, .int .u32 (p.v.n : Int), .int .i64 p.v.p, .int .i64 p.v.b, .int .u32 (p.base.1 : Int), .int .u32 (p.base.2 : Int), vl, .bool p.known, .bool p.joined, .bool p.instep, .int .u32 (p.acked : Int)]] w fun e w' => e = .returned (.int .i64 360) ∧ Ext w w' := by
  refine (bkCheck w vl p h hp).mono ?_
  rintro e w' ⟨rfl, x⟩
  rw [hr]
  exact ⟨rfl, x⟩
def newP (me : Int) : Pr := ⟨me, v0, m0, [], false, false, false, 0⟩
theorem bkNewT (w : World) (me : Int) (h : serverB me = true) :
    Calls Tryd.prog 39 #[.int .i64 me] w fun e w' => e = .returned (.tuple #[.agg #[.int .i64 (newP me).me, .int .u32 ((newP me).v.n : Int), .int .i64 (newP me).v.p, .int .i64 (newP me).v.b, .int .u32 ((newP me).base.1 : Int), .int .u32 ((newP me).base.2 : Int), (.slice none 0 0), .bool (newP me).known, .bool (newP me).joined, .bool (newP me).instep, .int .u32 ((newP me).acked : Int)], .int .i64 0]) ∧ Ext w w' := by
  have X := (Ext.refl w).alloc (.cells #[.int .i64 (newP me).me, .int .u32 ((newP me).v.n : Int), .int .i64 (newP me).v.p, .int .i64 (newP me).v.b, .int .u32 ((newP me).base.1 : Int), .int .u32 ((newP me).base.2 : Int), (.slice none 0 0), .bool (newP me).known, .bool (newP me).joined, .bool (newP me).instep, .int .u32 ((newP me).acked : Int)] 47)
  have hb := heap_alloc_new w (.cells #[.int .i64 (newP me).me, .int .u32 ((newP me).v.n : Int), .int .i64 (newP me).v.p, .int .i64 (newP me).v.b, .int .u32 ((newP me).base.1 : Int), .int .u32 ((newP me).base.2 : Int), (.slice none 0 0), .bool (newP me).known, .bool (newP me).joined, .bool (newP me).instep, .int .u32 ((newP me).acked : Int)] 47)
  have H := Lib.hid h
  go_enter Tryd.func39, Tryd.ntmps39
  go_wp2_with ((go_at_call 65; go_must (skip)); refine (bkServer _ _).mono ?_; rintro e w1 ⟨rfl, rfl⟩; rw [H.out])
  exact bodyPost_ret (results_cell_tmp rfl _ _ w.heap.size _ _ _ _ (by rfl) hb Tryd.underlying47 rfl (by kernel_rfl)) rfl ⟨rfl, X⟩
theorem bkNewF (w : World) (me : Int) (h : serverB me = false) :
    Calls Tryd.prog 39 #[.int .i64 me] w fun e w' => e = .returned (.tuple #[.agg #[.int .i64 (newP 0).me, .int .u32 ((newP 0).v.n : Int), .int .i64 (newP 0).v.p, .int .i64 (newP 0).v.b, .int .u32 ((newP 0).base.1 : Int), .int .u32 ((newP 0).base.2 : Int), (.slice none 0 0), .bool (newP 0).known, .bool (newP 0).joined, .bool (newP 0).instep, .int .u32 ((newP 0).acked : Int)], .int .i64 2]) ∧ Ext w w' := by
  have X := (Ext.refl w).alloc (.cells #[.int .i64 (newP 0).me, .int .u32 ((newP 0).v.n : Int), .int .i64 (newP 0).v.p, .int .i64 (newP 0).v.b, .int .u32 ((newP 0).base.1 : Int), .int .u32 ((newP 0).base.2 : Int), (.slice none 0 0), .bool (newP 0).known, .bool (newP 0).joined, .bool (newP 0).instep, .int .u32 ((newP 0).acked : Int)] 47)
  have hb := heap_alloc_new w (.cells #[.int .i64 (newP 0).me, .int .u32 ((newP 0).v.n : Int), .int .i64 (newP 0).v.p, .int .i64 (newP 0).v.b, .int .u32 ((newP 0).base.1 : Int), .int .u32 ((newP 0).base.2 : Int), (.slice none 0 0), .bool (newP 0).known, .bool (newP 0).joined, .bool (newP 0).instep, .int .u32 ((newP 0).acked : Int)] 47)
  have H := Lib.hid h
  go_enter Tryd.func39, Tryd.ntmps39
  go_wp2_with ((go_at_call 65; go_must (skip)); refine (bkServer _ _).mono ?_; rintro e w1 ⟨rfl, rfl⟩; rw [H.out])
  exact bodyPost_ret (results_cell_tmp rfl _ _ w.heap.size _ _ _ _ (by rfl) hb Tryd.underlying47 rfl (by kernel_rfl)) rfl ⟨rfl, X⟩
def sureN (p : Pr) : Nat := if rightB p = true && primB p = true then (if p.v.b = 0 then (lastM p).2 else p.acked) else 0
def readyB (p : Pr) : Bool := rightB p && (primB p || (secB p && p.instep))
set_option maxHeartbeats 1000000 in
theorem bkReady (w : World) (vl : Value) (p : Pr) (h : IsLg w vl p.log) (hp : PrOk p) :
    Calls Tryd.prog 26 #[.agg #[.int .i64 p.me, .int .u32 (p.v.n : Int), .int .i64 p.v.p, .int .i64 p.v.b, .int .u32 (p.base.1 : Int), .int .u32 (p.base.2 : Int), vl, .bool p.known, .bool p.joined, .bool p.instep, .int .u32 (p.acked : Int)]] w fun e w' => e = .returned (.bool (readyB p)) ∧ Ext w w' := by
  have X := (Ext.refl w).alloc (.cells #[.int .i64 p.me, .int .u32 (p.v.n : Int), .int .i64 p.v.p, .int .i64 p.v.b, .int .u32 (p.base.1 : Int), .int .u32 (p.base.2 : Int), vl, .bool p.known, .bool p.joined, .bool p.instep, .int .u32 (p.acked : Int)] 47)
  have hb := heap_alloc_new w (.cells #[.int .i64 p.me, .int .u32 (p.v.n : Int), .int .i64 p.v.p, .int .i64 p.v.b, .int .u32 (p.base.1 : Int), .int .u32 (p.base.2 : Int), vl, .bool p.known, .bool p.joined, .bool p.instep, .int .u32 (p.acked : Int)] 47)
  have HL := Lib.hid (h.ext X)
  generalize hR : readyB p = R
  have HR := Lib.hid hR
  clear hR
  cases hr : rightB p with
  | false =>
    have HC := Lib.hid hr
    clear hr
    go_enter Tryd.func26, Tryd.ntmps26
    go_wp2_with fail
    refine (bkCheckF _ _ p HL.out hp HC.out).mono ?_
    rintro e w1 ⟨rfl, x1⟩
    go_wp2_with fail
    go_ret
    exact ⟨ret_bool (by rw [← HR.out]; simp [readyB, HC.out]), X.trans x1⟩
  | true =>
    have HC := Lib.hid hr
    clear hr
    go_enter Tryd.func26, Tryd.ntmps26
    go_wp2_with fail
    refine (bkCheckT _ _ p HL.out hp HC.out).mono ?_
    rintro e w1 ⟨rfl, x1⟩
    have X := X.trans x1
    have hb := x1.keeps hb
    have hc := block_all hb
    go_wp2_with (first
      | ((go_at_call 55; go_must (skip)); refine (bkPrimary _ _ p).mono ?_; rintro e w2 ⟨rfl, x2⟩; have X := X.trans x2; have hb := x2.keeps hb; have hc := block_all hb)
      | ((go_at_call 60; go_must (skip)); refine (bkSecond _ _ p).mono ?_; rintro e w2 ⟨rfl, x2⟩; have X := X.trans x2; have hb := x2.keeps hb; have hc := block_all hb))
    all_goals go_ret
    all_goals exact ⟨ret_bool (by rw [← HR.out]; simp [readyB, HC.out, *]), X⟩
set_option maxHeartbeats 1000000 in
theorem bkSure (w : World) (vl : Value) (p : Pr) (h : IsLg w vl p.log) (hp : PrOk p) :
    Calls Tryd.prog 25 #[.agg #[.int .i64 p.me, .int .u32 (p.v.n : Int), .int .i64 p.v.p, .int .i64 p.v.b, .int .u32 (p.base.1 : Int), .int .u32 (p.base.2 : Int), vl, .bool p.known, .bool p.joined, .bool p.instep, .int .u32 (p.acked : Int)]] w fun e w' => e = .returned (.int .u32 (sureN p : Int)) ∧ Ext w w' := by
  have X := (Ext.refl w).alloc (.cells #[.int .i64 p.me, .int .u32 (p.v.n : Int), .int .i64 p.v.p, .int .i64 p.v.b, .int .u32 (p.base.1 : Int), .int .u32 (p.base.2 : Int), vl, .bool p.known, .bool p.joined, .bool p.instep, .int .u32 (p.acked : Int)] 47)
  have hb := heap_alloc_new w (.cells #[.int .i64 p.me, .int .u32 (p.v.n : Int), .int .i64 p.v.p, .int .i64 p.v.b, .int .u32 (p.base.1 : Int), .int .u32 (p.base.2 : Int), vl, .bool p.known, .bool p.joined, .bool p.instep, .int .u32 (p.acked : Int)] 47)
  have HL := Lib.hid (h.ext X)
  obtain ⟨R, hR⟩ : ∃ R : Nat, sureN p = R := ⟨_, rfl⟩
  rw [hR]
  have HR := Lib.hid hR
  clear hR
  cases hr : rightB p with
  | false =>
    have HC := Lib.hid hr
    clear hr
    go_enter Tryd.func25, Tryd.ntmps25
    go_wp2_with fail
    refine (bkCheckF _ _ p HL.out hp HC.out).mono ?_
    rintro e w1 ⟨rfl, x1⟩
    go_wp2_with fail
    go_ret
    exact ⟨ret_int (by rw [← HR.out]; simp [sureN, HC.out]), X.trans x1⟩
  | true =>
    have HC := Lib.hid hr
    have hl := HL.out
    clear hr
    go_enter Tryd.func25, Tryd.ntmps25
    go_wp2_with fail
    refine (bkCheckT _ _ p HL.out hp HC.out).mono ?_
    rintro e w1 ⟨rfl, x1⟩
    have X := X.trans x1
    have hb := x1.keeps hb
    have hc := block_all hb
    have HL := Lib.hid (HL.out.ext x1)
    clear hl
    go_wp2_with fail
    refine (bkPrimary _ _ p).mono ?_
    rintro e w2 ⟨rfl, x2⟩
    have X := X.trans x2
    have hb := x2.keeps hb
    have hc := block_all hb
    have HL := Lib.hid (HL.out.ext x2)
    cases hp1 : primB p with
    | false =>
      have HP := Lib.hid hp1
      clear hp1
      go_wp2_with fail
      go_ret
      exact ⟨ret_int (by rw [← HR.out]; simp [sureN, HP.out]), X⟩
    | true =>
      have HP := Lib.hid hp1
      clear hp1
      by_cases hb0 : p.v.b = 0
      · have hb1 : (p.v.b == 0) = true := by simpa using hb0
        have HB := Lib.hid hb0
        obtain ⟨M, hM⟩ : ∃ M, lastM p = M := ⟨_, rfl⟩
        have HM := Lib.hid hM
        have hf1 := mkField1
        clear hb0 hM
        go_wp2_with fail
        refine (bkLast _ _ p HL.out).mono ?_
        rintro e w3 ⟨rfl, x3⟩
        rw [HM.out]
        go_wp2_with fail
        go_ret
        exact ⟨ret_int (by rw [← HR.out]; simp [sureN, HP.out, HC.out, HB.out, HM.out]), X.trans x3⟩
      · have hb1 : (p.v.b == 0) = false := by simpa using hb0
        have HB := Lib.hid hb0
        clear hb0
        go_wp2_with fail
        go_ret
        exact ⟨ret_int (by rw [← HR.out]; simp [sureN, HP.out, HC.out, HB.out]), X⟩
/-- The last mark of a peer that may be. -/
def lastR (p : Pr) : Mk := if rightB p = true then lastM p else m0
set_option maxHeartbeats 1000000 in
theorem bkLastP (w : World) (vl : Value) (p : Pr) (h : IsLg w vl p.log) (hp : PrOk p) :
    Calls Tryd.prog 24 #[.agg #[.int .i64 p.me, .int .u32 (p.v.n : Int), .int .i64 p.v.p, .int .i64 p.v.b, .int .u32 (p.base.1 : Int), .int .u32 (p.base.2 : Int), vl, .bool p.known, .bool p.joined, .bool p.instep, .int .u32 (p.acked : Int)]] w fun e w' => e = .returned (.agg #[.int .u32 ((lastR p).1 : Int), .int .u32 ((lastR p).2 : Int)]) ∧ Ext w w' := by
  have X := ((Ext.refl w).alloc (.cells #[.int .i64 p.me, .int .u32 (p.v.n : Int), .int .i64 p.v.p, .int .i64 p.v.b, .int .u32 (p.base.1 : Int), .int .u32 (p.base.2 : Int), vl, .bool p.known, .bool p.joined, .bool p.instep, .int .u32 (p.acked : Int)] 47)).alloc (.cells #[.int .u32 0, .int .u32 0] 27)
  have hb := blk_old (o := .cells #[.int .u32 0, .int .u32 0] 27) (heap_alloc_new w (.cells #[.int .i64 p.me, .int .u32 (p.v.n : Int), .int .i64 p.v.p, .int .i64 p.v.b, .int .u32 (p.base.1 : Int), .int .u32 (p.base.2 : Int), vl, .bool p.known, .bool p.joined, .bool p.instep, .int .u32 (p.acked : Int)] 47))
  have hz := blk_new (w := w.alloc (.cells #[.int .i64 p.me, .int .u32 (p.v.n : Int), .int .i64 p.v.p, .int .i64 p.v.b, .int .u32 (p.base.1 : Int), .int .u32 (p.base.2 : Int), vl, .bool p.known, .bool p.joined, .bool p.instep, .int .u32 (p.acked : Int)] 47)) (b := w.heap.size + 1) (o := .cells #[.int .u32 0, .int .u32 0] 27) (by simp)
  have HL := Lib.hid (h.ext X)
  cases hr : rightB p with
  | false =>
    rw [show lastR p = m0 by unfold lastR; rw [hr]; rfl]
    have HC := Lib.hid hr
    clear hr
    go_enter Tryd.func24, Tryd.ntmps24
    go_wp2_with fail
    refine (bkCheckF _ _ p HL.out hp HC.out).mono ?_
    rintro e w1 ⟨rfl, x1⟩
    have hz := x1.keeps hz
    have hb := x1.keeps hb
    have cz := block_all hz
    have fz := fun i => block_free hz i
    have hlz := block_lt hz
    go_wp2_with fail
    have hfin : ((w1.setCell ⟨w.heap.size + 1, 0, none⟩ (.int .u32 0)).setCell ⟨w.heap.size + 1, 1, none⟩ (.int .u32 0)).heap[w.heap.size + 1]? = some (.cells #[.int .u32 (m0.1 : Int), .int .u32 (m0.2 : Int)] 27 (0, 0)) := by
      have := block_setCell (block_setCell hz (i := 0) (.int .u32 0)) (i := 1) (.int .u32 0)
      simpa [m0] using this
    exact bodyPost_ret (results_cell_row rfl _ _ (w.heap.size + 1) _ _ _ _ (by rfl) hfin Tryd.underlying27 rfl (by kernel_rfl)) rfl ⟨rfl, ((X.trans x1).setCell (by show _ ≤ w.heap.size + 1; omega) _).setCell (by show _ ≤ w.heap.size + 1; omega) _⟩
  | true =>
    rw [show lastR p = lastM p by unfold lastR; rw [hr]; rfl]
    have HC := Lib.hid hr
    obtain ⟨M, hM⟩ : ∃ M, lastM p = M := ⟨_, rfl⟩
    rw [hM]
    have HM := Lib.hid hM
    clear hr hM
    go_enter Tryd.func24, Tryd.ntmps24
    go_wp2_with fail
    refine (bkCheckT _ _ p HL.out hp HC.out).mono ?_
    rintro e w1 ⟨rfl, x1⟩
    have X := X.trans x1
    have hb := x1.keeps hb
    have hz := x1.keeps hz
    have hc := block_all hb
    have HL := Lib.hid (HL.out.ext x1)
    go_wp2_with fail
    refine (bkLast _ _ p HL.out).mono ?_
    rintro e w2 ⟨rfl, x2⟩
    rw [HM.out]
    have hz := x2.keeps hz
    have cz := block_all hz
    have fz := fun i => block_free hz i
    have hlz := block_lt hz
    go_wp2_with fail
    have hfin : ((w2.setCell ⟨w.heap.size + 1, 0, none⟩ (.int .u32 (M.1 : Int))).setCell ⟨w.heap.size + 1, 1, none⟩ (.int .u32 (M.2 : Int))).heap[w.heap.size + 1]? = some (.cells #[.int .u32 (M.1 : Int), .int .u32 (M.2 : Int)] 27 (0, 0)) := by
      have := block_setCell (block_setCell hz (i := 0) (.int .u32 (M.1 : Int))) (i := 1) (.int .u32 (M.2 : Int))
      simpa using this
    exact bodyPost_ret (results_cell_row rfl _ _ (w.heap.size + 1) _ _ _ _ (by rfl) hfin Tryd.underlying27 rfl (by kernel_rfl)) rfl ⟨rfl, ((X.trans x2).setCell (by show _ ≤ w.heap.size + 1; omega) _).setCell (by show _ ≤ w.heap.size + 1; omega) _⟩
end Go.Proofs.YtkcddcomjbihgaaDoor
