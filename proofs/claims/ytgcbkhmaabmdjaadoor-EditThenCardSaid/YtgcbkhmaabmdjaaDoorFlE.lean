/- Files that are the same: slices.Equal, tree.Same, the reference's Same and Get. -/
import Derived.Test.YtgcbkhmaabmdjaaDoorFlD
import Derived.Test.YtgcbkhmaabmdjaaDoorEdC
import Derived.Laws.StructEq
namespace Go.Proofs.YtgcbkhmaabmdjaaDoor
open Go.RowKit
set_option linter.unusedVariables false
set_option linter.unusedSimpArgs false

theorem fl_eq_iff (x y : Fl) : decide (x = y) = (decide (x.path = y.path) && decide (x.text = y.text)) := by
  rw [Bool.eq_iff_iff]
  cases x
  cases y
  simp
set_option maxRecDepth 100000 in
theorem flNeq (w : World) (x y : Fl) : (binOp .neq 42 (.agg #[.string x.path, .string x.text]) (.agg #[.string y.path, .string y.text])).run Tryd.prog w = .ok (.bool (!decide (x = y))) w := by
  rw [run_neq_struct, show (10000 : Nat) = 9999 + 1 from rfl, run_equalIn_agg _ _ _ _ _ Tryd.underlying42 (by kernel_rfl)]
  simp only [Program.fieldsOf, Tryd.underlying42]
  have ed := fl_eq_iff x y
  simp only [← ba_eq] at ed
  simp [go_sem]
  rw [ed]
  by_cases c0 : x.path.toList = y.path.toList
  · by_cases c3 : x.text.toList = y.text.toList <;> simp [c0, c3]
  · simp [c0]

set_option maxHeartbeats 4000000 in
set_option maxRecDepth 100000 in
theorem slicesEqualF (w : World) (v1 v2 : Value) (l1 l2 : List Fl) (h1 : IsF w v1 l1) (h2 : IsF w v2 l2) :
    Calls Tryd.prog 39 #[v1, v2] w fun e w' => e = .returned (.bool (decide (l1 = l2))) ∧ ∃ q, w' = w.drewN q := by
  obtain ⟨ao1, c1, rfl, b1, m1, z1, g1⟩ := h1.opened
  obtain ⟨ao2, c2, rfl, b2, m2, z2, g2⟩ := h2.opened
  have G1 := Lib.hid g1
  have G2 := Lib.hid g2
  clear g1 g2 h1 h2 z1 z2
  by_cases hnm : l1.length = l2.length
  · have Hnm := Lib.hid hnm
    have hn : ((l1.length : Int) != (l2.length : Int)) = false := by rw [hnm]; simp
    clear hnm
    go_enter Tryd.func39, Tryd.ntmps39
    go_wp2
    go_loopg [13] l1.length (fun g s13 wr => ∃ k q : Nat, k ≤ l1.length ∧ l1.length - k ≤ g ∧ s13 = .int .i64 k ∧ wr = w.drewN q ∧ ∀ j (h1 : j < l1.length) (h2 : j < l2.length), j < k → l1[j] = l2[j])
    case atStart => exact ⟨0, 0, Nat.zero_le _, by omega, rfl, rfl, fun j _ _ hj => absurd hj (Nat.not_lt_zero _)⟩
    case round =>
      obtain ⟨k, q, hk, hg, rfl, rfl, heq⟩ := hrel
      have HEQ := Lib.hid heq
      clear heq
      by_cases hlt : k < l1.length
      · have hlt2 : k < l2.length := by have := Hnm.out; omega
        obtain ⟨p1, o1, rfl, e0, e1⟩ := G1.out k hlt
        obtain ⟨p2, o2, rfl, f0, f1⟩ := G2.out k hlt2
        generalize hxk : l1[k] = x at *
        generalize hyk : l2[k] = y at *
        have HX := Lib.hid hxk
        have HY := Lib.hid hyk
        clear hxk hyk
        by_cases hxy : x = y
        · have hne : ∀ W, (binOp .neq 42 (.agg #[.string x.path, .string x.text]) (.agg #[.string y.path, .string y.text])).run Tryd.prog W = .ok (.bool false) W := fun W => by rw [flNeq, decide_eq_true hxy]; rfl
          have HXY := Lib.hid hxy
          clear hxy
          go_wp2_with fail
          go_quiet (fail)
          go_wp2
          go_roundg (l1.length - (k + 1))
          case measure => omega
          case rel =>
            refine ⟨k + 1, _, by omega, by omega, by go_num, rfl, fun j a1 a2 hj => ?_⟩
            by_cases e : j = k
            · subst e
              rw [HX.out, HY.out, HXY.out]
            · exact HEQ.out j a1 a2 (by omega)
        · have hne : ∀ W, (binOp .neq 42 (.agg #[.string x.path, .string x.text]) (.agg #[.string y.path, .string y.text])).run Tryd.prog W = .ok (.bool true) W := fun W => by rw [flNeq, decide_eq_false hxy]; rfl
          have HXY := Lib.hid hxy
          clear hxy
          go_wp2_with fail
          go_quiet (fail)
          go_wp2
          go_ret
          refine ⟨ret_bool ?_, _, World.drewN_drewN _ _ _⟩
          symm
          apply decide_eq_false
          intro e
          subst e
          exact HXY.out (by rw [← HX.out, ← HY.out])
      · have : k = l1.length := by omega
        subst this
        go_wp2
        go_ret
        exact ⟨ret_bool (decide_eq_true (List.ext_getElem Hnm.out (fun j a1 a2 => HEQ.out j a1 a2 a1))).symm, _, rfl⟩
  · have hn : ((l1.length : Int) != (l2.length : Int)) = true := by rw [bne_iff_ne]; omega
    go_enter Tryd.func39, Tryd.ntmps39
    go_wp2
    go_ret
    exact ⟨ret_bool (by symm; apply decide_eq_false; intro e; subst e; exact hnm rfl), 0, rfl⟩

set_option maxHeartbeats 4000000 in
set_option maxRecDepth 100000 in
theorem refSame07 (w : World) (v1 v2 : Value) (l1 l2 : List Fl) (h1 : IsF w v1 l1) (h2 : IsF w v2 l2) :
    Calls Tryd.prog 13 #[.agg #[v1], .agg #[v2]] w fun e w' => e = .returned (.bool (decide (l1 = l2))) ∧ Ext w w' := by
  have X0 : Ext w ((w.alloc (.cells #[v1] 24)).alloc (.cells #[v2] 24)) := ((Ext.refl w).alloc _).alloc _
  have q1 := blk_old (o := .cells #[v2] 24) (heap_alloc_new w (.cells #[v1] 24))
  have q2 := blk_new (w := w.alloc (.cells #[v1] 24)) (b := w.heap.size + 1) (o := .cells #[v2] 24) (by simp)
  have cb1 : ((w.alloc (.cells #[v1] 24)).alloc (.cells #[v2] 24)).cell? ⟨w.heap.size, 0, none⟩ = some v1 := by rw [block_cell q1]; rfl
  have cb2 : ((w.alloc (.cells #[v1] 24)).alloc (.cells #[v2] 24)).cell? ⟨w.heap.size + 1, 0, none⟩ = some v2 := by rw [block_cell q2]; rfl
  have h1 := h1.ext X0
  have h2 := h2.ext X0
  clear q1 q2
  obtain ⟨ao1, c1, rfl, b1, m1, z1, g1⟩ := h1.opened
  obtain ⟨ao2, c2, rfl, b2, m2, z2, g2⟩ := h2.opened
  have G1 := Lib.hid g1
  have G2 := Lib.hid g2
  clear g1 g2 h1 h2 z1 z2
  by_cases hnm : l1.length = l2.length
  · have Hnm := Lib.hid hnm
    have hn : ((l1.length : Int) != (l2.length : Int)) = false := by rw [hnm]; simp
    clear hnm
    go_enter Tryd.func13, Tryd.ntmps13
    go_wp2_with fail
    generalize (w.alloc (.cells #[.slice ao1 l1.length c1] 24)).alloc (.cells #[.slice ao2 l2.length c2] 24) = w0 at *
    generalize w.heap.size = G at *
    go_loopg [5] l1.length (fun g s13 wr => ∃ k q : Nat, k ≤ l1.length ∧ l1.length - k ≤ g ∧ s13 = .int .i64 k ∧ wr = w0.drewN q ∧ ∀ j (h1 : j < l1.length) (h2 : j < l2.length), j < k → l1[j] = l2[j])
    case atStart => exact ⟨0, 0, Nat.zero_le _, by omega, rfl, rfl, fun j _ _ hj => absurd hj (Nat.not_lt_zero _)⟩
    case round =>
      obtain ⟨k, q, hk, hg, rfl, rfl, heq⟩ := hrel
      have HEQ := Lib.hid heq
      clear heq
      by_cases hlt : k < l1.length
      · have hlt2 : k < l2.length := by have := Hnm.out; omega
        obtain ⟨p1, o1, rfl, e0, e1⟩ := G1.out k hlt
        obtain ⟨p2, o2, rfl, f0, f1⟩ := G2.out k hlt2
        generalize hxk : l1[k] = x at *
        generalize hyk : l2[k] = y at *
        have HX := Lib.hid hxk
        have HY := Lib.hid hyk
        clear hxk hyk
        by_cases hxy : x = y
        · have hne : ∀ W, (binOp .neq 42 (.agg #[.string x.path, .string x.text]) (.agg #[.string y.path, .string y.text])).run Tryd.prog W = .ok (.bool false) W := fun W => by rw [flNeq, decide_eq_true hxy]; rfl
          have HXY := Lib.hid hxy
          clear hxy
          go_wp2_with fail
          go_quiet (fail)
          go_wp2
          go_roundg (l1.length - (k + 1))
          case measure => omega
          case rel =>
            refine ⟨k + 1, _, by omega, by omega, by go_num, rfl, fun j a1 a2 hj => ?_⟩
            by_cases e : j = k
            · subst e
              rw [HX.out, HY.out, HXY.out]
            · exact HEQ.out j a1 a2 (by omega)
        · have hne : ∀ W, (binOp .neq 42 (.agg #[.string x.path, .string x.text]) (.agg #[.string y.path, .string y.text])).run Tryd.prog W = .ok (.bool true) W := fun W => by rw [flNeq, decide_eq_false hxy]; rfl
          have HXY := Lib.hid hxy
          clear hxy
          go_wp2_with fail
          go_quiet (fail)
          go_wp2
          go_ret
          refine ⟨ret_bool ?_, by repeat' (first | assumption | exact X0 | refine Ext.drewN ?_ _)⟩
          symm
          apply decide_eq_false
          intro e
          subst e
          exact HXY.out (by rw [← HX.out, ← HY.out])
      · have : k = l1.length := by omega
        subst this
        go_wp2
        go_ret
        exact ⟨ret_bool (decide_eq_true (List.ext_getElem Hnm.out (fun j a1 a2 => HEQ.out j a1 a2 a1))).symm, X0.drewN _⟩
  · have hn : ((l1.length : Int) != (l2.length : Int)) = true := by rw [bne_iff_ne]; omega
    go_enter Tryd.func13, Tryd.ntmps13
    go_wp2
    go_ret
    exact ⟨ret_bool (by symm; apply decide_eq_false; intro e; subst e; exact hnm rfl), X0⟩

set_option maxHeartbeats 1000000 in
theorem treeSame (w : World) (v1 v2 : Value) (l1 l2 : List Fl) (h1 : IsF w v1 l1) (h2 : IsF w v2 l2) :
    Calls Tryd.prog 20 #[.agg #[v1], .agg #[v2]] w fun e w' => e = .returned (.bool (decide (l1 = l2))) ∧ Ext w w' := by
  have X0 : Ext w ((w.alloc (.cells #[v1] 24)).alloc (.cells #[v2] 24)) := ((Ext.refl w).alloc _).alloc _
  go_enter Tryd.func20, Tryd.ntmps20
  go_wp2_with fail
  refine Calls.mono (slicesEqualF _ _ _ l1 l2 (h1.ext X0) (h2.ext X0)) ?_
  rintro e w' ⟨rfl, q, rfl⟩
  go_wp2
  go_ret
  exact ⟨rfl, X0.drewN q⟩

/-- A file's text, by its path. -/
def getL (l : List Fl) (p : ByteArray) : Option Fl := l.find? fun f => f.path.toList == p.toList
def getV (o : Option Fl) : Value := .tuple #[.string (match o with | some f => f.text | none => ⟨#[]⟩), .bool o.isSome]
theorem getL_at {l : List Fl} {p : ByteArray} {k : Nat} (hk : k < l.length) (h0 : ∀ j (hj : j < l.length), j < k → (l[j].path.toList == p.toList) = false) (h : (l[k].path.toList == p.toList) = true) : getL l p = some l[k] := by
  unfold getL
  rw [List.find?_eq_some_iff_getElem]
  exact ⟨h, k, hk, rfl, fun j hj => by rw [h0 j (by omega) hj]; rfl⟩
theorem getL_no {l : List Fl} {p : ByteArray} (h0 : ∀ j (hj : j < l.length), (l[j].path.toList == p.toList) = false) : getL l p = none := by
  unfold getL
  rw [List.find?_eq_none]
  intro x hx
  obtain ⟨j, hj, rfl⟩ := List.getElem_of_mem hx
  rw [h0 j hj]
  decide

set_option maxHeartbeats 4000000 in
set_option maxRecDepth 100000 in
theorem refGet (w : World) (v : Value) (l : List Fl) (p : ByteArray) (h : IsF w v l) :
    Calls Tryd.prog 35 #[.agg #[v], .string p] w fun e w' => e = .returned (getV (getL l p)) ∧ Ext w w' := by
  obtain ⟨R, hR⟩ : ∃ R, getL l p = R := ⟨_, rfl⟩
  rw [hR]
  have HR := Lib.hid hR
  clear hR
  have b0 := heap_alloc_new w (.cells #[v] 24)
  have X0 : Ext w (w.alloc (.cells #[v] 24)) := (Ext.refl w).alloc _
  obtain ⟨ao, cap, rfl, b1, m1, z1, g1⟩ := (h.ext X0).opened
  have cb : (w.alloc (.cells #[.slice ao l.length cap] 24)).cell? ⟨w.heap.size, 0, none⟩ = some (.slice ao l.length cap) := by rw [block_cell b0]; rfl
  have G1 := Lib.hid g1
  clear g1 z1 h b0
  go_enter Tryd.func35, Tryd.ntmps35
  go_wp2_with fail
  generalize w.alloc (.cells #[.slice ao l.length cap] 24) = w0 at *
  generalize w.heap.size = G at *
  go_loopg [6] l.length (fun g s6 wr => ∃ k : Nat, k ≤ l.length ∧ l.length - k ≤ g ∧ s6 = .int .i64 (k : Int) ∧ (∀ j (hj : j < l.length), j < k → (l[j].path.toList == p.toList) = false) ∧ wr = w0)
  case atStart => exact ⟨0, by omega, by omega, rfl, fun j _ hj => absurd hj (Nat.not_lt_zero _), rfl⟩
  case round =>
    obtain ⟨k, hk, hg, rfl, h0, rfl⟩ := hrel
    have H0 := Lib.hid h0
    clear h0
    by_cases hlt : k < l.length
    · obtain ⟨pb, o, rfl, e0, e1⟩ := G1.out k hlt
      have k0 : (0 : Int) ≤ (k : Int) := Int.natCast_nonneg _
      have k1 : (k : Int) < (l.length : Int) := by omega
      cases hq : (l[k].path.toList == p.toList) with
      | true =>
        have hr := getL_at hlt H0.out hq
        rw [HR.out] at hr
        generalize l[k] = x at *
        have HRR := Lib.hid hr
        clear hr
        go_wp2
        go_ret2
        exact ⟨by rw [HRR.out]; rfl, X0⟩
      | false =>
        have HQ := Lib.hid hq
        generalize hx : l[k] = x at *
        have HX := Lib.hid hx
        clear hx
        go_wp2_with fail
        go_roundg (l.length - (k + 1))
        case measure => omega
        case rel =>
          refine ⟨k + 1, by omega, by omega, by go_num, fun j hj hj1 => ?_, rfl⟩
          by_cases e : j = k
          · subst e; rw [HX.out]; exact HQ.out
          · exact H0.out j hj (by omega)
    · obtain rfl : k = l.length := by omega
      have hr := getL_no fun j hj => H0.out j hj hj
      rw [HR.out] at hr
      subst hr
      go_wp2
      go_ret2
      exact ⟨rfl, X0⟩
end Go.Proofs.YtgcbkhmaabmdjaaDoor
