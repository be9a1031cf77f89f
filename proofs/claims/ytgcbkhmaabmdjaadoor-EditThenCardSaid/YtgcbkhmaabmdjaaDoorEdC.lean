/- The walks of slices.Equal at edits, edit.Same, the reference's Same. -/
import Derived.Test.YtgcbkhmaabmdjaaDoorEdA
import Derived.Laws.StructEq
namespace Go.Proofs.YtgcbkhmaabmdjaaDoor
open Go.RowKit
set_option linter.unusedVariables false

theorem ba_eq (a b : ByteArray) : (a.toList == b.toList) = decide (a = b) := by
  rw [ByteArray.toList_eq, ByteArray.toList_eq, Bool.eq_iff_iff, beq_iff_eq, decide_eq_true_iff]
  obtain ⟨⟨x⟩⟩ := a
  obtain ⟨⟨y⟩⟩ := b
  simp
theorem ed_eq_iff (x y : Ed) : decide (x = y) = (decide (x.path = y.path) && (x.at_ == y.at_ && (x.n == y.n && decide (x.text = y.text)))) := by
  rw [Bool.eq_iff_iff]
  cases x
  cases y
  simp

set_option maxRecDepth 100000 in
theorem edNeq (w : World) (x y : Ed) : (binOp .neq 40 (.agg #[.string x.path, .int .i64 x.at_, .int .i64 x.n, .string x.text]) (.agg #[.string y.path, .int .i64 y.at_, .int .i64 y.n, .string y.text])).run Tryd.prog w = .ok (.bool (!decide (x = y))) w := by
  rw [run_neq_struct, show (10000 : Nat) = 9999 + 1 from rfl, run_equalIn_agg _ _ _ _ _ Tryd.underlying40 (by kernel_rfl)]
  simp only [Program.fieldsOf, Tryd.underlying40]
  have ed := ed_eq_iff x y
  simp only [← ba_eq] at ed
  simp [go_sem]
  rw [ed]
  by_cases c0 : x.path.toList = y.path.toList
  · by_cases c1 : x.at_ = y.at_
    · by_cases c2 : x.n = y.n
      · by_cases c3 : x.text.toList = y.text.toList <;> simp [c0, c1, c2, c3]
      · simp [c0, c1, c2]
    · simp [c0, c1]
  · simp [c0]

set_option maxHeartbeats 4000000 in
set_option maxRecDepth 100000 in
theorem slicesEqualE (w : World) (v1 v2 : Value) (l1 l2 : List Ed) (h1 : IsE w v1 l1) (h2 : IsE w v2 l2) :
    Calls Tryd.prog 40 #[v1, v2] w fun e w' => e = .returned (.bool (decide (l1 = l2))) ∧ ∃ q, w' = w.drewN q := by
  obtain ⟨ao1, c1, rfl, b1, m1, z1, g1⟩ := h1.opened
  obtain ⟨ao2, c2, rfl, b2, m2, z2, g2⟩ := h2.opened
  have G1 := Lib.hid g1
  have G2 := Lib.hid g2
  clear g1 g2 h1 h2 z1 z2
  by_cases hnm : l1.length = l2.length
  · have Hnm := Lib.hid hnm
    have hn : ((l1.length : Int) != (l2.length : Int)) = false := by rw [hnm]; simp
    clear hnm
    go_enter Tryd.func40, Tryd.ntmps40
    go_wp2
    go_loopg [13] l1.length (fun g s13 wr => ∃ k q : Nat, k ≤ l1.length ∧ l1.length - k ≤ g ∧ s13 = .int .i64 k ∧ wr = w.drewN q ∧ ∀ j (h1 : j < l1.length) (h2 : j < l2.length), j < k → l1[j] = l2[j])
    case atStart => exact ⟨0, 0, Nat.zero_le _, by omega, rfl, rfl, fun j _ _ hj => absurd hj (Nat.not_lt_zero _)⟩
    case round =>
      obtain ⟨k, q, hk, hg, rfl, rfl, heq⟩ := hrel
      have HEQ := Lib.hid heq
      clear heq
      by_cases hlt : k < l1.length
      · have hlt2 : k < l2.length := by have := Hnm.out; omega
        obtain ⟨p1, o1, rfl, e0, e1, e2, e3⟩ := G1.out k hlt
        obtain ⟨p2, o2, rfl, f0, f1, f2, f3⟩ := G2.out k hlt2
        generalize hxk : l1[k] = x at *
        generalize hyk : l2[k] = y at *
        have HX := Lib.hid hxk
        have HY := Lib.hid hyk
        clear hxk hyk
        by_cases hxy : x = y
        · have hne : ∀ W, (binOp .neq 40 (.agg #[.string x.path, .int .i64 x.at_, .int .i64 x.n, .string x.text]) (.agg #[.string y.path, .int .i64 y.at_, .int .i64 y.n, .string y.text])).run Tryd.prog W = .ok (.bool false) W := fun W => by rw [edNeq, decide_eq_true hxy]; rfl
          have HXY := Lib.hid hxy
          clear hxy
          go_wp2_with fail
          go_quiet (fail)
          go_wp2
          go_roundg (l1.length - (k + 1))
          case measure => omega
          case rel =>
            refine ⟨k + 1, _, by omega, by omega, by go_num, rfl, fun j a1 a2 hj => ?_⟩
            by_cases e : j = k
            · subst e
              rw [HX.out, HY.out, HXY.out]
            · exact HEQ.out j a1 a2 (by omega)
        · have hne : ∀ W, (binOp .neq 40 (.agg #[.string x.path, .int .i64 x.at_, .int .i64 x.n, .string x.text]) (.agg #[.string y.path, .int .i64 y.at_, .int .i64 y.n, .string y.text])).run Tryd.prog W = .ok (.bool true) W := fun W => by rw [edNeq, decide_eq_false hxy]; rfl
          have HXY := Lib.hid hxy
          clear hxy
          go_wp2_with fail
          go_quiet (fail)
          go_wp2
          go_ret
          refine ⟨ret_bool ?_, _, World.drewN_drewN _ _ _⟩
          symm
          apply decide_eq_false
          intro e
          subst e
          exact HXY.out (by rw [← HX.out, ← HY.out])
      · have : k = l1.length := by omega
        subst this
        go_wp2
        go_ret
        exact ⟨ret_bool (decide_eq_true (List.ext_getElem Hnm.out (fun j a1 a2 => HEQ.out j a1 a2 a1))).symm, _, rfl⟩
  · have hn : ((l1.length : Int) != (l2.length : Int)) = true := by rw [bne_iff_ne]; omega
    go_enter Tryd.func40, Tryd.ntmps40
    go_wp2
    go_ret
    exact ⟨ret_bool (by symm; apply decide_eq_false; intro e; subst e; exact hnm rfl), 0, rfl⟩

set_option maxHeartbeats 4000000 in
set_option maxRecDepth 100000 in
theorem refSameE (w : World) (v1 v2 : Value) (l1 l2 : List Ed) (h1 : IsE w v1 l1) (h2 : IsE w v2 l2) :
    Calls Tryd.prog 17 #[v1, v2] w fun e w' => e = .returned (.bool (decide (l1 = l2))) ∧ ∃ q, w' = w.drewN q := by
  obtain ⟨ao1, c1, rfl, b1, m1, z1, g1⟩ := h1.opened
  obtain ⟨ao2, c2, rfl, b2, m2, z2, g2⟩ := h2.opened
  have G1 := Lib.hid g1
  have G2 := Lib.hid g2
  clear g1 g2 h1 h2 z1 z2
  by_cases hnm : l1.length = l2.length
  · have Hnm := Lib.hid hnm
    have hn : ((l1.length : Int) != (l2.length : Int)) = false := by rw [hnm]; simp
    clear hnm
    go_enter Tryd.func17, Tryd.ntmps17
    go_wp2
    go_loopg [13] l1.length (fun g s13 wr => ∃ k q : Nat, k ≤ l1.length ∧ l1.length - k ≤ g ∧ s13 = .int .i64 k ∧ wr = w.drewN q ∧ ∀ j (h1 : j < l1.length) (h2 : j < l2.length), j < k → l1[j] = l2[j])
    case atStart => exact ⟨0, 0, Nat.zero_le _, by omega, rfl, rfl, fun j _ _ hj => absurd hj (Nat.not_lt_zero _)⟩
    case round =>
      obtain ⟨k, q, hk, hg, rfl, rfl, heq⟩ := hrel
      have HEQ := Lib.hid heq
      clear heq
      by_cases hlt : k < l1.length
      · have hlt2 : k < l2.length := by have := Hnm.out; omega
        obtain ⟨p1, o1, rfl, e0, e1, e2, e3⟩ := G1.out k hlt
        obtain ⟨p2, o2, rfl, f0, f1, f2, f3⟩ := G2.out k hlt2
        generalize hxk : l1[k] = x at *
        generalize hyk : l2[k] = y at *
        have HX := Lib.hid hxk
        have HY := Lib.hid hyk
        clear hxk hyk
        by_cases hxy : x = y
        · have hne : ∀ W, (binOp .neq 40 (.agg #[.string x.path, .int .i64 x.at_, .int .i64 x.n, .string x.text]) (.agg #[.string y.path, .int .i64 y.at_, .int .i64 y.n, .string y.text])).run Tryd.prog W = .ok (.bool false) W := fun W => by rw [edNeq, decide_eq_true hxy]; rfl
          have HXY := Lib.hid hxy
          clear hxy
          go_wp2_with fail
          go_quiet (fail)
          go_wp2
          go_roundg (l1.length - (k + 1))
          case measure => omega
          case rel =>
            refine ⟨k + 1, _, by omega, by omega, by go_num, rfl, fun j a1 a2 hj => ?_⟩
            by_cases e : j = k
            · subst e
              rw [HX.out, HY.out, HXY.out]
            · exact HEQ.out j a1 a2 (by omega)
        · have hne : ∀ W, (binOp .neq 40 (.agg #[.string x.path, .int .i64 x.at_, .int .i64 x.n, .string x.text]) (.agg #[.string y.path, .int .i64 y.at_, .int .i64 y.n, .string y.text])).run Tryd.prog W = .ok (.bool true) W := fun W => by rw [edNeq, decide_eq_false hxy]; rfl
          have HXY := Lib.hid hxy
          clear hxy
          go_wp2_with fail
          go_quiet (fail)
          go_wp2
          go_ret
          refine ⟨ret_bool ?_, _, World.drewN_drewN _ _ _⟩
          symm
          apply decide_eq_false
          intro e
          subst e
          exact HXY.out (by rw [← HX.out, ← HY.out])
      · have : k = l1.length := by omega
        subst this
        go_wp2
        go_ret
        exact ⟨ret_bool (decide_eq_true (List.ext_getElem Hnm.out (fun j a1 a2 => HEQ.out j a1 a2 a1))).symm, _, rfl⟩
  · have hn : ((l1.length : Int) != (l2.length : Int)) = true := by rw [bne_iff_ne]; omega
    go_enter Tryd.func17, Tryd.ntmps17
    go_wp2
    go_ret
    exact ⟨ret_bool (by symm; apply decide_eq_false; intro e; subst e; exact hnm rfl), 0, rfl⟩

set_option maxHeartbeats 1000000 in
theorem editSame (w : World) (v1 v2 : Value) (l1 l2 : List Ed) (h1 : IsE w v1 l1) (h2 : IsE w v2 l2) :
    Calls Tryd.prog 21 #[v1, v2] w fun e w' => e = .returned (.bool (decide (l1 = l2))) ∧ ∃ q, w' = w.drewN q := by
  go_enter Tryd.func21, Tryd.ntmps21
  go_wp2_with fail
  refine Calls.mono (slicesEqualE _ _ _ l1 l2 h1 h2) ?_
  rintro e w' ⟨rfl, q, rfl⟩
  go_wp2
  go_ret
  exact ⟨rfl, q, rfl⟩
end Go.Proofs.YtgcbkhmaabmdjaaDoor
