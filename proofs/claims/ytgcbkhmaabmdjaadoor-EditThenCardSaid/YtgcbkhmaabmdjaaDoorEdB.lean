/- The walk of the reference's Right. -/
import Derived.Test.YtgcbkhmaabmdjaaDoorEdA
namespace Go.Proofs.YtgcbkhmaabmdjaaDoor
open Go.RowKit
set_option linter.unusedVariables false

theorem okOne_at {e : Ed} (h : ¬ (0 ≤ e.at_ ∧ e.at_ ≤ 4096)) : okOne e = false := by simp only [okOne, inB_f h]; simp
theorem okOne_n {e : Ed} (h : ¬ (0 ≤ e.n ∧ e.n ≤ 4096)) : okOne e = false := by simp only [okOne, inB_f h]; simp
theorem okOne_text {e : Ed} (h : ¬ e.text.size ≤ 4096) : okOne e = false := by simp only [okOne, decide_eq_false h]; simp
theorem okOne_path {e : Ed} (h : e.path.toList.isEmpty = true) : okOne e = false := by simp [okOne, h]

set_option maxHeartbeats 4000000 in
set_option maxRecDepth 100000 in
theorem refRight (w : World) (v : Value) (l : List Ed) (h : IsE w v l) :
    Calls Tryd.prog 14 #[v] w fun e w' => e = .returned (.bool (chk l)) ∧ Ext w w' := by
  obtain ⟨ao, cap, rfl, b1, m1, z1, g1⟩ := h.opened
  have G1 := Lib.hid g1
  have HO := Lib.hid h.ok
  clear g1 z1 h
  go_enter Tryd.func14, Tryd.ntmps14
  go_wp2
  go_loopg [8] l.length (fun g s8 wr => ∃ k : Nat, k ≤ l.length ∧ l.length - k ≤ g ∧ s8 = .int .i64 k ∧ (∀ j (hj : j < l.length), j < k → okOne l[j] = true ∧ (∀ (h0 : 0 < j), okNext (l[j - 1]'(by omega)) l[j] = true)) ∧ Ext w wr)
  case atStart => exact ⟨0, Nat.zero_le _, by omega, rfl, fun j _ hj => absurd hj (Nat.not_lt_zero _), Ext.refl _⟩
  case round =>
    obtain ⟨k, hk, hg, rfl, hall, xr⟩ := hrel
    have HALL := Lib.hid hall
    clear hall
    by_cases hlt : k < l.length
    · obtain ⟨p, o, rfl, e0, e1, e2, e3⟩ := G1.out k hlt
      have e0 := xr.cell e0
      have e1 := xr.cell e1
      have e2 := xr.cell e2
      have e3 := xr.cell e3
      obtain ⟨o1, ⟨o2, o3⟩, ⟨o4, o5⟩, o6⟩ := HO.out l[k] (List.getElem_mem hlt)
      have hcase := fun (h : okOne l[k] = false) => chk_one hlt h
      have HC := Lib.hid hcase
      clear hcase
      by_cases c0 : l[k].path.toList.isEmpty = true
      · have HB := Lib.hid (HC.out (okOne_path c0))
        clear HC
        generalize l[k] = x at *
        go_wp2
        go_ret
        exact ⟨ret_bool (by rw [HB.out]), by repeat' (first | assumption | exact Ext.refl _ | refine Ext.alloc ?_ _ | refine Ext.drew ?_)⟩
      have c0 : l[k].path.toList.isEmpty = false := by simpa using c0
      by_cases c1 : l[k].at_ < 0
      · have HB := Lib.hid (HC.out (okOne_at (by omega)))
        clear HC
        generalize l[k] = x at *
        go_wp2
        go_ret
        exact ⟨ret_bool (by rw [HB.out]), by repeat' (first | assumption | exact Ext.refl _ | refine Ext.alloc ?_ _ | refine Ext.drew ?_)⟩
      by_cases c2 : l[k].n < 0
      · have HB := Lib.hid (HC.out (okOne_n (by omega)))
        clear HC
        generalize l[k] = x at *
        go_wp2
        go_ret
        exact ⟨ret_bool (by rw [HB.out]), by repeat' (first | assumption | exact Ext.refl _ | refine Ext.alloc ?_ _ | refine Ext.drew ?_)⟩
      by_cases c3 : 4096 < l[k].at_
      · have HB := Lib.hid (HC.out (okOne_at (by omega)))
        clear HC
        generalize l[k] = x at *
        go_wp2
        go_ret
        exact ⟨ret_bool (by rw [HB.out]), by repeat' (first | assumption | exact Ext.refl _ | refine Ext.alloc ?_ _ | refine Ext.drew ?_)⟩
      by_cases c4 : 4096 < l[k].n
      · have HB := Lib.hid (HC.out (okOne_n (by omega)))
        clear HC
        generalize l[k] = x at *
        go_wp2
        go_ret
        exact ⟨ret_bool (by rw [HB.out]), by repeat' (first | assumption | exact Ext.refl _ | refine Ext.alloc ?_ _ | refine Ext.drew ?_)⟩
      by_cases c5 : (4096 : Int) < (l[k].text.size : Int)
      · have HB := Lib.hid (HC.out (okOne_text (by omega)))
        clear HC
        generalize l[k] = x at *
        go_wp2
        go_ret
        exact ⟨ret_bool (by rw [HB.out]), by repeat' (first | assumption | exact Ext.refl _ | refine Ext.alloc ?_ _ | refine Ext.drew ?_)⟩
      have hone : okOne l[k] = true := by simp only [okOne, c0, inB_t (show 0 ≤ l[k].at_ ∧ l[k].at_ ≤ 4096 from ⟨by omega, by omega⟩), inB_t (show 0 ≤ l[k].n ∧ l[k].n ≤ 4096 from ⟨by omega, by omega⟩), decide_eq_true (show l[k].text.size ≤ 4096 by omega)]; rfl
      by_cases hk0 : k = 0
      · subst hk0
        have HONE := Lib.hid hone
        clear HC hone
        simp only [Nat.zero_mul, Nat.add_zero] at e0 e1 e2 e3
        generalize hx : l[0] = x at *
        have HXX := Lib.hid hx
        clear hx
        go_wp2
        go_roundg (l.length - 1)
        case measure => omega
        case rel =>
          refine ⟨1, by omega, by omega, rfl, fun j hj hj1 => ?_, by repeat' (first | assumption | exact Ext.refl _ | refine Ext.alloc ?_ _ | refine Ext.drew ?_)⟩
          obtain rfl : j = 0 := by omega
          exact ⟨by rw [HXX.out]; exact HONE.out, fun h0 => absurd h0 (by omega)⟩
      · obtain ⟨m, rfl⟩ : ∃ m, k = m + 1 := ⟨k - 1, by omega⟩
        have hprev := (HALL.out m (by omega) (by omega)).1
        obtain ⟨p', o', e', f0, f1, f2, f3⟩ := G1.out m (by omega)
        simp only [Option.some.injEq, Addr.mk.injEq] at e'
        obtain ⟨rfl, rfl, _⟩ := e'
        have f0 := xr.cell f0
        have f1 := xr.cell f1
        have f2 := xr.cell f2
        have f3 := xr.cell f3
        have hp : p < wr.heap.size := World.block_lt_of_cell? _ _ f0
        have hbadN := fun (h : okNext l[m] l[m + 1] = false) => chk_next (l := l) (j := m + 1) hlt (by omega) h
        have hnext : okNext l[m] l[m + 1] = true → ∀ j (hj : j < l.length), j < m + 1 + 1 → okOne l[j] = true ∧ (∀ (h0 : 0 < j), okNext (l[j - 1]'(by omega)) l[j] = true) := by
          intro hn j hj hj1
          by_cases e : j = m + 1
          · subst e
            exact ⟨hone, fun _ => hn⟩
          · exact HALL.out j hj (by omega)
        have HBN := Lib.hid hbadN
        have HN := Lib.hid hnext
        have hpb : (0 ≤ l[m].at_ ∧ l[m].at_ ≤ 4096) ∧ (0 ≤ l[m].n ∧ l[m].n ≤ 4096) := by
          simp only [okOne, Bool.and_eq_true, inB, decide_eq_true_eq] at hprev
          exact ⟨hprev.1.1.2, hprev.1.2⟩
        obtain ⟨⟨p1, p2⟩, p3, p4⟩ := hpb
        clear hbadN hnext HC hone hprev HALL hk0
        generalize l[m] = y at *
        generalize l[m + 1] = x at *
        cases d0 : Op.bytesLess x.path.toList y.path.toList
        · cases d1 : (x.path.toList == y.path.toList)
          · have HOKN := Lib.hid (HN.out (by simp [okNext, d0, d1]))
            clear HN HBN
            go_wp2
            go_roundg (l.length - (m + 1 + 1))
            case measure => omega
            case rel => exact ⟨m + 1 + 1, by omega, by omega, by go_num, HOKN.out, by repeat' (first | assumption | exact Ext.refl _ | refine Ext.alloc ?_ _ | refine Ext.drew ?_)⟩
          · by_cases d2 : x.at_ ≤ y.at_ + y.n
            · have HB := Lib.hid (HBN.out (by simp [okNext, d0, d1, d2]))
              clear HN HBN
              go_wp2
              go_ret
              exact ⟨ret_bool (by rw [HB.out]), by repeat' (first | assumption | exact Ext.refl _ | refine Ext.alloc ?_ _ | refine Ext.drew ?_)⟩
            · have HOKN := Lib.hid (HN.out (by simp [okNext, d0, d1]; omega))
              clear HN HBN
              go_wp2
              go_roundg (l.length - (m + 1 + 1))
              case measure => omega
              case rel => exact ⟨m + 1 + 1, by omega, by omega, by go_num, HOKN.out, by repeat' (first | assumption | exact Ext.refl _ | refine Ext.alloc ?_ _ | refine Ext.drew ?_)⟩
        · have HB := Lib.hid (HBN.out (by simp [okNext, d0]))
          clear HN HBN
          go_wp2
          go_ret
          exact ⟨ret_bool (by rw [HB.out]), by repeat' (first | assumption | exact Ext.refl _ | refine Ext.alloc ?_ _ | refine Ext.drew ?_)⟩
    · have : k = l.length := by omega
      subst this
      have hck : chk l = true := chk_of (fun j hj => HALL.out j hj hj)
      have HCK := Lib.hid hck
      clear hck
      go_wp2
      go_ret
      exact ⟨ret_bool (by rw [HCK.out]), xr⟩
end Go.Proofs.YtgcbkhmaabmdjaaDoor
