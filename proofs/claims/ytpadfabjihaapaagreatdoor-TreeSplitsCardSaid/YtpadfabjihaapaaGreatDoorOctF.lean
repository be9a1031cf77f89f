/- The walks of the reference: High, Both, Number, Do. -/
import Derived.Test.YtpadfabjihaapaaGreatDoorOctE
namespace Go.Proofs.YtpadfabjihaapaaGreatDoor
open Go.RowKit

set_option maxRecDepth 100000 in
set_option maxHeartbeats 1000000 in
theorem refBoth (w : World) (v1 v2 : Value) (l1 l2 : List UInt8) (h1 : IsB w v1 l1) (h2 : IsB w v2 l2) (hb : l1.length + l2.length ≤ 140737488355328) :
    Calls Tryz.prog 117 #[v1, v2] w fun e w' => ∃ v', e = .returned v' ∧ w'.ownsRow w.heap.size 5 1 v' (l1.length + l2.length) ((l1 ++ l2).map bc) ∧ Ext w w' := by
  obtain ⟨i0, hi, hz0, hz1, hz2⟩ := info_parts infoByte
  obtain ⟨ao1, c1, rfl, b1, m1, z1, g1⟩ := h1.opened
  obtain ⟨ao2, c2, rfl, b2, m2, z2, g2⟩ := h2.opened
  have G1 := Lib.hid g1
  have G2 := Lib.hid g2
  clear g1 g2 z1 z2
  go_enter Tryz.func117, Tryz.ntmps117
  go_wp2_with (at_make; refine wpList_make_own _ rfl _ _ 40 rfl w.heap.size 5 i0 _ 1 Tryz.underlying40 hi hz0 hz1 _ _ _ (l1.length + l2.length) rfl rfl (by simp) (by rw [hz2]; omega) (by unfold maxLen; omega) (Nat.le_refl _) ?_; intro w1 hown hgrow)
  have hext := (Ext.refl w).grown hgrow (by intro k hk; simp at hk)
  go_loopg [5, 6] l1.length (fun g s5 s6 wr => ∃ k : Nat, k ≤ l1.length ∧ l1.length - k ≤ g ∧ s6 = .int .i64 k ∧ wr.ownsRow w.heap.size 5 1 s5 k ((l1.take k).map bc) ∧ Ext w wr)
  case atStart => exact ⟨0, by omega, by omega, rfl, hown, hext⟩
  case round =>
    obtain ⟨k, hk, hg, rfl, hown1, hext1⟩ := hrel
    by_cases hlt : k < l1.length
    · obtain ⟨p, o, rfl, e1⟩ := G1.out k hlt
      have e1 := hext1.cell e1
      have ht := List.take_succ_eq_append_getElem hlt
      generalize l1[k] = c at *
      have HT := Lib.hid ht
      clear ht
      go_wp2_with (at_builtin; go_must (refine wp_app1 tyB rfl _ _ rfl w.heap.size _ k _ _ _ hown1 (by rfl) (by rfl) rfl (by omega) (by omega) hext1.size ?_); intro v2 w2 hown2 hgrow2)
      go_roundg (l1.length - (k + 1))
      case measure => omega
      case rel =>
        refine ⟨k + 1, by omega, by omega, by go_num, ?_, own_base (hown1.alloc _) hgrow2 (hext1.alloc _) (Nat.le_refl _)⟩
        rw [HT.out, List.map_append]
        exact hown2
    · have : k = l1.length := by omega
      subst this
      rw [List.take_length] at hown1
      go_wp2_with fail
      obtain ⟨wo, rfl⟩ : ∃ wo : World, wo = wr := ⟨_, rfl⟩
      go_loopg [5, 7] l2.length (fun g s5 s6 wr => ∃ k : Nat, k ≤ l2.length ∧ l2.length - k ≤ g ∧ s6 = .int .i64 k ∧ wr.ownsRow w.heap.size 5 1 s5 (l1.length + k) ((l1 ++ l2.take k).map bc) ∧ Ext w wr)
      case atStart => exact ⟨0, by omega, by omega, rfl, by simpa using hown1, hext1⟩
      case round =>
        obtain ⟨k, hk, hg, rfl, hown3, hext3⟩ := hrel
        by_cases hlt : k < l2.length
        · obtain ⟨p, o, rfl, e1⟩ := G2.out k hlt
          have e1 := hext3.cell e1
          have ht := List.take_succ_eq_append_getElem hlt
          generalize l2[k] = c at *
          have HT := Lib.hid ht
          clear ht
          go_wp2_with (at_builtin; go_must (refine wp_app1 tyB rfl _ _ rfl w.heap.size _ (l1.length + k) _ _ _ hown3 (by rfl) (by rfl) rfl (by omega) (by omega) hext3.size ?_); intro v2 w2 hown2 hgrow2)
          go_roundg (l2.length - (k + 1))
          case measure => omega
          case rel =>
            refine ⟨k + 1, by omega, by omega, by go_num, ?_, own_base (hown3.alloc _) hgrow2 (hext3.alloc _) (Nat.le_refl _)⟩
            rw [HT.out, ← List.append_assoc, List.map_append]
            exact hown2
        · have : k = l2.length := by omega
          subst this
          rw [List.take_length] at hown3
          go_wp2
          go_ret
          exact ⟨_, rfl, hown3, hext3⟩

theorem set_last {α : Type} (z c : α) (m : Nat) (d : List α) : (List.replicate (m + 1) z ++ d).set m c = List.replicate m z ++ c :: d := by
  rw [List.replicate_succ', List.append_assoc, List.set_append_right _ _ (by simp)]
  simp

theorem be_drop (x n k : Nat) (h : k < n) : (be x n).drop (n - 1 - k) = UInt8.ofNat (x / 2 ^ (8 * k)) :: (be x n).drop (n - k) := by
  rw [List.drop_eq_getElem_cons (by rw [be_length]; omega)]
  have e : n - 1 - k + 1 = n - k := by omega
  rw [e]
  congr 1
  have := be_get x n (n - 1 - k) (by omega)
  rw [List.getElem?_eq_getElem (by rw [be_length]; omega)] at this
  rw [Option.some.inj this]
  have e2 : n - 1 - (n - 1 - k) = k := by omega
  rw [e2]

set_option maxRecDepth 100000 in
set_option maxHeartbeats 1000000 in
theorem refHigh (w : World) (x n : Nat) (hx : x < 18446744073709551616) (hn : n ≤ 8) :
    Calls Tryz.prog 118 #[.int .u64 x, .int .i64 n] w fun e w' => ∃ v', e = .returned v' ∧ w'.ownsRow w.heap.size 5 1 v' n ((be x n).map bc) ∧ Ext w w' := by
  obtain ⟨i0, hi, hz0, hz1, hz2⟩ := info_parts infoByte
  go_enter Tryz.func118, Tryz.ntmps118
  go_wp2_with (at_make; refine wpList_make_full _ rfl _ _ 40 rfl w.heap.size 5 i0 _ 1 Tryz.underlying40 hi hz0 hz1 _ _ _ _ n rfl rfl (by simp) (by simp) (by rw [hz2]; omega) (by unfold maxLen; omega) (Nat.le_refl _) ?_; intro w1 hown hgrow)
  have hext := (Ext.refl w).grown hgrow (by intro k hk; simp at hk)
  rw [Nat.mul_one, show (Value.int IntKind.u8 0).cells = #[.int .u8 0] from rfl, toList_madeCells_one] at hown
  go_loopg [0, 6] n (fun g s0 s6 wr => ∃ k : Nat, k ≤ n ∧ n - k ≤ g ∧ s6 = .int .i64 ((n : Int) - 1 - k) ∧ s0 = .int .u64 ((x / 2 ^ (8 * k) : Nat) : Int) ∧ wr.ownsRow w.heap.size 5 1 (.slice (some ⟨w.heap.size, 0, none⟩) n n) n (List.replicate (n - k) (.int .u8 0) ++ ((be x n).drop (n - k)).map bc) ∧ Ext w wr)
  case atStart =>
    refine ⟨0, by omega, by omega, by simp, by simp, ?_, hext⟩
    rw [Nat.sub_zero, List.drop_of_length_le (by rw [be_length]; omega)]
    simpa using hown
  case round =>
    obtain ⟨k, hk, hg, rfl, rfl, hown1, hext1⟩ := hrel
    by_cases hlt : k < n
    · have hc := hown1.cellAt (n - 1 - k) (by omega)
      have hf := hown1.frozenAt (n - 1 - k)
      have hst := hown1.stored (n - 1 - k) (bc (UInt8.ofNat (x / 2 ^ (8 * k))))
      have hx8 : x / 2 ^ (8 * k) < 18446744073709551616 := Nat.lt_of_le_of_lt (Nat.div_le_self _ _) hx
      have hsx : x / 2 ^ (8 * (k + 1)) = x / 2 ^ (8 * k) / 256 := by rw [Nat.mul_add, Nat.pow_add, Nat.div_div_eq_div_mul]
      rw [bc_ofNat] at hst
      generalize hy : x / 2 ^ (8 * k) = y at *
      have HY := Lib.hid hy
      clear hy
      have HS := Lib.hid hst
      have HX := Lib.hid hsx
      clear hst hsx
      have hcs : (List.replicate (n - k) (Value.int .u8 0) ++ ((be x n).drop (n - k)).map bc)[n - 1 - k]? = some (.int .u8 0) := by
        rw [List.getElem?_append_left (by simp; omega), List.getElem?_replicate, if_pos (by omega)]
      rw [hcs] at hc
      clear hcs
      go_wp2
      go_roundg (n - (k + 1))
      case measure => omega
      case rel =>
        refine ⟨k + 1, by omega, by omega, by go_num, ?_, ?_, hext1.setCell (by simp) _⟩
        · rw [HX.out]; simp
        · have h := HS.out
          have e1 : n - k = (n - (k + 1)) + 1 := by omega
          have e2 : n - 1 - k = n - (k + 1) := by omega
          have e3 := be_drop x n k hlt
          rw [e2] at h e3 ⊢
          rw [e1, set_last] at h
          rw [e3, List.map_cons, bc_ofNat, HY.out, e1]
          exact h.1
    · have : k = n := by omega
      subst this
      go_wp2
      go_ret
      refine ⟨_, rfl, ?_, hext1⟩
      simpa using hown1

set_option maxRecDepth 100000 in
set_option maxHeartbeats 1000000 in
theorem refNumber (w : World) (v : Value) (l : List UInt8) (h : IsB w v l) (hb : l.length ≤ 140737488355328) :
    Calls Tryz.prog 146 #[v] w fun e w' => e = .returned (.int .u64 (num l : Int)) ∧ w = w' := by
  obtain ⟨ao, cap, rfl, b1, m1, z1, g1⟩ := h.opened
  have G1 := Lib.hid g1
  clear g1 z1 h
  go_enter Tryz.func146, Tryz.ntmps146
  go_wp2_with fail
  go_loopg [3, 4] l.length (fun g s5 s12 wr => ∃ k : Nat, k ≤ l.length ∧ l.length - k ≤ g ∧ s12 = .int .i64 k ∧ s5 = .int .u64 (num (l.take k) : Int) ∧ wr = w)
  case atStart => exact ⟨0, Nat.zero_le _, by omega, rfl, rfl, rfl⟩
  case round =>
    obtain ⟨k, hk, hg, rfl, rfl, rfl⟩ := hrel
    by_cases hlt : k < l.length
    · obtain ⟨p, o, rfl, e1⟩ := G1.out k hlt
      have hn1 := num_lt (l.take k)
      have hn2 := num_take l k hlt
      generalize num (l.take k) = x at *
      generalize hc : l[k] = c at *
      have HN := Lib.hid hn2
      clear hn2 hc
      have hc := u8_lt c
      go_wp2
      go_roundg (l.length - (k + 1))
      case measure => omega
      case rel =>
        refine ⟨k + 1, by omega, by omega, by go_num, ?_, rfl⟩
        rw [HN.out]
        congr 1
        simp only [IntKind.wrap_u64]
        omega
    · have : k = l.length := by omega
      subst this
      go_wp2
      go_ret
      exact ⟨ret_int (by rw [List.take_length]), rfl⟩
end Go.Proofs.YtpadfabjihaapaaGreatDoor
