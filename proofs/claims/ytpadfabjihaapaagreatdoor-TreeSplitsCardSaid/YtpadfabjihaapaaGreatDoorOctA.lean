/- The walks of slices.Equal, slices.Clone, octet.Equal, octet.Zero and the reference's Same at bytes: what they return for every input. -/
import Derived.Test.YtpadfabjihaapaaGreatDoorKit
import Derived.Test.YtpadfabjihaapaaGreatDoorProg
import Derived.BigQuiet
import Derived.Deep.QuietTactic
namespace Go.Proofs.YtpadfabjihaapaaGreatDoor
open Go.RowKit

theorem infoByte : (Tryz.prog.info? 5).map (fun i => (i.zero, i.size, i.bytes)) = some (some (.int .u8 0), 1, 1) := by kernel_rfl

theorem tyB : ETy Tryz.prog 40 5 (.int .u8 0) 1 1 := ⟨Tryz.underlying40, info_parts infoByte, rfl, by decide⟩

set_option maxHeartbeats 1000000 in
theorem slicesEqual (w : World) (v1 v2 : Value) (l1 l2 : List UInt8) (h1 : IsB w v1 l1) (h2 : IsB w v2 l2) :
    Calls Tryz.prog 145 #[v1, v2] w fun e w' => e = .returned (.bool (l1 == l2)) ∧ ∃ q, w' = w.drewN q := by
  obtain ⟨ao1, c1, rfl, b1, m1, z1, g1⟩ := h1.opened
  obtain ⟨ao2, c2, rfl, b2, m2, z2, g2⟩ := h2.opened
  have G1 := Lib.hid g1
  have G2 := Lib.hid g2
  clear g1 g2 h1 h2 z1 z2
  by_cases hnm : l1.length = l2.length
  · have Hnm := Lib.hid hnm
    have hn : ((l1.length : Int) != (l2.length : Int)) = false := by rw [hnm]; simp
    clear hnm
    go_enter Tryz.func145, Tryz.ntmps145
    go_wp2
    go_loopg [13] l1.length (fun g s13 wr => ∃ k q : Nat, k ≤ l1.length ∧ l1.length - k ≤ g ∧ s13 = .int .i64 k ∧ wr = w.drewN q ∧ ∀ j (h1 : j < l1.length) (h2 : j < l2.length), j < k → l1[j] = l2[j])
    case atStart => exact ⟨0, 0, Nat.zero_le _, by omega, rfl, rfl, fun j _ _ hj => absurd hj (Nat.not_lt_zero _)⟩
    case round =>
      obtain ⟨k, q, hk, hg, rfl, rfl, heq⟩ := hrel
      have HEQ := Lib.hid heq
      clear heq
      by_cases hlt : k < l1.length
      · have hlt2 : k < l2.length := by have := Hnm.out; omega
        obtain ⟨p1, o1, rfl, e1⟩ := G1.out k hlt
        obtain ⟨p2, o2, rfl, e2⟩ := G2.out k hlt2
        generalize hxk : l1[k] = x at e1
        generalize hyk : l2[k] = y at e2
        have HX := Lib.hid hxk
        have HY := Lib.hid hyk
        clear hxk hyk
        by_cases hxy : x = y
        · subst hxy
          go_wp2_with fail
          go_quiet (fail)
          go_wp2
          go_roundg (l1.length - (k + 1))
          case measure => omega
          case rel =>
            refine ⟨k + 1, _, by omega, by omega, by go_num, rfl, fun j a1 a2 hj => ?_⟩
            by_cases e : j = k
            · subst e
              rw [HX.out, HY.out]
            · exact HEQ.out j a1 a2 (by omega)
        · have hne := u8_ne hxy
          go_wp2_with fail
          go_quiet (fail)
          go_wp2
          go_ret
          refine ⟨ret_bool (beq_of_ne l1 l2 k hlt hlt2 (by rw [HX.out, HY.out]; exact hxy)).symm, _, World.drewN_drewN _ _ _⟩
      · have : k = l1.length := by omega
        subst this
        go_wp2
        go_ret
        exact ⟨ret_bool (beq_of_all l1 l2 Hnm.out (fun j a1 a2 => HEQ.out j a1 a2 a1)).symm, _, rfl⟩
  · have hn : ((l1.length : Int) != (l2.length : Int)) = true := by rw [bne_iff_ne]; omega
    go_enter Tryz.func145, Tryz.ntmps145
    go_wp2
    go_ret
    exact ⟨ret_bool (beq_of_len l1 l2 hnm).symm, 0, rfl⟩

set_option maxHeartbeats 1000000 in
theorem octetEqual (w : World) (v1 v2 : Value) (l1 l2 : List UInt8) (h1 : IsB w v1 l1) (h2 : IsB w v2 l2) :
    Calls Tryz.prog 111 #[v1, v2] w fun e w' => e = .returned (.bool (l1 == l2)) ∧ ∃ q, w' = w.drewN q := by
  go_enter Tryz.func111, Tryz.ntmps111
  go_wp2_with fail
  refine (slicesEqual _ _ _ l1 l2 h1 h2).mono ?_
  rintro e w' ⟨rfl, q, rfl⟩
  go_wp2
  go_ret
  exact ⟨rfl, q, rfl⟩

set_option maxHeartbeats 1000000 in
theorem refSame (w : World) (v1 v2 : Value) (l1 l2 : List UInt8) (h1 : IsB w v1 l1) (h2 : IsB w v2 l2) :
    Calls Tryz.prog 34 #[v1, v2] w fun e w' => e = .returned (.bool (l1 == l2)) ∧ ∃ q, w' = w.drewN q := by
  obtain ⟨ao1, c1, rfl, b1, m1, z1, g1⟩ := h1.opened
  obtain ⟨ao2, c2, rfl, b2, m2, z2, g2⟩ := h2.opened
  have G1 := Lib.hid g1
  have G2 := Lib.hid g2
  clear g1 g2 h1 h2 z1 z2
  by_cases hnm : l1.length = l2.length
  · have Hnm := Lib.hid hnm
    have hn : ((l1.length : Int) != (l2.length : Int)) = false := by rw [hnm]; simp
    clear hnm
    go_enter Tryz.func34, Tryz.ntmps34
    go_wp2
    go_loopg [5] l1.length (fun g s13 wr => ∃ k q : Nat, k ≤ l1.length ∧ l1.length - k ≤ g ∧ s13 = .int .i64 k ∧ wr = w.drewN q ∧ ∀ j (h1 : j < l1.length) (h2 : j < l2.length), j < k → l1[j] = l2[j])
    case atStart => exact ⟨0, 0, Nat.zero_le _, by omega, rfl, rfl, fun j _ _ hj => absurd hj (Nat.not_lt_zero _)⟩
    case round =>
      obtain ⟨k, q, hk, hg, rfl, rfl, heq⟩ := hrel
      have HEQ := Lib.hid heq
      clear heq
      by_cases hlt : k < l1.length
      · have hlt2 : k < l2.length := by have := Hnm.out; omega
        obtain ⟨p1, o1, rfl, e1⟩ := G1.out k hlt
        obtain ⟨p2, o2, rfl, e2⟩ := G2.out k hlt2
        generalize hxk : l1[k] = x at e1
        generalize hyk : l2[k] = y at e2
        have HX := Lib.hid hxk
        have HY := Lib.hid hyk
        clear hxk hyk
        by_cases hxy : x = y
        · subst hxy
          go_wp2_with fail
          go_quiet (fail)
          go_wp2
          go_roundg (l1.length - (k + 1))
          case measure => omega
          case rel =>
            refine ⟨k + 1, _, by omega, by omega, by go_num, rfl, fun j a1 a2 hj => ?_⟩
            by_cases e : j = k
            · subst e
              rw [HX.out, HY.out]
            · exact HEQ.out j a1 a2 (by omega)
        · have hne := u8_ne hxy
          go_wp2_with fail
          go_quiet (fail)
          go_wp2
          go_ret
          refine ⟨ret_bool (beq_of_ne l1 l2 k hlt hlt2 (by rw [HX.out, HY.out]; exact hxy)).symm, _, World.drewN_drewN _ _ _⟩
      · have : k = l1.length := by omega
        subst this
        go_wp2
        go_ret
        exact ⟨ret_bool (beq_of_all l1 l2 Hnm.out (fun j a1 a2 => HEQ.out j a1 a2 a1)).symm, _, rfl⟩
  · have hn : ((l1.length : Int) != (l2.length : Int)) = true := by rw [bne_iff_ne]; omega
    go_enter Tryz.func34, Tryz.ntmps34
    go_wp2
    go_ret
    exact ⟨ret_bool (beq_of_len l1 l2 hnm).symm, 0, rfl⟩


set_option maxHeartbeats 1000000 in
theorem slicesClone (w : World) (v : Value) (l : List UInt8) (h : IsB w v l) (hb : l.length ≤ 140737488355328) :
    Calls Tryz.prog 159 #[v] w fun e w' => ∃ v', e = .returned v' ∧ w'.ownsRow w.heap.size 5 1 v' l.length (l.map bc) ∧ Ext w w' := by
  obtain ⟨i0, hi, hz0, hz1, hz2⟩ := info_parts infoByte
  obtain ⟨hlen, ao, cap, rfl, b1, m1, z1, g1⟩ := h
  have q22 : ∀ (w : World) (a : Option Addr) (n c n' c' : Nat), (binOp .eql 40 (.slice a n c) (.slice none n' c')).run Tryz.prog w = .ok (.bool a.isNone) w := fun w a n c n' c' => Lib.run_eql_slice_nil w _ _ a n c n' c' Tryz.underlying40
  cases ao with
  | none =>
    obtain rfl := z1 rfl
    have hl : l = [] := List.eq_nil_of_length_eq_zero (by omega)
    subst hl
    go_enter Tryz.func159, Tryz.ntmps159
    go_wp2
    go_ret
    exact ⟨_, rfl, World.ownsRow_nil _ _ _ _, Ext.refl _⟩
  | some a =>
    have G1 := Lib.hid g1
    clear g1 z1
    go_enter Tryz.func159, Tryz.ntmps159
    go_wp2_with (at_builtin; refine wpList_append_own _ rfl _ _ 40 rfl w.heap.size 5 i0 (.int .u8 0) 1 1 Tryz.underlying40 hi hz0 hz1 hz2 rfl (by decide) _ _ _ rfl (World.ownsRow_made w #[] 0 (Nat.le_refl _) (Nat.zero_le _) rfl) a l.length cap (l.map bc) rfl ?qc1 ?qc2 ?qc3 ?qc4 ?qc5 ?qc6 ?_)
    case qc1 => simp
    case qc2 => exact lies_news (G1.out.ext ((Ext.refl w).alloc _)) rfl
    case qc3 => exact bc_one l
    case qc4 => unfold maxLen; omega
    case qc5 => omega
    case qc6 => simp
    intro v' w1 hown hgrow hnil
    go_wp2
    go_ret
    exact ⟨v', rfl, by simpa using hown, ((Ext.refl w).alloc _).grown hgrow (by intro k hk; simp [Value.ownBlock] at hk; omega)⟩
end Go.Proofs.YtpadfabjihaapaaGreatDoor
