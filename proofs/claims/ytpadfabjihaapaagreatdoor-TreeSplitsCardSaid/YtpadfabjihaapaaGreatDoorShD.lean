/- Walks of sha's Start, Pad and of the reference's Pad, Table. -/
import Derived.Test.YtpadfabjihaapaaGreatDoorShB
import Derived.Deep.WholeRow
namespace Go.Proofs.YtpadfabjihaapaaGreatDoor
open Go.RowKit
set_option linter.unusedVariables false

theorem wp_build_is {P : Program} {o : Oper} {a : Act} {w : World} {K : Act → World → Prop} {Q : Exit → Act → World → Prop} (t : TypeId) (parts : Array (Nat × Operand)) (ho : o.op = .build t parts) (cells : Array Value)
    (hf : P.built t (parts.map fun (i, x) => (i, a.eval x)).toList = some cells) (h : K (a.put o.dst (.agg cells)) w) : o.wp P a w K Q :=
  wp_build t parts ho (by rw [hf]; rfl) (by rw [hf]; exact h)

set_option maxHeartbeats 4000000 in
set_option maxRecDepth 100000 in
theorem refTable (w : World) :
    Calls Tryz.prog 114 #[] w fun e w' => e = .returned (.agg (kTab.map uc32).toArray) ∧ Ext w w' := by
  --DEV<
  go_enter Tryz.func114, Tryz.ntmps114
  go_wp2_with fail
  refine wp_build_is _ _ rfl (kTab.map uc32).toArray (by kernel_rfl) ?_
  rename_i hK
  refine hK _ _ ?_
  refine wpList_store_row rfl _ _ _ rfl w.heap.size (kTab.map uc32).toArray (by rfl) (by rfl) 156 _ (heap_alloc_new _ _) (by kernel_rfl) (by kernel_rfl) (by kernel_rfl) ?_
  rw [World.setRow_alloc_new]
  clear hK
  go_wp2
  exact bodyPost_ret (results_cell_row rfl _ _ w.heap.size _ _ _ _ (by rfl) (heap_alloc_new _ _) Tryz.underlying156 rfl (by kernel_rfl)) rfl ⟨rfl, (Ext.refl _).alloc _⟩
--DEV>

set_option maxHeartbeats 4000000 in
set_option maxRecDepth 100000 in
theorem shaStart (w : World) (hK : Tabs w) :
    Calls Tryz.prog 142 #[] w fun e w' => e = .returned (.agg startS.cs) ∧ Ext w w' := by
  have d0 := hK.s 0 (by omega)
  have d1 := hK.s 1 (by omega)
  have d2 := hK.s 2 (by omega)
  have d3 := hK.s 3 (by omega)
  have d4 := hK.s 4 (by omega)
  have d5 := hK.s 5 (by omega)
  have d6 := hK.s 6 (by omega)
  have d7 := hK.s 7 (by omega)
  have hb1 := World.block_lt_of_cell? _ _ d0
  simp only at hb1
  simp only [S8.l, startS, List.getD_cons_zero, List.getD_cons_succ] at d0 d1 d2 d3 d4 d5 d6 d7
  go_enter Tryz.func142, Tryz.ntmps142
  go_wp2
  refine bodyPost_ret (v := .agg startS.cs) ?_ ?_ ?_
  rotate_left
  · rfl
  · exact ⟨rfl, (Ext.refl _).alloc _⟩
  simp [results, Tryz.results142, go_sem, S8.cs, a8, startS]

/-- How many noughts are laid behind n bytes and one more. -/
def padK (n : Nat) : Nat := (119 - n % 64) % 64
def padL (l : List UInt8) : List UInt8 := (l ++ [128] ++ List.replicate (padK l.length) 0) ++ be (8 * l.length) 8
theorem padK_end (n : Nat) : (n + 1 + padK n) % 64 = 56 := by unfold padK; omega
theorem padK_in (n j : Nat) (h : j < padK n) : (n + 1 + j) % 64 ≠ 56 := by unfold padK at h; omega
theorem padK_le (n : Nat) : padK n < 64 := by unfold padK; omega
theorem padL_len (l : List UInt8) : (padL l).length = l.length + 1 + padK l.length + 8 := by simp [padL, be_length]; omega

set_option maxHeartbeats 4000000 in
set_option maxRecDepth 100000 in
theorem shaPad (w : World) (v : Value) (l : List UInt8) (h : IsB w v l) (hl : l.length ≤ 1099511627776) :
    Calls Tryz.prog 143 #[v] w fun e w' => ∃ v', e = .returned v' ∧ w'.ownsRow w.heap.size 5 1 v' (padL l).length ((padL l).map bc) ∧ Ext w w' := by
  have hx := h
  obtain ⟨ao, cap, rfl, b1, m1, z1, g1⟩ := h.opened
  clear z1 g1 h
  have o0 := World.ownsRow_lit (base := w.heap.size) (size := 1) (e := 5) w #[] 0 (Nat.le_refl _) (by decide) rfl
  go_enter Tryz.func143, Tryz.ntmps143
  go_wp2_with (at_builtin; (first
    | ((refine wp_app tyB rfl _ _ rfl w.heap.size _ 0 [] o0 (by rfl) _ l.length (l.map bc) (hx.ext ((Ext.refl _).alloc _)) (by rfl) (bc_one l) (by omega) (by omega) (by simp) ?_); intro v4 w4 hown4 hgrow4; have x4 := own_base o0 hgrow4 ((Ext.refl w).alloc _) (Nat.le_refl _))
    | (refine wp_app1 tyB rfl _ _ rfl w.heap.size _ _ _ _ _ hown4 (by rfl) (by rfl) rfl (by omega) (by omega) x4.size ?_; intro v5 w5 hown5 hgrow5)))
  have X0 : Ext w w5 := own_base (hown4.alloc _) hgrow5 (x4.alloc _) (Nat.le_refl _)
  go_loopg [3] (padK l.length) (fun g s3 wr => ∃ (j m : Nat) (O : List UInt8), j ≤ padK l.length ∧ padK l.length - j ≤ g ∧ O = l ++ [128] ++ List.replicate j 0 ∧ m = l.length + 1 + j ∧ wr.ownsRow w.heap.size 5 1 s3 m (O.map bc) ∧ Ext w wr)
  case atStart => exact ⟨0, _, _, Nat.zero_le _, by omega, rfl, rfl, by simpa [bc] using hown5, X0⟩
  case round =>
    obtain ⟨j, m, O, hj, hg, hO, hm, hown, xr⟩ := hrel
    obtain ⟨_, ao2, cap2, rfl, b2, m2, _, _⟩ := IsSl.of_owns hown
    have hend := padK_end l.length
    have hkl := padK_le l.length
    have hml : m ≤ l.length + 64 := by omega
    by_cases hlt : j < padK l.length
    · have hin := padK_in l.length j hlt
      have hin2 : ((m : Int) % 64 == 56) = false := by rw [beq_eq_false_iff_ne]; omega
      have HM := Lib.hid hm
      have HO := Lib.hid hO
      clear hm hO hin hend
      go_wp2_with (at_builtin; go_must (refine wp_app1 tyB rfl _ _ rfl w.heap.size _ _ _ _ _ hown (by rfl) (by rfl) rfl (by omega) (by omega) xr.size ?_); intro v6 w6 hown6 hgrow6)
      go_roundg (padK l.length - (j + 1))
      case measure => omega
      case rel =>
        refine ⟨j + 1, m + 1, O ++ [0], by omega, by omega, ?_, by rw [HM.out]; omega, by simpa [bc] using hown6, own_base (hown.alloc _) hgrow6 (xr.alloc _) (Nat.le_refl _)⟩
        rw [HO.out, List.replicate_succ']; simp
    · have hjk : j = padK l.length := by omega
      have hin2 : ((m : Int) % 64 == 56) = true := by rw [beq_iff_eq]; omega
      have hIs : IsB wr (.slice ao2 m cap2) O := IsB.of_owns hown
      have HM := Lib.hid hm
      have HO := Lib.hid hO
      have HJ := Lib.hid hjk
      have hOm : O.length = m := by simpa using hown.1
      clear hm hO hend hjk
      go_wp2_with fail
      refine Calls.mono (octetPut64 _ _ O (8 * l.length) hIs (by omega)) ?_
      rintro e w6 ⟨v6, rfl, own6, x6⟩
      go_wp2
      go_ret
      refine ⟨_, rfl, ?_, xr.trans x6⟩
      have own6 := ownsRow_base own6 xr.size
      rw [hOm, HM.out, HO.out, HJ.out] at own6
      rw [padL_len]
      exact own6

set_option maxHeartbeats 4000000 in
set_option maxRecDepth 100000 in
theorem refPad (w : World) (v : Value) (l : List UInt8) (h : IsB w v l) (hl : l.length ≤ 1099511627776) :
    Calls Tryz.prog 115 #[v] w fun e w' => ∃ v', e = .returned v' ∧ w'.ownsRow w.heap.size 5 1 v' (padL l).length ((padL l).map bc) ∧ Ext w w' := by
  have hx := h
  obtain ⟨ao, cap, rfl, b1, m1, z1, g1⟩ := h.opened
  clear z1 g1 h
  go_enter Tryz.func115, Tryz.ntmps115
  go_wp2_with fail
  refine Calls.mono (refBoth _ _ _ l [128] (hx.ext ((Ext.refl _).alloc _)) (IsB.new [128] rfl rfl rfl (by omega)) (by simp; omega)) ?_
  rintro e w5 ⟨v5, rfl, hown5, x5⟩
  have hown5 := ownsRow_base hown5 ((Ext.refl w).alloc (.cells #[.int .u8 128] 5)).size
  have X0 : Ext w w5 := ((Ext.refl w).alloc _).trans x5
  go_wp2_with fail
  go_loopg [3] (padK l.length) (fun g s3 wr => ∃ (j m : Nat) (O : List UInt8), j ≤ padK l.length ∧ padK l.length - j ≤ g ∧ O = l ++ [128] ++ List.replicate j 0 ∧ m = l.length + 1 + j ∧ wr.ownsRow w.heap.size 5 1 s3 m (O.map bc) ∧ Ext w wr)
  case atStart => exact ⟨0, _, _, Nat.zero_le _, by omega, rfl, rfl, by simpa [bc] using hown5, X0⟩
  case round =>
    obtain ⟨j, m, O, hj, hg, hO, hm, hown, xr⟩ := hrel
    obtain ⟨_, ao2, cap2, rfl, b2, m2, _, _⟩ := IsSl.of_owns hown
    have hend := padK_end l.length
    have hkl := padK_le l.length
    have hml : m ≤ l.length + 64 := by omega
    by_cases hlt : j < padK l.length
    · have hin := padK_in l.length j hlt
      have hin2 : ((m : Int) % 64 == 56) = false := by rw [beq_eq_false_iff_ne]; omega
      have HM := Lib.hid hm
      have HO := Lib.hid hO
      clear hm hO hin hend
      go_wp2_with (at_builtin; go_must (refine wp_app1 tyB rfl _ _ rfl w.heap.size _ _ _ _ _ hown (by rfl) (by rfl) rfl (by omega) (by omega) xr.size ?_); intro v6 w6 hown6 hgrow6)
      go_roundg (padK l.length - (j + 1))
      case measure => omega
      case rel =>
        refine ⟨j + 1, m + 1, O ++ [0], by omega, by omega, ?_, by rw [HM.out]; omega, by simpa [bc] using hown6, own_base (hown.alloc _) hgrow6 (xr.alloc _) (Nat.le_refl _)⟩
        rw [HO.out, List.replicate_succ']; simp
    · have hjk : j = padK l.length := by omega
      have hin2 : ((m : Int) % 64 == 56) = true := by rw [beq_iff_eq]; omega
      have hIs : IsB wr (.slice ao2 m cap2) O := IsB.of_owns hown
      have HM := Lib.hid hm
      have HO := Lib.hid hO
      have HJ := Lib.hid hjk
      have hOm : O.length = m := by simpa using hown.1
      obtain ⟨z, hz⟩ : ∃ z : Nat, z = 8 * l.length := ⟨_, rfl⟩
      have h8 : (l.length : Int) * 8 = (z : Int) := by omega
      have hz64 : z < 18446744073709551616 := by omega
      have HZ := Lib.hid hz
      clear hz
      clear hm hO hend hjk
      go_wp2_with fail
      refine Calls.mono (refHigh _ z 8 hz64 (by omega)) ?_
      rintro e wh ⟨vh, rfl, ownh, xh⟩
      go_wp2_with fail
      refine Calls.mono (refBoth _ _ _ O (be z 8) (hIs.ext xh) (IsB.of_owns ownh) (by rw [be_length]; omega)) ?_
      rintro e w6 ⟨v6, rfl, own6, x6⟩
      go_wp2
      go_ret
      refine ⟨_, rfl, ?_, (xr.trans xh).trans x6⟩
      have own6 := ownsRow_base own6 (xr.trans xh).size
      rw [hOm, HM.out, HO.out, HJ.out, be_length, HZ.out] at own6
      rw [padL_len]
      exact own6
end Go.Proofs.YtpadfabjihaapaaGreatDoor
