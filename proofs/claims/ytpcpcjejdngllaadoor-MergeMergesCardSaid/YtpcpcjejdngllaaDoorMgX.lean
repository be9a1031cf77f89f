/- The walk of the statement MergeSame. -/
import Derived.Test.YtpcpcjejdngllaaDoorMgG
namespace Go.Proofs.YtpcpcjejdngllaaDoor
open Go.RowKit
set_option linter.unusedVariables false
set_option linter.unusedSimpArgs false

theorem ret_bool2 {a b : Bool} (h : a = b) : Ending.returned (.bool a) = Ending.returned (.bool b) := by rw [h]
/-- The first n elements. -/
theorem sl_take {w : World} {ao : Option Addr} {n cap s : Nat} {xs : List Value} (h : IsSl w (.slice ao n cap) s n xs) (m : Nat) (hm : m ≤ n) : IsSl w (.slice ao m cap) s m (xs.take (m * s)) := by
  obtain ⟨h1, a2, c2, e, h2, h3, h4, h5⟩ := h
  simp only [Value.slice.injEq, true_and] at e
  obtain ⟨rfl, rfl⟩ := e
  refine ⟨by rw [List.length_take, h1]; exact Nat.min_eq_left (Nat.mul_le_mul_right _ hm), ao, cap, rfl, by omega, h3, h4, fun i hi => ?_⟩
  rw [List.length_take] at hi
  obtain ⟨b, off, e1, e2⟩ := h5 i (by omega)
  exact ⟨b, off, e1, by rw [e2, List.getElem?_take, if_pos (by omega)]⟩
theorem flatm_takeC (xs : List Tr) : ∀ (a : Nat), (xs.flatMap clT).take (a * 7) = (xs.take a).flatMap clT := by
  induction xs with
  | nil => intro a; simp
  | cons x xs ih =>
    intro a
    cases a with
    | zero => simp
    | succ a =>
      rw [List.flatMap_cons, List.take_succ_cons, List.flatMap_cons, ← ih a]
      have : (a + 1) * 7 = (clT x).length + a * 7 := by show _ = 7 + a * 7; omega
      rw [this, List.take_append, List.take_of_length_le (by omega), Nat.add_sub_cancel_left]
theorem isC_take {w : World} {ao : Option Addr} {cap : Nat} {l : List Tr} (h : IsC w (.slice ao l.length cap) l) (m : Nat) (hm : m ≤ l.length) : IsC w (.slice ao (l.take m).length cap) (l.take m) := by
  have h1 := sl_take h.sl m hm
  rw [flatm_takeC] at h1
  have h2 : (l.take m).length = m := by rw [List.length_take]; omega
  rw [h2]
  exact ⟨by rw [h2]; exact h1⟩
set_option maxHeartbeats 4000000 in
set_option maxRecDepth 100000 in
theorem walkMergeSame (w : World) (v1 : Value) (l1 : List Tr) (h1 : IsC w v1 l1) (v2 : Value) (l2 : List Tr) (h2 : IsC w v2 l2) :
    Calls Tryd.prog 5 #[v1, v2] w fun e w' => e = .returned (.bool true) ∧ Below w.heap.size w w' := by
  obtain ⟨ao1, cap1, rfl, hc1, hm1, _, _⟩ := h1.opened
  obtain ⟨ao2, cap2, rfl, hc2, hm2, _, _⟩ := h2.opened
  obtain ⟨a, ha⟩ : ∃ a, l1.take (min l1.length 40) = a := ⟨_, rfl⟩
  obtain ⟨b, hb⟩ : ∃ a, l2.take (min l2.length 40) = a := ⟨_, rfl⟩
  have i1 := isC_take h1 (min l1.length 40) (Nat.min_le_left _ _)
  have i2 := isC_take h2 (min l2.length 40) (Nat.min_le_left _ _)
  rw [ha] at i1
  rw [hb] at i2
  have la : a.length = min l1.length 40 := by rw [← ha, List.length_take]; omega
  have lb : b.length = min l2.length 40 := by rw [← hb, List.length_take]; omega
  have ea : min (l1.length : Int) 40 = (a.length : Int) := by omega
  have eb : min (l2.length : Int) 40 = (b.length : Int) := by omega
  have la1 : a.length ≤ cap1 := by omega
  have lb1 : b.length ≤ cap2 := by omega
  have la0 : (0 : Int) ≤ (a.length : Int) := by omega
  have lb0 : (0 : Int) ≤ (b.length : Int) := by omega
  have la2 : (a.length : Int) ≤ (cap1 : Int) := by omega
  have lb2 : (b.length : Int) ≤ (cap2 : Int) := by omega
  have ha40 : a.length ≤ 40 := by omega
  have LA := Lib.hid la
  have LB := Lib.hid lb
  clear la lb ha hb
  go_enter Tryd.func5, Tryd.ntmps5
  go_wp2_with fail
  refine Calls.mono (mWakes _) ?_
  rintro e w1 ⟨rfl, x1⟩
  go_wp2_with fail
  go_region
  have x2 : Ext w w1.drew := x1.drew
  have i1 := i1.ext x2
  have i2 := i2.ext x2
  clear h1 h2 x1
  generalize w1.drew = w2 at *
  generalize hd : decide (a = b) = d
  have E1 := mergeSame w2 _ _ a b i1 i2
  rw [hd] at E1
  go_wp2_with fail
  refine Calls.mono E1 ?_
  rintro e w3 ⟨rfl, x3⟩
  have x3 := toExt x3
  have E2 := refSame08 w3 _ _ a b (i1.ext x3) (i2.ext x3)
  rw [hd] at E2
  clear hd E1
  go_wp2_with fail
  refine Calls.mono E2 ?_
  rintro e w4 ⟨rfl, x4⟩
  have x4 := toExt x4
  have HA := (i1.ext x3).ext x4
  clear E2
  have X4 := (x2.trans x3).trans x4
  have o0 := World.ownsRow_lit (base := w4.heap.size) (e := 40) (size := 7) w4 #[] 0 (Nat.le_refl _) (by decide) rfl
  clear i1 i2
  go_wp2_with (at_builtin; go_must (refine wp_app tyCl rfl _ _ rfl _ _ 0 [] o0 (by rfl) _ a.length (a.flatMap clT) (HA.sl.ext ((Ext.refl _).alloc _)) (by rfl) (clT_ones a) (by omega) (by omega) (by simp) ?_); intro v5 w5 hown5 hgrow5)
  have x5 : Ext w4 w5 := ((Ext.refl _).alloc (.cells #[] 40)).grown hgrow5 (fun k hk => (o0.lt k hk).1)
  have hIs : IsC w5 v5 a := ⟨by simpa using IsSl.of_owns hown5⟩
  have hA6 := HA.ext x5
  have hIs' := hIs
  obtain ⟨ao4, c4, rfl, _, _, _, _⟩ := hIs.opened
  go_wp2_with fail
  refine Calls.mono (mergeSame _ _ _ a a hA6 hIs') ?_
  rintro e w7 ⟨rfl, x7⟩
  have x7 := toExt x7
  go_wp2
  go_ret
  exact ⟨ret_bool2 (by simp), (X4.trans x5).trans x7⟩
end Go.Proofs.YtpcpcjejdngllaaDoor
