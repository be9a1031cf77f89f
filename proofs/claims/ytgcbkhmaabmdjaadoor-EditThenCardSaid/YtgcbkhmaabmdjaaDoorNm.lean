/- The walks of object.Name and of the reference's Name. -/
import Derived.Test.YtgcbkhmaabmdjaaDoorKit
import Derived.Test.YtgcbkhmaabmdjaaDoorProg
import Derived.WalkKit
import Derived.ProofKit
import Derived.Test.YtgcbkhmaabmdjaaDoorReg
import Derived.Laws.RangeAny
import Derived.Deep.QuietTactic
namespace Go.Proofs.YtgcbkhmaabmdjaaDoor
open Go.RowKit
set_option linter.unusedVariables false
set_option linter.unusedSimpArgs false

/-- May a byte (a rune) stand in a name? -/
def okc (c : Nat) : Bool := (97 ≤ c && c ≤ 122) || (65 ≤ c && c ≤ 90) || (48 ≤ c && c ≤ 57) || c == 46 || c == 95 || c == 45
theorem okc_high {c : Nat} (h : 122 < c) : okc c = false := by
  unfold okc
  have h1 : decide (c ≤ 122) = false := by simp; omega
  have h2 : decide (c ≤ 90) = false := by simp; omega
  have h3 : decide (c ≤ 57) = false := by simp; omega
  have h4 : (c == 46) = false := by simp; omega
  have h5 : (c == 95) = false := by simp; omega
  have h6 : (c == 45) = false := by simp; omega
  rw [h1, h2, h3, h4, h5, h6]
  simp
/-- Are the first n bytes such? -/
def okTo (s : ByteArray) (n : Nat) : Prop := ∀ j (h : j < s.size), j < n → okc (s[j].toNat) = true
def endOk (s : ByteArray) : Bool := decide ((1 : Int) ≤ (s.size : Int)) && decide ((s.size : Int) ≤ 24) && !(s.toList == [46]) && !(s.toList == [46, 46])
/-- May a text be an entry's name? -/
def nameB (s : ByteArray) : Bool := s.data.toList.all (fun c => okc c.toNat) && endOk s
theorem name_end {s : ByteArray} (h : okTo s s.size) : nameB s = endOk s := by
  unfold nameB
  have : s.data.toList.all (fun c => okc c.toNat) = true := by
    rw [List.all_eq_true]
    intro c hc
    obtain ⟨j, hj, rfl⟩ := List.getElem_of_mem hc
    have hj' : j < s.size := by simpa using hj
    exact h j hj' hj'
  rw [this, Bool.true_and]
theorem name_bad {s : ByteArray} (j : Nat) (h : j < s.size) (hb : okc (s[j].toNat) = false) : nameB s = false := by
  unfold nameB
  have : s.data.toList.all (fun c => okc c.toNat) = false := by
    rw [List.all_eq_false]
    exact ⟨s[j], by exact List.getElem_mem (by simpa using h), by simpa using hb⟩
  rw [this, Bool.false_and]
theorem okTo_succ {s : ByteArray} {k : Nat} (h : okTo s k) (hk : k < s.size) (hc : okc (s[k].toNat) = true) : okTo s (k + 1) := by
  intro j hj hjk
  by_cases e : j = k
  · subst e; exact hc
  · exact h j hj (by omega)

set_option maxHeartbeats 4000000 in
set_option maxRecDepth 100000 in
theorem objName (w : World) (s : ByteArray) (hs : s.size ≤ 9223372036854775807) :
    Calls Tryd.prog 62 #[.string s] w fun e w' => e = .returned (.bool (nameB s)) ∧ Ext w w' := by
  generalize hR : nameB s = R
  go_enter Tryd.func62, Tryd.ntmps62
  go_wp2_with fail
  go_loopg [] s.size (fun g wr => ∃ k : Nat, k ≤ s.size ∧ s.size - k ≤ g ∧ okTo s k ∧ wr = w.iter s k)
  case atStart => exact ⟨0, Nat.zero_le _, by omega, fun j _ h => absurd h (by omega), rfl⟩
  case round =>
    obtain ⟨k, hk, hg, hto, rfl⟩ := hrel
    by_cases hlt : k < s.size
    · by_cases ha : s[k].toNat < 128
      · have hsucc := fun h => okTo_succ hto hlt h
        have hbad := fun h => hR.symm.trans (name_bad k hlt h)
        have hnx := fun ty => run_next_ascii (P := Tryd.prog) w s k ty hlt ha
        generalize s[k].toNat = c at *
        have HS := Lib.hid hsucc
        have HB := Lib.hid hbad
        have HTO := Lib.hid hto
        have HR := Lib.hid hR
        clear hsucc hbad hto hR
        rcases (show (c ≤ 44) ∨ (45 ≤ c ∧ c ≤ 45) ∨ (46 ≤ c ∧ c ≤ 46) ∨ (47 ≤ c ∧ c ≤ 47) ∨ (48 ≤ c ∧ c ≤ 57) ∨ (58 ≤ c ∧ c ≤ 64) ∨ (65 ≤ c ∧ c ≤ 90) ∨ (91 ≤ c ∧ c ≤ 94) ∨ (95 ≤ c ∧ c ≤ 95) ∨ (96 ≤ c ∧ c ≤ 96) ∨ (97 ≤ c ∧ c ≤ 122) ∨ (123 ≤ c) from by omega) with hc | hc | hc | hc | hc | hc | hc | hc | hc | hc | hc | hc
        · have g97 : ¬ (97 : Int) ≤ (c : Int) := by omega
          have g122 : (c : Int) ≤ 122 := by omega
          have g65 : ¬ (65 : Int) ≤ (c : Int) := by omega
          have g90 : (c : Int) ≤ 90 := by omega
          have g48 : ¬ (48 : Int) ≤ (c : Int) := by omega
          have g57 : (c : Int) ≤ 57 := by omega
          have e46 : ((c : Int) == 46) = false := by rw [beq_eq_false_iff_ne]; omega
          have e95 : ((c : Int) == 95) = false := by rw [beq_eq_false_iff_ne]; omega
          have e45 : ((c : Int) == 45) = false := by rw [beq_eq_false_iff_ne]; omega
          have hno : okc c = false := by simp [okc]; try omega
          go_wp2_with fail
          go_ret
          exact ⟨ret_bool (HB.out hno).symm, (Ext.refl w).alloc _⟩
        · obtain rfl : c = 45 := by omega
          have hok : okc 45 = true := by simp [okc]; try omega
          go_wp2_with fail
          go_roundg (s.size - (k + 1))
          case measure => omega
          case rel => exact ⟨k + 1, by omega, by omega, HS.out hok, rfl⟩
        · obtain rfl : c = 46 := by omega
          have hok : okc 46 = true := by simp [okc]; try omega
          go_wp2_with fail
          go_roundg (s.size - (k + 1))
          case measure => omega
          case rel => exact ⟨k + 1, by omega, by omega, HS.out hok, rfl⟩
        · obtain rfl : c = 47 := by omega
          have hno : okc 47 = false := by simp [okc]; try omega
          go_wp2_with fail
          go_ret
          exact ⟨ret_bool (HB.out hno).symm, (Ext.refl w).alloc _⟩
        · have g97 : ¬ (97 : Int) ≤ (c : Int) := by omega
          have g122 : (c : Int) ≤ 122 := by omega
          have g65 : ¬ (65 : Int) ≤ (c : Int) := by omega
          have g90 : (c : Int) ≤ 90 := by omega
          have g48 : (48 : Int) ≤ (c : Int) := by omega
          have g57 : (c : Int) ≤ 57 := by omega
          have e46 : ((c : Int) == 46) = false := by rw [beq_eq_false_iff_ne]; omega
          have e95 : ((c : Int) == 95) = false := by rw [beq_eq_false_iff_ne]; omega
          have e45 : ((c : Int) == 45) = false := by rw [beq_eq_false_iff_ne]; omega
          have hok : okc c = true := by simp [okc]; try omega
          go_wp2_with fail
          go_roundg (s.size - (k + 1))
          case measure => omega
          case rel => exact ⟨k + 1, by omega, by omega, HS.out hok, rfl⟩
        · have g97 : ¬ (97 : Int) ≤ (c : Int) := by omega
          have g122 : (c : Int) ≤ 122 := by omega
          have g65 : ¬ (65 : Int) ≤ (c : Int) := by omega
          have g90 : (c : Int) ≤ 90 := by omega
          have g48 : (48 : Int) ≤ (c : Int) := by omega
          have g57 : ¬ (c : Int) ≤ 57 := by omega
          have e46 : ((c : Int) == 46) = false := by rw [beq_eq_false_iff_ne]; omega
          have e95 : ((c : Int) == 95) = false := by rw [beq_eq_false_iff_ne]; omega
          have e45 : ((c : Int) == 45) = false := by rw [beq_eq_false_iff_ne]; omega
          have hno : okc c = false := by simp [okc]; try omega
          go_wp2_with fail
          go_ret
          exact ⟨ret_bool (HB.out hno).symm, (Ext.refl w).alloc _⟩
        · have g97 : ¬ (97 : Int) ≤ (c : Int) := by omega
          have g122 : (c : Int) ≤ 122 := by omega
          have g65 : (65 : Int) ≤ (c : Int) := by omega
          have g90 : (c : Int) ≤ 90 := by omega
          have g48 : (48 : Int) ≤ (c : Int) := by omega
          have g57 : ¬ (c : Int) ≤ 57 := by omega
          have e46 : ((c : Int) == 46) = false := by rw [beq_eq_false_iff_ne]; omega
          have e95 : ((c : Int) == 95) = false := by rw [beq_eq_false_iff_ne]; omega
          have e45 : ((c : Int) == 45) = false := by rw [beq_eq_false_iff_ne]; omega
          have hok : okc c = true := by simp [okc]; try omega
          go_wp2_with fail
          go_roundg (s.size - (k + 1))
          case measure => omega
          case rel => exact ⟨k + 1, by omega, by omega, HS.out hok, rfl⟩
        · have g97 : ¬ (97 : Int) ≤ (c : Int) := by omega
          have g122 : (c : Int) ≤ 122 := by omega
          have g65 : (65 : Int) ≤ (c : Int) := by omega
          have g90 : ¬ (c : Int) ≤ 90 := by omega
          have g48 : (48 : Int) ≤ (c : Int) := by omega
          have g57 : ¬ (c : Int) ≤ 57 := by omega
          have e46 : ((c : Int) == 46) = false := by rw [beq_eq_false_iff_ne]; omega
          have e95 : ((c : Int) == 95) = false := by rw [beq_eq_false_iff_ne]; omega
          have e45 : ((c : Int) == 45) = false := by rw [beq_eq_false_iff_ne]; omega
          have hno : okc c = false := by simp [okc]; try omega
          go_wp2_with fail
          go_ret
          exact ⟨ret_bool (HB.out hno).symm, (Ext.refl w).alloc _⟩
        · obtain rfl : c = 95 := by omega
          have hok : okc 95 = true := by simp [okc]; try omega
          go_wp2_with fail
          go_roundg (s.size - (k + 1))
          case measure => omega
          case rel => exact ⟨k + 1, by omega, by omega, HS.out hok, rfl⟩
        · obtain rfl : c = 96 := by omega
          have hno : okc 96 = false := by simp [okc]; try omega
          go_wp2_with fail
          go_ret
          exact ⟨ret_bool (HB.out hno).symm, (Ext.refl w).alloc _⟩
        · have g97 : (97 : Int) ≤ (c : Int) := by omega
          have g122 : (c : Int) ≤ 122 := by omega
          have g65 : (65 : Int) ≤ (c : Int) := by omega
          have g90 : ¬ (c : Int) ≤ 90 := by omega
          have g48 : (48 : Int) ≤ (c : Int) := by omega
          have g57 : ¬ (c : Int) ≤ 57 := by omega
          have e46 : ((c : Int) == 46) = false := by rw [beq_eq_false_iff_ne]; omega
          have e95 : ((c : Int) == 95) = false := by rw [beq_eq_false_iff_ne]; omega
          have e45 : ((c : Int) == 45) = false := by rw [beq_eq_false_iff_ne]; omega
          have hok : okc c = true := by simp [okc]; try omega
          go_wp2_with fail
          go_roundg (s.size - (k + 1))
          case measure => omega
          case rel => exact ⟨k + 1, by omega, by omega, HS.out hok, rfl⟩
        · have g97 : (97 : Int) ≤ (c : Int) := by omega
          have g122 : ¬ (c : Int) ≤ 122 := by omega
          have g65 : (65 : Int) ≤ (c : Int) := by omega
          have g90 : ¬ (c : Int) ≤ 90 := by omega
          have g48 : (48 : Int) ≤ (c : Int) := by omega
          have g57 : ¬ (c : Int) ≤ 57 := by omega
          have e46 : ((c : Int) == 46) = false := by rw [beq_eq_false_iff_ne]; omega
          have e95 : ((c : Int) == 95) = false := by rw [beq_eq_false_iff_ne]; omega
          have e45 : ((c : Int) == 45) = false := by rw [beq_eq_false_iff_ne]; omega
          have hno : okc c = false := by simp [okc]; try omega
          go_wp2_with fail
          go_ret
          exact ⟨ret_bool (HB.out hno).symm, (Ext.refl w).alloc _⟩
      · have hbad : R = false := hR.symm.trans (name_bad k hlt (okc_high (by omega)))
        have hnx := fun ty => run_next_any (P := Tryd.prog) w s k ty hlt
        have hd := (decode_high s k hlt (by omega)).1
        generalize (Utf8.decode s k).2 = n at *
        generalize (Utf8.decode s k).1 = c at *
        clear hR
        subst hbad
        clear hto
        have g97 : (97 : Int) ≤ (c : Int) := by omega
        have g122 : ¬ (c : Int) ≤ 122 := by omega
        have g65 : (65 : Int) ≤ (c : Int) := by omega
        have g90 : ¬ (c : Int) ≤ 90 := by omega
        have g48 : (48 : Int) ≤ (c : Int) := by omega
        have g57 : ¬ (c : Int) ≤ 57 := by omega
        have e46 : ((c : Int) == 46) = false := by rw [beq_eq_false_iff_ne]; omega
        have e95 : ((c : Int) == 95) = false := by rw [beq_eq_false_iff_ne]; omega
        have e45 : ((c : Int) == 45) = false := by rw [beq_eq_false_iff_ne]; omega
        go_wp2_with fail
        go_ret
        exact ⟨rfl, (Ext.refl w).alloc _⟩
    · have : k = s.size := by omega
      subst this
      have hnx := fun ty => run_next_end (P := Tryd.prog) w s s.size ty hlt
      rw [name_end hto] at hR
      have HR := Lib.hid hR
      clear hR hto
      go_wp2_with fail
      all_goals
        go_ret
        refine ⟨ret_bool ?_, (Ext.refl w).alloc _⟩
        rw [← HR.out]
        simp [endOk, *]
        try omega

theorem run_index_str (w : World) (s : ByteArray) (k : Nat) (hk : k < s.size) :
    (Instr.index 9 (.string s) (.int .i64 (k : Int))).run Tryd.prog w = .ok (.int .u8 (s[k].toNat : Int)) w := by
  simp [Instr.index, run_underlying Tryd.underlying9, asIntOf, go_sem, hk]

set_option maxHeartbeats 4000000 in
set_option maxRecDepth 100000 in
theorem refName (w : World) (s : ByteArray) (hs : s.size ≤ 9223372036854775807) :
    Calls Tryd.prog 56 #[.string s] w fun e w' => e = .returned (.bool (nameB s)) ∧ w' = w := by
  generalize hR : nameB s = R
  go_enter Tryd.func56, Tryd.ntmps56
  go_wp2_with fail
  go_loopg [3] s.size (fun g s3 wr => ∃ k : Nat, k ≤ s.size ∧ s.size - k ≤ g ∧ s3 = .int .i64 k ∧ okTo s k ∧ wr = w)
  case atStart => exact ⟨0, Nat.zero_le _, by omega, rfl, fun j _ h => absurd h (by omega), rfl⟩
  case round =>
    obtain ⟨k, hk, hg, rfl, hto, rfl⟩ := hrel
    by_cases hlt : k < s.size
    · have hsucc := fun h => okTo_succ hto hlt h
      have hbad := fun h => hR.symm.trans (name_bad k hlt h)
      have hnx := fun w => run_index_str w s k hlt
      have hc256 : s[k].toNat < 256 := UInt8.toNat_lt _
      generalize s[k].toNat = c at *
      have HS := Lib.hid hsucc
      have HB := Lib.hid hbad
      have HTO := Lib.hid hto
      have HR := Lib.hid hR
      clear hsucc hbad hto hR
      rcases (show (c ≤ 44) ∨ (45 ≤ c ∧ c ≤ 45) ∨ (46 ≤ c ∧ c ≤ 46) ∨ (47 ≤ c ∧ c ≤ 47) ∨ (48 ≤ c ∧ c ≤ 57) ∨ (58 ≤ c ∧ c ≤ 64) ∨ (65 ≤ c ∧ c ≤ 90) ∨ (91 ≤ c ∧ c ≤ 94) ∨ (95 ≤ c ∧ c ≤ 95) ∨ (96 ≤ c ∧ c ≤ 96) ∨ (97 ≤ c ∧ c ≤ 122) ∨ (123 ≤ c) from by omega) with hc | hc | hc | hc | hc | hc | hc | hc | hc | hc | hc | hc
      · have g97 : ¬ (97 : Int) ≤ (c : Int) := by omega
        have g122 : (c : Int) ≤ 122 := by omega
        have g65 : ¬ (65 : Int) ≤ (c : Int) := by omega
        have g90 : (c : Int) ≤ 90 := by omega
        have g48 : ¬ (48 : Int) ≤ (c : Int) := by omega
        have g57 : (c : Int) ≤ 57 := by omega
        have e46 : ((c : Int) == 46) = false := by rw [beq_eq_false_iff_ne]; omega
        have e95 : ((c : Int) == 95) = false := by rw [beq_eq_false_iff_ne]; omega
        have e45 : ((c : Int) == 45) = false := by rw [beq_eq_false_iff_ne]; omega
        have hno : okc c = false := by simp [okc]; try omega
        go_wp2_with fail
        go_ret
        exact ⟨ret_bool (HB.out hno).symm, rfl⟩
      · obtain rfl : c = 45 := by omega
        have hok : okc 45 = true := by simp [okc]; try omega
        go_wp2_with fail
        go_roundg (s.size - (k + 1))
        case measure => omega
        case rel => exact ⟨k + 1, by omega, by omega, by go_num, HS.out hok, rfl⟩
      · obtain rfl : c = 46 := by omega
        have hok : okc 46 = true := by simp [okc]; try omega
        go_wp2_with fail
        go_roundg (s.size - (k + 1))
        case measure => omega
        case rel => exact ⟨k + 1, by omega, by omega, by go_num, HS.out hok, rfl⟩
      · obtain rfl : c = 47 := by omega
        have hno : okc 47 = false := by simp [okc]; try omega
        go_wp2_with fail
        go_ret
        exact ⟨ret_bool (HB.out hno).symm, rfl⟩
      · have g97 : ¬ (97 : Int) ≤ (c : Int) := by omega
        have g122 : (c : Int) ≤ 122 := by omega
        have g65 : ¬ (65 : Int) ≤ (c : Int) := by omega
        have g90 : (c : Int) ≤ 90 := by omega
        have g48 : (48 : Int) ≤ (c : Int) := by omega
        have g57 : (c : Int) ≤ 57 := by omega
        have e46 : ((c : Int) == 46) = false := by rw [beq_eq_false_iff_ne]; omega
        have e95 : ((c : Int) == 95) = false := by rw [beq_eq_false_iff_ne]; omega
        have e45 : ((c : Int) == 45) = false := by rw [beq_eq_false_iff_ne]; omega
        have hok : okc c = true := by simp [okc]; try omega
        go_wp2_with fail
        go_roundg (s.size - (k + 1))
        case measure => omega
        case rel => exact ⟨k + 1, by omega, by omega, by go_num, HS.out hok, rfl⟩
      · have g97 : ¬ (97 : Int) ≤ (c : Int) := by omega
        have g122 : (c : Int) ≤ 122 := by omega
        have g65 : ¬ (65 : Int) ≤ (c : Int) := by omega
        have g90 : (c : Int) ≤ 90 := by omega
        have g48 : (48 : Int) ≤ (c : Int) := by omega
        have g57 : ¬ (c : Int) ≤ 57 := by omega
        have e46 : ((c : Int) == 46) = false := by rw [beq_eq_false_iff_ne]; omega
        have e95 : ((c : Int) == 95) = false := by rw [beq_eq_false_iff_ne]; omega
        have e45 : ((c : Int) == 45) = false := by rw [beq_eq_false_iff_ne]; omega
        have hno : okc c = false := by simp [okc]; try omega
        go_wp2_with fail
        go_ret
        exact ⟨ret_bool (HB.out hno).symm, rfl⟩
      · have g97 : ¬ (97 : Int) ≤ (c : Int) := by omega
        have g122 : (c : Int) ≤ 122 := by omega
        have g65 : (65 : Int) ≤ (c : Int) := by omega
        have g90 : (c : Int) ≤ 90 := by omega
        have g48 : (48 : Int) ≤ (c : Int) := by omega
        have g57 : ¬ (c : Int) ≤ 57 := by omega
        have e46 : ((c : Int) == 46) = false := by rw [beq_eq_false_iff_ne]; omega
        have e95 : ((c : Int) == 95) = false := by rw [beq_eq_false_iff_ne]; omega
        have e45 : ((c : Int) == 45) = false := by rw [beq_eq_false_iff_ne]; omega
        have hok : okc c = true := by simp [okc]; try omega
        go_wp2_with fail
        go_roundg (s.size - (k + 1))
        case measure => omega
        case rel => exact ⟨k + 1, by omega, by omega, by go_num, HS.out hok, rfl⟩
      · have g97 : ¬ (97 : Int) ≤ (c : Int) := by omega
        have g122 : (c : Int) ≤ 122 := by omega
        have g65 : (65 : Int) ≤ (c : Int) := by omega
        have g90 : ¬ (c : Int) ≤ 90 := by omega
        have g48 : (48 : Int) ≤ (c : Int) := by omega
        have g57 : ¬ (c : Int) ≤ 57 := by omega
        have e46 : ((c : Int) == 46) = false := by rw [beq_eq_false_iff_ne]; omega
        have e95 : ((c : Int) == 95) = false := by rw [beq_eq_false_iff_ne]; omega
        have e45 : ((c : Int) == 45) = false := by rw [beq_eq_false_iff_ne]; omega
        have hno : okc c = false := by simp [okc]; try omega
        go_wp2_with fail
        go_ret
        exact ⟨ret_bool (HB.out hno).symm, rfl⟩
      · obtain rfl : c = 95 := by omega
        have hok : okc 95 = true := by simp [okc]; try omega
        go_wp2_with fail
        go_roundg (s.size - (k + 1))
        case measure => omega
        case rel => exact ⟨k + 1, by omega, by omega, by go_num, HS.out hok, rfl⟩
      · obtain rfl : c = 96 := by omega
        have hno : okc 96 = false := by simp [okc]; try omega
        go_wp2_with fail
        go_ret
        exact ⟨ret_bool (HB.out hno).symm, rfl⟩
      · have g97 : (97 : Int) ≤ (c : Int) := by omega
        have g122 : (c : Int) ≤ 122 := by omega
        have g65 : (65 : Int) ≤ (c : Int) := by omega
        have g90 : ¬ (c : Int) ≤ 90 := by omega
        have g48 : (48 : Int) ≤ (c : Int) := by omega
        have g57 : ¬ (c : Int) ≤ 57 := by omega
        have e46 : ((c : Int) == 46) = false := by rw [beq_eq_false_iff_ne]; omega
        have e95 : ((c : Int) == 95) = false := by rw [beq_eq_false_iff_ne]; omega
        have e45 : ((c : Int) == 45) = false := by rw [beq_eq_false_iff_ne]; omega
        have hok : okc c = true := by simp [okc]; try omega
        go_wp2_with fail
        go_roundg (s.size - (k + 1))
        case measure => omega
        case rel => exact ⟨k + 1, by omega, by omega, by go_num, HS.out hok, rfl⟩
      · have g97 : (97 : Int) ≤ (c : Int) := by omega
        have g122 : ¬ (c : Int) ≤ 122 := by omega
        have g65 : (65 : Int) ≤ (c : Int) := by omega
        have g90 : ¬ (c : Int) ≤ 90 := by omega
        have g48 : (48 : Int) ≤ (c : Int) := by omega
        have g57 : ¬ (c : Int) ≤ 57 := by omega
        have e46 : ((c : Int) == 46) = false := by rw [beq_eq_false_iff_ne]; omega
        have e95 : ((c : Int) == 95) = false := by rw [beq_eq_false_iff_ne]; omega
        have e45 : ((c : Int) == 45) = false := by rw [beq_eq_false_iff_ne]; omega
        have hno : okc c = false := by simp [okc]; try omega
        go_wp2_with fail
        go_ret
        exact ⟨ret_bool (HB.out hno).symm, rfl⟩
    · have : k = s.size := by omega
      subst this
      rw [name_end hto] at hR
      have HR := Lib.hid hR
      clear hR hto
      go_wp2_with fail
      all_goals
        go_ret
        refine ⟨ret_bool ?_, rfl⟩
        rw [← HR.out]
        simp [endOk, *]
        try omega
end Go.Proofs.YtgcbkhmaabmdjaaDoor
