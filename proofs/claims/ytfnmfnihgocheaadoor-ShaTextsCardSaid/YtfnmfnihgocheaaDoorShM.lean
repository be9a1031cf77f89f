/- The walk of the reference's Digit. -/
import Derived.Test.YtfnmfnihgocheaaDoorShL
namespace Go.Proofs.YtfnmfnihgocheaaDoor
open Go.RowKit
set_option linter.unusedVariables false
set_option linter.unusedSimpArgs false

/-- The number of a digit; -1: it is none. -/
def digZ (c : Nat) : Int := if 48 ≤ c ∧ c ≤ 57 then (c : Int) - 48 else if 97 ≤ c ∧ c ≤ 102 then (c : Int) - 97 + 10 else -1

set_option maxHeartbeats 1000000 in
theorem refDigit (w : World) (c : Nat) (hc : c < 256) :
    Calls Tryd.prog 41 #[.int .u8 (c : Int)] w fun e w' => e = .returned (.int .i64 (digZ c)) ∧ w' = w := by
  have hd : digZ c = if 48 ≤ c ∧ c ≤ 57 then (c : Int) - 48 else if 97 ≤ c ∧ c ≤ 102 then (c : Int) - 97 + 10 else -1 := rfl
  generalize digZ c = z at *
  rcases (show c < 48 ∨ (48 ≤ c ∧ c ≤ 57) ∨ (57 < c ∧ c < 97) ∨ (97 ≤ c ∧ c ≤ 102) ∨ 102 < c from by omega) with h | h | h | h | h
  · have hz : z = -1 := by rw [hd, if_neg (by omega), if_neg (by omega)]
    clear hd
    subst hz
    have g1 : ¬ (48 : Int) ≤ (c : Int) := by omega
    have g2 : ¬ (97 : Int) ≤ (c : Int) := by omega
    go_enter Tryd.func41, Tryd.ntmps41
    go_wp2
    go_ret
    exact ⟨rfl, rfl⟩
  · have hz : z = (c : Int) - 48 := by rw [hd, if_pos h]
    clear hd
    obtain ⟨h1, h2⟩ := h
    have g1 : (48 : Int) ≤ (c : Int) := by omega
    have g2 : (c : Int) ≤ 57 := by omega
    have g3 : ((c : Int) - 48) % 256 = (c : Int) - 48 := by omega
    subst hz
    go_enter Tryd.func41, Tryd.ntmps41
    go_wp2
    go_ret
    exact ⟨rfl, rfl⟩
  · have hz : z = -1 := by rw [hd, if_neg (by omega), if_neg (by omega)]
    clear hd
    subst hz
    have g1 : (48 : Int) ≤ (c : Int) := by omega
    have g2 : ¬ (c : Int) ≤ 57 := by omega
    have g3 : ¬ (97 : Int) ≤ (c : Int) := by omega
    go_enter Tryd.func41, Tryd.ntmps41
    go_wp2
    go_ret
    exact ⟨rfl, rfl⟩
  · have hz : z = (c : Int) - 97 + 10 := by rw [hd, if_neg (by omega), if_pos h]
    clear hd
    obtain ⟨h1, h2⟩ := h
    have g1 : (48 : Int) ≤ (c : Int) := by omega
    have g2 : ¬ (c : Int) ≤ 57 := by omega
    have g3 : (97 : Int) ≤ (c : Int) := by omega
    have g4 : (c : Int) ≤ 102 := by omega
    have g5 : ((c : Int) - 97) % 256 = (c : Int) - 97 := by omega
    subst hz
    go_enter Tryd.func41, Tryd.ntmps41
    go_wp2
    go_ret
    exact ⟨rfl, rfl⟩
  · have hz : z = -1 := by rw [hd, if_neg (by omega), if_neg (by omega)]
    clear hd
    subst hz
    have g1 : (48 : Int) ≤ (c : Int) := by omega
    have g2 : ¬ (c : Int) ≤ 57 := by omega
    have g3 : (97 : Int) ≤ (c : Int) := by omega
    have g4 : ¬ (c : Int) ≤ 102 := by omega
    go_enter Tryd.func41, Tryd.ntmps41
    go_wp2
    go_ret
    exact ⟨rfl, rfl⟩
end Go.Proofs.YtfnmfnihgocheaaDoor
