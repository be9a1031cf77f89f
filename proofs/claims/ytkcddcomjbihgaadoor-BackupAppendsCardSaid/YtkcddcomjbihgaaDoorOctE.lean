/- The walks of Put16, Put32, Put64, Zero, the reader that is not there, and 'wakes'. -/
import Derived.Test.YtkcddcomjbihgaaDoorOctD
namespace Go.Proofs.YtkcddcomjbihgaaDoor
open Go.RowKit

set_option maxHeartbeats 1000000 in
theorem octetPut64 (w : World) (v : Value) (l : List UInt8) (x : Nat) (h : IsB w v l) (hb : l.length + 8 ≤ 140737488355328) :
    Calls Tryd.prog 96 #[v, .int .u64 x] w fun e w' => ∃ v', e = .returned v' ∧ w'.ownsRow w.heap.size 5 1 v' (l.length + 8) ((l ++ be x 8).map bc) ∧ Ext w w' := by
  go_enter Tryd.func96, Tryd.ntmps96
  go_wp2_with fail
  refine (octetPut _ v l x 8 h (by omega) hb).mono ?_
  rintro e w1 ⟨v1, rfl, hown, hext⟩
  go_wp2
  go_ret
  exact ⟨_, rfl, hown, hext⟩

set_option maxHeartbeats 1000000 in
theorem octetPut32 (w : World) (v : Value) (l : List UInt8) (x : Nat) (h : IsB w v l) (hx : x < 4294967296) (hb : l.length + 4 ≤ 140737488355328) :
    Calls Tryd.prog 88 #[v, .int .u32 x] w fun e w' => ∃ v', e = .returned v' ∧ w'.ownsRow w.heap.size 5 1 v' (l.length + 4) ((l ++ be x 4).map bc) ∧ Ext w w' := by
  go_enter Tryd.func88, Tryd.ntmps88
  go_wp2_with fail
  refine (octetPut _ v l x 4 h (by omega) hb).mono ?_
  rintro e w1 ⟨v1, rfl, hown, hext⟩
  go_wp2
  go_ret
  exact ⟨_, rfl, hown, hext⟩

theorem or_zero (l : List UInt8) : ∀ (x : UInt8), (l.foldl (fun x c => x ||| c) x == 0) = (x == 0 && l.all (· == 0)) := by
  induction l with
  | nil => intro x; simp
  | cons c l ih =>
    intro x
    simp only [List.foldl_cons, List.all_cons]
    rw [ih, ← Bool.and_assoc]
    congr 1
    rw [Bool.eq_iff_iff]
    simp

set_option maxHeartbeats 1000000 in
theorem rawNil (w : World) (n : Int) : Calls Tryd.prog 95 #[.pointer none, .int .i64 n] w fun e w' => e = .returned (.slice none 0 0) ∧ w = w' := by
  go_enter Tryd.func95, Tryd.ntmps95
  go_wp2
  go_ret
  exact ⟨rfl, rfl⟩
set_option maxHeartbeats 1000000 in
theorem numberNil (w : World) (n : Int) : Calls Tryd.prog 84 #[.pointer none, .int .i64 n] w fun e w' => e = .returned (.int .u64 0) ∧ w = w' := by
  go_enter Tryd.func84, Tryd.ntmps84
  go_wp2_with fail
  refine (rawNil _ n).mono ?_
  rintro e w1 ⟨rfl, rfl⟩
  go_wp2_with fail
  go_rounds 1
  go_ret
  exact ⟨rfl, rfl⟩
set_option maxHeartbeats 1000000 in
theorem u8Nil (w : World) : Calls Tryd.prog 49 #[.pointer none] w fun e w' => e = .returned (.int .u8 0) ∧ w = w' := by
  go_enter Tryd.func49, Tryd.ntmps49
  go_wp2_with fail
  refine (numberNil _ 1).mono ?_
  rintro e w1 ⟨rfl, rfl⟩
  go_wp2
  go_ret
  exact ⟨rfl, rfl⟩
set_option maxHeartbeats 1000000 in
theorem u32Nil (w : World) : Calls Tryd.prog 50 #[.pointer none] w fun e w' => e = .returned (.int .u32 0) ∧ w = w' := by
  go_enter Tryd.func50, Tryd.ntmps50
  go_wp2_with fail
  refine (numberNil _ 4).mono ?_
  rintro e w1 ⟨rfl, rfl⟩
  go_wp2
  go_ret
  exact ⟨rfl, rfl⟩
end Go.Proofs.YtkcddcomjbihgaaDoor
