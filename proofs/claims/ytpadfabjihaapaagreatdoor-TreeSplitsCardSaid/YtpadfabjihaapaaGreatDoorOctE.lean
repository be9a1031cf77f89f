/- The walks of Put16, Put32, Put64, Zero, the reader that is not there, and 'wakes'. -/
import Derived.Test.YtpadfabjihaapaaGreatDoorOctD
namespace Go.Proofs.YtpadfabjihaapaaGreatDoor
open Go.RowKit

set_option maxHeartbeats 1000000 in
theorem octetPut64 (w : World) (v : Value) (l : List UInt8) (x : Nat) (h : IsB w v l) (hb : l.length + 8 ≤ 140737488355328) :
    Calls Tryz.prog 155 #[v, .int .u64 x] w fun e w' => ∃ v', e = .returned v' ∧ w'.ownsRow w.heap.size 5 1 v' (l.length + 8) ((l ++ be x 8).map bc) ∧ Ext w w' := by
  go_enter Tryz.func155, Tryz.ntmps155
  go_wp2_with fail
  refine (octetPut _ v l x 8 h (by omega) hb).mono ?_
  rintro e w1 ⟨v1, rfl, hown, hext⟩
  go_wp2
  go_ret
  exact ⟨_, rfl, hown, hext⟩

set_option maxHeartbeats 1000000 in
theorem octetPut32 (w : World) (v : Value) (l : List UInt8) (x : Nat) (h : IsB w v l) (hx : x < 4294967296) (hb : l.length + 4 ≤ 140737488355328) :
    Calls Tryz.prog 141 #[v, .int .u32 x] w fun e w' => ∃ v', e = .returned v' ∧ w'.ownsRow w.heap.size 5 1 v' (l.length + 4) ((l ++ be x 4).map bc) ∧ Ext w w' := by
  go_enter Tryz.func141, Tryz.ntmps141
  go_wp2_with fail
  refine (octetPut _ v l x 4 h (by omega) hb).mono ?_
  rintro e w1 ⟨v1, rfl, hown, hext⟩
  go_wp2
  go_ret
  exact ⟨_, rfl, hown, hext⟩

set_option maxHeartbeats 1000000 in
theorem octetPut16 (w : World) (v : Value) (l : List UInt8) (x : Nat) (h : IsB w v l) (hx : x < 65536) (hb : l.length + 2 ≤ 140737488355328) :
    Calls Tryz.prog 139 #[v, .int .u16 x] w fun e w' => ∃ v', e = .returned v' ∧ w'.ownsRow w.heap.size 5 1 v' (l.length + 2) ((l ++ be x 2).map bc) ∧ Ext w w' := by
  go_enter Tryz.func139, Tryz.ntmps139
  go_wp2_with fail
  refine (octetPut _ v l x 2 h (by omega) hb).mono ?_
  rintro e w1 ⟨v1, rfl, hown, hext⟩
  go_wp2
  go_ret
  exact ⟨_, rfl, hown, hext⟩

theorem or_zero (l : List UInt8) : ∀ (x : UInt8), (l.foldl (fun x c => x ||| c) x == 0) = (x == 0 && l.all (· == 0)) := by
  induction l with
  | nil => intro x; simp
  | cons c l ih =>
    intro x
    simp only [List.foldl_cons, List.all_cons]
    rw [ih, ← Bool.and_assoc]
    congr 1
    rw [Bool.eq_iff_iff]
    simp

set_option maxHeartbeats 1000000 in
theorem rawNil (w : World) (n : Int) : Calls Tryz.prog 162 #[.pointer none, .int .i64 n] w fun e w' => e = .returned (.slice none 0 0) ∧ w = w' := by
  go_enter Tryz.func162, Tryz.ntmps162
  go_wp2
  go_ret
  exact ⟨rfl, rfl⟩
set_option maxHeartbeats 1000000 in
theorem numberNil (w : World) (n : Int) : Calls Tryz.prog 160 #[.pointer none, .int .i64 n] w fun e w' => e = .returned (.int .u64 0) ∧ w = w' := by
  go_enter Tryz.func160, Tryz.ntmps160
  go_wp2_with fail
  refine (rawNil _ n).mono ?_
  rintro e w1 ⟨rfl, rfl⟩
  go_wp2_with fail
  go_rounds 1
  go_ret
  exact ⟨rfl, rfl⟩
set_option maxHeartbeats 1000000 in
theorem u32Nil (w : World) : Calls Tryz.prog 157 #[.pointer none] w fun e w' => e = .returned (.int .u32 0) ∧ w = w' := by
  go_enter Tryz.func157, Tryz.ntmps157
  go_wp2_with fail
  refine (numberNil _ 4).mono ?_
  rintro e w1 ⟨rfl, rfl⟩
  go_wp2
  go_ret
  exact ⟨rfl, rfl⟩
end Go.Proofs.YtpadfabjihaapaaGreatDoor
