/- The walks of Put16, Put32, Put64, Zero, the reader that is not there, and 'wakes'. -/
import Derived.Test.YtcdlmappcbbacaaOctD
namespace Go.Proofs.Ytcdlmappcbbacaa
open Go.RowKit

set_option maxHeartbeats 1000000 in
theorem octetPut32 (w : World) (v : Value) (l : List UInt8) (x : Nat) (h : IsB w v l) (hx : x < 4294967296) (hb : l.length + 4 ≤ 140737488355328) :
    Calls Try.prog 36 #[v, .int .u32 x] w fun e w' => ∃ v', e = .returned v' ∧ w'.ownsRow w.heap.size 5 1 v' (l.length + 4) ((l ++ be x 4).map bc) ∧ Ext w w' := by
  go_enter Try.func36, Try.ntmps36
  go_wp2_with fail
  refine (octetPut _ v l x 4 h (by omega) hb).mono ?_
  rintro e w1 ⟨v1, rfl, hown, hext⟩
  go_wp2
  go_ret
  exact ⟨_, rfl, hown, hext⟩

set_option maxHeartbeats 1000000 in
theorem octetPut16 (w : World) (v : Value) (l : List UInt8) (x : Nat) (h : IsB w v l) (hx : x < 65536) (hb : l.length + 2 ≤ 140737488355328) :
    Calls Try.prog 34 #[v, .int .u16 x] w fun e w' => ∃ v', e = .returned v' ∧ w'.ownsRow w.heap.size 5 1 v' (l.length + 2) ((l ++ be x 2).map bc) ∧ Ext w w' := by
  go_enter Try.func34, Try.ntmps34
  go_wp2_with fail
  refine (octetPut _ v l x 2 h (by omega) hb).mono ?_
  rintro e w1 ⟨v1, rfl, hown, hext⟩
  go_wp2
  go_ret
  exact ⟨_, rfl, hown, hext⟩

theorem or_zero (l : List UInt8) : ∀ (x : UInt8), (l.foldl (fun x c => x ||| c) x == 0) = (x == 0 && l.all (· == 0)) := by
  induction l with
  | nil => intro x; simp
  | cons c l ih =>
    intro x
    simp only [List.foldl_cons, List.all_cons]
    rw [ih, ← Bool.and_assoc]
    congr 1
    rw [Bool.eq_iff_iff]
    simp

set_option maxHeartbeats 1000000 in
theorem rawNil (w : World) (n : Int) : Calls Try.prog 21 #[.pointer none, .int .i64 n] w fun e w' => e = .returned (.slice none 0 0) ∧ w = w' := by
  go_enter Try.func21, Try.ntmps21
  go_wp2
  go_ret
  exact ⟨rfl, rfl⟩
set_option maxHeartbeats 1000000 in
theorem numberNil (w : World) (n : Int) : Calls Try.prog 39 #[.pointer none, .int .i64 n] w fun e w' => e = .returned (.int .u64 0) ∧ w = w' := by
  go_enter Try.func39, Try.ntmps39
  go_wp2_with fail
  refine (rawNil _ n).mono ?_
  rintro e w1 ⟨rfl, rfl⟩
  go_wp2_with fail
  go_rounds 1
  go_ret
  exact ⟨rfl, rfl⟩
set_option maxHeartbeats 1000000 in
theorem u8Nil (w : World) : Calls Try.prog 20 #[.pointer none] w fun e w' => e = .returned (.int .u8 0) ∧ w = w' := by
  go_enter Try.func20, Try.ntmps20
  go_wp2_with fail
  refine (numberNil _ 1).mono ?_
  rintro e w1 ⟨rfl, rfl⟩
  go_wp2
  go_ret
  exact ⟨rfl, rfl⟩
set_option maxHeartbeats 1000000 in
theorem u16Nil (w : World) : Calls Try.prog 22 #[.pointer none] w fun e w' => e = .returned (.int .u16 0) ∧ w = w' := by
  go_enter Try.func22, Try.ntmps22
  go_wp2_with fail
  refine (numberNil _ 2).mono ?_
  rintro e w1 ⟨rfl, rfl⟩
  go_wp2
  go_ret
  exact ⟨rfl, rfl⟩
set_option maxHeartbeats 1000000 in
theorem u32Nil (w : World) : Calls Try.prog 25 #[.pointer none] w fun e w' => e = .returned (.int .u32 0) ∧ w = w' := by
  go_enter Try.func25, Try.ntmps25
  go_wp2_with fail
  refine (numberNil _ 4).mono ?_
  rintro e w1 ⟨rfl, rfl⟩
  go_wp2
  go_ret
  exact ⟨rfl, rfl⟩
set_option maxHeartbeats 1000000 in
theorem leftNil (w : World) : Calls Try.prog 27 #[.pointer none] w fun e w' => e = .returned (.int .i64 0) ∧ w = w' := by
  go_enter Try.func27, Try.ntmps27
  go_wp2
  go_ret
  exact ⟨rfl, rfl⟩
set_option maxHeartbeats 1000000 in
theorem errNil (w : World) : Calls Try.prog 26 #[.pointer none] w fun e w' => e = .returned (.int .i64 1) ∧ w = w' := by
  go_enter Try.func26, Try.ntmps26
  go_wp2
  go_ret
  exact ⟨rfl, rfl⟩

end Go.Proofs.Ytcdlmappcbbacaa
