/- The walks of Put16, Put32, Put64, Zero, the reader that is not there, and 'wakes'. -/
import Derived.Test.YtkaadagffkgkdaaOctD
namespace Go.Proofs.Ytkaadagffkgkdaa
open Go.RowKit

set_option maxHeartbeats 1000000 in
theorem octetPut64 (w : World) (v : Value) (l : List UInt8) (x : Nat) (h : IsB w v l) (hb : l.length + 8 ≤ 140737488355328) :
    Calls Try.prog 23 #[v, .int .u64 x] w fun e w' => ∃ v', e = .returned v' ∧ w'.ownsRow w.heap.size 5 1 v' (l.length + 8) ((l ++ be x 8).map bc) ∧ Ext w w' := by
  go_enter Try.func23, Try.ntmps23
  go_wp2_with fail
  refine (octetPut _ v l x 8 h (by omega) hb).mono ?_
  rintro e w1 ⟨v1, rfl, hown, hext⟩
  go_wp2
  go_ret
  exact ⟨_, rfl, hown, hext⟩

set_option maxHeartbeats 1000000 in
theorem octetPut32 (w : World) (v : Value) (l : List UInt8) (x : Nat) (h : IsB w v l) (hx : x < 4294967296) (hb : l.length + 4 ≤ 140737488355328) :
    Calls Try.prog 24 #[v, .int .u32 x] w fun e w' => ∃ v', e = .returned v' ∧ w'.ownsRow w.heap.size 5 1 v' (l.length + 4) ((l ++ be x 4).map bc) ∧ Ext w w' := by
  go_enter Try.func24, Try.ntmps24
  go_wp2_with fail
  refine (octetPut _ v l x 4 h (by omega) hb).mono ?_
  rintro e w1 ⟨v1, rfl, hown, hext⟩
  go_wp2
  go_ret
  exact ⟨_, rfl, hown, hext⟩

set_option maxHeartbeats 1000000 in
theorem octetPut16 (w : World) (v : Value) (l : List UInt8) (x : Nat) (h : IsB w v l) (hx : x < 65536) (hb : l.length + 2 ≤ 140737488355328) :
    Calls Try.prog 25 #[v, .int .u16 x] w fun e w' => ∃ v', e = .returned v' ∧ w'.ownsRow w.heap.size 5 1 v' (l.length + 2) ((l ++ be x 2).map bc) ∧ Ext w w' := by
  go_enter Try.func25, Try.ntmps25
  go_wp2_with fail
  refine (octetPut _ v l x 2 h (by omega) hb).mono ?_
  rintro e w1 ⟨v1, rfl, hown, hext⟩
  go_wp2
  go_ret
  exact ⟨_, rfl, hown, hext⟩

theorem or_zero (l : List UInt8) : ∀ (x : UInt8), (l.foldl (fun x c => x ||| c) x == 0) = (x == 0 && l.all (· == 0)) := by
  induction l with
  | nil => intro x; simp
  | cons c l ih =>
    intro x
    simp only [List.foldl_cons, List.all_cons]
    rw [ih, ← Bool.and_assoc]
    congr 1
    rw [Bool.eq_iff_iff]
    simp

set_option maxHeartbeats 1000000 in
theorem octetZero (w : World) (v : Value) (l : List UInt8) (h : IsB w v l) (hb : l.length ≤ 140737488355328) :
    Calls Try.prog 12 #[v] w fun e w' => e = .returned (.bool (l.all (· == 0))) ∧ w = w' := by
  obtain ⟨ao, cap, rfl, b1, m1, z1, g1⟩ := h.opened
  have G1 := Lib.hid g1
  clear g1 z1 h
  go_enter Try.func12, Try.ntmps12
  go_wp2
  go_loopg [3, 8] l.length (fun g s3 s8 wr => ∃ k : Nat, k ≤ l.length ∧ l.length - k ≤ g ∧ s8 = .int .i64 k ∧ s3 = .int .u8 (((l.take k).foldl (fun x c => x ||| c) 0).toNat : Int) ∧ wr = w)
  case atStart => exact ⟨0, Nat.zero_le _, by omega, rfl, rfl, rfl⟩
  case round =>
    obtain ⟨k, hk, hg, rfl, rfl, rfl⟩ := hrel
    by_cases hlt : k < l.length
    · obtain ⟨p, o, rfl, e1⟩ := G1.out k hlt
      have hn2 : (l.take (k + 1)).foldl (fun x c => x ||| c) 0 = (l.take k).foldl (fun x c => x ||| c) 0 ||| l[k] := by
        rw [List.take_succ_eq_append_getElem hlt, List.foldl_append]; rfl
      generalize (l.take k).foldl (fun x c => x ||| c) 0 = x at *
      generalize l[k] = c at *
      have HN := Lib.hid hn2
      clear hn2
      go_wp2
      go_roundg (l.length - (k + 1))
      case measure => omega
      case rel =>
        refine ⟨k + 1, by omega, by omega, by go_num, ?_, rfl⟩
        rw [HN.out]
        rw [u8_or_nat _ _ x.toNat_lt c.toNat_lt, UInt8.toNat_or]
    · have : k = l.length := by omega
      subst this
      go_wp2
      go_ret
      refine ⟨ret_bool ?_, rfl⟩
      have hz := or_zero l 0
      rw [← show (l.foldl (fun x c => x ||| c) 0 == 0) = l.all (· == 0) from by rw [hz]; simp]
      rw [Bool.eq_iff_iff, beq_iff_eq, beq_iff_eq, ← UInt8.toNat_inj]
      simp

set_option maxHeartbeats 1000000 in
theorem rawNil (w : World) (n : Int) : Calls Try.prog 20 #[.pointer none, .int .i64 n] w fun e w' => e = .returned (.slice none 0 0) ∧ w = w' := by
  go_enter Try.func20, Try.ntmps20
  go_wp2
  go_ret
  exact ⟨rfl, rfl⟩
set_option maxHeartbeats 1000000 in
theorem numberNil (w : World) (n : Int) : Calls Try.prog 30 #[.pointer none, .int .i64 n] w fun e w' => e = .returned (.int .u64 0) ∧ w = w' := by
  go_enter Try.func30, Try.ntmps30
  go_wp2_with fail
  refine (rawNil _ n).mono ?_
  rintro e w1 ⟨rfl, rfl⟩
  go_wp2_with fail
  go_rounds 1
  go_ret
  exact ⟨rfl, rfl⟩
set_option maxHeartbeats 1000000 in
theorem u8Nil (w : World) : Calls Try.prog 16 #[.pointer none] w fun e w' => e = .returned (.int .u8 0) ∧ w = w' := by
  go_enter Try.func16, Try.ntmps16
  go_wp2_with fail
  refine (numberNil _ 1).mono ?_
  rintro e w1 ⟨rfl, rfl⟩
  go_wp2
  go_ret
  exact ⟨rfl, rfl⟩
set_option maxHeartbeats 1000000 in
theorem u16Nil (w : World) : Calls Try.prog 17 #[.pointer none] w fun e w' => e = .returned (.int .u16 0) ∧ w = w' := by
  go_enter Try.func17, Try.ntmps17
  go_wp2_with fail
  refine (numberNil _ 2).mono ?_
  rintro e w1 ⟨rfl, rfl⟩
  go_wp2
  go_ret
  exact ⟨rfl, rfl⟩
set_option maxHeartbeats 1000000 in
theorem u32Nil (w : World) : Calls Try.prog 18 #[.pointer none] w fun e w' => e = .returned (.int .u32 0) ∧ w = w' := by
  go_enter Try.func18, Try.ntmps18
  go_wp2_with fail
  refine (numberNil _ 4).mono ?_
  rintro e w1 ⟨rfl, rfl⟩
  go_wp2
  go_ret
  exact ⟨rfl, rfl⟩
set_option maxHeartbeats 1000000 in
theorem u64Nil (w : World) : Calls Try.prog 19 #[.pointer none] w fun e w' => e = .returned (.int .u64 0) ∧ w = w' := by
  go_enter Try.func19, Try.ntmps19
  go_wp2_with fail
  refine (numberNil _ 8).mono ?_
  rintro e w1 ⟨rfl, rfl⟩
  go_wp2
  go_ret
  exact ⟨rfl, rfl⟩
set_option maxHeartbeats 1000000 in
theorem leftNil (w : World) : Calls Try.prog 21 #[.pointer none] w fun e w' => e = .returned (.int .i64 0) ∧ w = w' := by
  go_enter Try.func21, Try.ntmps21
  go_wp2
  go_ret
  exact ⟨rfl, rfl⟩
set_option maxHeartbeats 1000000 in
theorem errNil (w : World) : Calls Try.prog 22 #[.pointer none] w fun e w' => e = .returned (.int .i64 1) ∧ w = w' := by
  go_enter Try.func22, Try.ntmps22
  go_wp2
  go_ret
  exact ⟨rfl, rfl⟩

set_option maxHeartbeats 2000000 in
theorem wakes01 (w : World) : Calls Try.prog 9 #[] w fun e w' => e = .returned (.bool true) ∧ Ext w w' := by
  go_enter Try.func9, Try.ntmps9
  go_wp2_with fail
  refine Calls.mono (octetRead _ _ [1, 2, 5] (IsB.new [1, 2, 5] (by simp) (by rfl) (by rfl) (by decide)) (by decide)) ?_
  rintro e w1 ⟨g, rfl, hg1, hr1, hx1⟩
  have hx := ((Ext.refl w).alloc _).trans hx1
  go_wp2_with fail
  refine (octetU16 _ _ _ _ _ hr1).mono ?_
  rintro e w2 ⟨rfl, hr2, hg2⟩
  have hx2 := hx.grown hg2 (by intro k hk; simp at hk hg1; omega)
  have e1 : num (rTake [1, 2, 5] 0 0 2) = 258 := by decide
  rw [e1]
  go_wp2_with fail
  refine (octetLeft _ _ _ _ _ hr2).mono ?_
  rintro e w3 ⟨rfl, q3, rfl⟩
  have e2 : (([1, 2, 5] : List UInt8).length : Int) - ((rNext [1, 2, 5] 0 0 2).1 : Int) = 1 := by decide
  rw [e2]
  go_wp2_with fail
  refine Calls.mono (octetEqual _ _ _ [7] [7] ((IsB.new (w := w2.drewN q3) [7] (by simp) (by rfl) (by rfl) (by decide)).ext ((Ext.refl _).alloc _)) (IsB.new [7] (by simp) (by rfl) (by rfl) (by decide))) ?_
  rintro e w4 ⟨rfl, q4, rfl⟩
  have e3 : (([7] : List UInt8) == [7]) = true := by decide
  rw [e3]
  have hx4 := (((hx2.drewN q3).alloc (.cells #[.int .u8 7] 5)).alloc (.cells #[.int .u8 7] 5)).drewN q4
  generalize (((w2.drewN q3).alloc (.cells #[.int .u8 7] 5)).alloc (.cells #[.int .u8 7] 5)).drewN q4 = W at *
  go_wp2_with fail
  refine Calls.mono (octetEqual _ _ _ [7] [8] ((IsB.new (w := W) [7] (by simp) (by rfl) (by rfl) (by decide)).ext ((Ext.refl _).alloc _)) (IsB.new [8] (by simp) (by rfl) (by rfl) (by decide))) ?_
  rintro e w5 ⟨rfl, q5, rfl⟩
  have e4 : (([7] : List UInt8) == [8]) = false := by decide
  rw [e4]
  go_wp2
  go_ret
  exact ⟨rfl, ((hx4.alloc _).alloc _).drewN _⟩

set_option maxHeartbeats 2000000 in
theorem walkOctetNone (w : World) (n : Int) (_ : -9223372036854775808 ≤ n) (_ : n ≤ 9223372036854775807) : Calls Try.prog 5 #[.int .i64 n] w fun e w' => e = .returned (.bool true) ∧ Below w.heap.size w w' := by
  go_enter Try.func5, Try.ntmps5
  go_wp2_with fail
  refine (wakes01 _).mono ?_
  rintro e w1 ⟨rfl, hx⟩
  go_wp2_with (first
    | (go_at_call 16; refine (u8Nil _).mono ?_; rintro e w2 ⟨rfl, rfl⟩)
    | (go_at_call 17; refine (u16Nil _).mono ?_; rintro e w2 ⟨rfl, rfl⟩)
    | (go_at_call 18; refine (u32Nil _).mono ?_; rintro e w2 ⟨rfl, rfl⟩)
    | (go_at_call 19; refine (u64Nil _).mono ?_; rintro e w2 ⟨rfl, rfl⟩)
    | (go_at_call 20; refine (rawNil _ _).mono ?_; rintro e w2 ⟨rfl, rfl⟩)
    | (go_at_call 21; refine (leftNil _).mono ?_; rintro e w2 ⟨rfl, rfl⟩)
    | (go_at_call 22; refine (errNil _).mono ?_; rintro e w2 ⟨rfl, rfl⟩))
  go_ret
  exact ⟨rfl, hx⟩
end Go.Proofs.Ytkaadagffkgkdaa
