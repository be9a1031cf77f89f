/- The walks of the reference: High, Both, Number, Do. -/
import Derived.Test.YtcdlmappcbbacaaOctE
namespace Go.Proofs.Ytcdlmappcbbacaa
open Go.RowKit

theorem set_last {α : Type} (z c : α) (m : Nat) (d : List α) : (List.replicate (m + 1) z ++ d).set m c = List.replicate m z ++ c :: d := by
  rw [List.replicate_succ', List.append_assoc, List.set_append_right _ _ (by simp)]
  simp

theorem be_drop (x n k : Nat) (h : k < n) : (be x n).drop (n - 1 - k) = UInt8.ofNat (x / 2 ^ (8 * k)) :: (be x n).drop (n - k) := by
  rw [List.drop_eq_getElem_cons (by rw [be_length]; omega)]
  have e : n - 1 - k + 1 = n - k := by omega
  rw [e]
  congr 1
  have := be_get x n (n - 1 - k) (by omega)
  rw [List.getElem?_eq_getElem (by rw [be_length]; omega)] at this
  rw [Option.some.inj this]
  have e2 : n - 1 - (n - 1 - k) = k := by omega
  rw [e2]

set_option maxHeartbeats 1000000 in
theorem refNumber (w : World) (v : Value) (l : List UInt8) (h : IsB w v l) (hb : l.length ≤ 140737488355328) :
    Calls Try.prog 29 #[v] w fun e w' => e = .returned (.int .u64 (num l : Int)) ∧ w = w' := by
  obtain ⟨ao, cap, rfl, b1, m1, z1, g1⟩ := h.opened
  have G1 := Lib.hid g1
  clear g1 z1 h
  go_enter Try.func29, Try.ntmps29
  go_wp2_with fail
  go_loopg [3, 4] l.length (fun g s5 s12 wr => ∃ k : Nat, k ≤ l.length ∧ l.length - k ≤ g ∧ s12 = .int .i64 k ∧ s5 = .int .u64 (num (l.take k) : Int) ∧ wr = w)
  case atStart => exact ⟨0, Nat.zero_le _, by omega, rfl, rfl, rfl⟩
  case round =>
    obtain ⟨k, hk, hg, rfl, rfl, rfl⟩ := hrel
    by_cases hlt : k < l.length
    · obtain ⟨p, o, rfl, e1⟩ := G1.out k hlt
      have hn1 := num_lt (l.take k)
      have hn2 := num_take l k hlt
      generalize num (l.take k) = x at *
      generalize hc : l[k] = c at *
      have HN := Lib.hid hn2
      clear hn2 hc
      have hc := u8_lt c
      go_wp2
      go_roundg (l.length - (k + 1))
      case measure => omega
      case rel =>
        refine ⟨k + 1, by omega, by omega, by go_num, ?_, rfl⟩
        rw [HN.out]
        congr 1
        simp only [IntKind.wrap_u64]
        omega
    · have : k = l.length := by omega
      subst this
      go_wp2
      go_ret
      exact ⟨ret_int (by rw [List.take_length]), rfl⟩
end Go.Proofs.Ytcdlmappcbbacaa
