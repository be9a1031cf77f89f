/- The walk of octet.put and of Put16, Put32, Put64: the bytes, then the number's, the highest first. -/
import Derived.Test.YtpadfabjihaapaaGreatDoorOctA
import Derived.Laws.ShiftsVarLaws
namespace Go.Proofs.YtpadfabjihaapaaGreatDoor
open Go.RowKit

/-- The bytes of x, n of them, the highest first. -/
def be (x n : Nat) : List UInt8 := (List.range n).map fun i => UInt8.ofNat (x / 2 ^ (8 * (n - 1 - i)))
theorem be_length (x n : Nat) : (be x n).length = n := by simp [be]
theorem be_get (x n k : Nat) (h : k < n) : (be x n)[k]? = some (UInt8.ofNat (x / 2 ^ (8 * (n - 1 - k)))) := by simp [be, h]
theorem be_take (x n k : Nat) (h : k < n) : (be x n).take (k + 1) = (be x n).take k ++ [UInt8.ofNat (x / 2 ^ (8 * (n - 1 - k)))] := by
  rw [List.take_add_one, be_get x n k h]; rfl
theorem bc_ofNat (m : Nat) : bc (UInt8.ofNat m) = .int .u8 ((m : Int) % 256) := by
  unfold bc; congr 1
theorem be_cast (x n k : Nat) : ((x : Int) / 2 ^ (8 * (n - 1 - k)) % 256) = (((x / 2 ^ (8 * (n - 1 - k)) : Nat) : Int) % 256) := by
  simp

set_option maxHeartbeats 1000000 in
theorem octetPut (w : World) (v : Value) (l : List UInt8) (x : Nat) (n : Nat) (h : IsB w v l) (hn : n ≤ 8) (hb : l.length + n ≤ 140737488355328) :
    Calls Tryz.prog 154 #[v, .int .u64 x, .int .i64 n] w fun e w' => ∃ v', e = .returned v' ∧ w'.ownsRow w.heap.size 5 1 v' (l.length + n) ((l ++ be x n).map bc) ∧ Ext w w' := by
  go_enter Tryz.func154, Tryz.ntmps154
  go_wp2_with fail
  refine (slicesClone _ v l h (by omega)).mono ?_
  rintro e w1 ⟨v1, rfl, hown, hext⟩
  go_wp2_with fail
  go_loopg [0, 7] n (fun g s0 s7 wr => ∃ k : Nat, k ≤ n ∧ n - k ≤ g ∧ s7 = .int .i64 ((n : Int) - 1 - k) ∧ wr.ownsRow w.heap.size 5 1 s0 (l.length + k) ((l ++ (be x n).take k).map bc) ∧ Ext w wr)
  case atStart => exact ⟨0, by omega, by omega, by simp, by simpa using hown, hext⟩
  case round =>
    obtain ⟨k, hk, hg, rfl, hown1, hext1⟩ := hrel
    by_cases hlt : k < n
    · go_wp2_with (at_builtin; go_must (refine wp_app1 tyB rfl _ _ rfl w.heap.size _ (l.length + k) _ _ _ hown1 (by rfl) (by rfl) rfl (by omega) (by omega) hext1.size ?_); intro v2 w2 hown2 hgrow2)
      go_roundg (n - (k + 1))
      case measure => omega
      case rel =>
        refine ⟨k + 1, by omega, by omega, by go_num, ?_, own_base (hown1.alloc _) hgrow2 (hext1.alloc _) (Nat.le_refl _)⟩
        rw [be_take x n k hlt, ← List.append_assoc, List.map_append, List.map_singleton, bc_ofNat, ← be_cast]
        exact hown2
    · have : k = n := by omega
      subst this
      go_wp2
      go_ret
      refine ⟨_, rfl, ?_, hext1⟩
      have e : (be x k).take k = be x k := List.take_of_length_le (by rw [be_length]; omega)
      rw [e] at hown1
      exact hown1
end Go.Proofs.YtpadfabjihaapaaGreatDoor
