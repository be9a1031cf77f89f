/- The walks of Raw, number, U8 .. U64, Left, Err. -/
import Derived.Test.YtpadfabjihaapaaGreatDoorOctC
namespace Go.Proofs.YtpadfabjihaapaaGreatDoor
open Go.RowKit

theorem rTake_le (l : List UInt8) (at_ : Nat) (err n : Int) : (rTake l at_ err n).length ≤ l.length := by
  unfold rTake; split
  · simp
  · split
    · simp
    · split
      · simp
      · simp; omega

set_option maxHeartbeats 1000000 in
theorem octetRaw (w : World) (g : Nat) (l : List UInt8) (at_ : Nat) (err n : Int) (h : IsRd w g l at_ err) (hn : -9223372036854775808 ≤ n ∧ n ≤ 9223372036854775807) :
    Calls Tryz.prog 162 #[.pointer (some ⟨g, 0, none⟩), .int .i64 n] w fun e w' => ∃ v', e = .returned v' ∧ IsB w' v' (rTake l at_ err n) ∧ IsRd w' g l (rNext l at_ err n).1 (rNext l at_ err n).2 ∧ w.grownBy w' (some g) := by
  go_enter Tryz.func162, Tryz.ntmps162
  go_wp2_with fail
  refine (octetTake _ g l at_ err n h hn).mono ?_
  rintro e w1 ⟨v1, rfl, hv1, hr1, hg1⟩
  go_wp2_with fail
  refine (slicesClone _ v1 _ hv1 (Nat.le_trans (rTake_le _ _ _ _) h.lim)).mono ?_
  rintro e w2 ⟨v2, rfl, hown, hext⟩
  go_wp2
  go_ret
  exact ⟨v2, rfl, IsB.of_owns hown, hr1.ext hext, grown_trans hg1 (ext_grown hext _)⟩

set_option maxHeartbeats 1000000 in
theorem octetRawO (w : World) (g : Nat) (l : List UInt8) (at_ : Nat) (err n : Int) (h : IsRd w g l at_ err) (hn : -9223372036854775808 ≤ n ∧ n ≤ 9223372036854775807) :
    Calls Tryz.prog 162 #[.pointer (some ⟨g, 0, none⟩), .int .i64 n] w fun e w' => ∃ v', e = .returned v' ∧ w'.ownsRow w.heap.size 5 1 v' (rTake l at_ err n).length ((rTake l at_ err n).map bc) ∧ IsRd w' g l (rNext l at_ err n).1 (rNext l at_ err n).2 ∧ w.grownBy w' (some g) := by
  go_enter Tryz.func162, Tryz.ntmps162
  go_wp2_with fail
  refine (octetTake _ g l at_ err n h hn).mono ?_
  rintro e w1 ⟨v1, rfl, hv1, hr1, hg1⟩
  go_wp2_with fail
  refine (slicesClone _ v1 _ hv1 (Nat.le_trans (rTake_le _ _ _ _) h.lim)).mono ?_
  rintro e w2 ⟨v2, rfl, hown, hext⟩
  go_wp2
  go_ret
  exact ⟨v2, rfl, ownsRow_base hown hg1.size, hr1.ext hext, grown_trans hg1 (ext_grown hext _)⟩

/-- The number of bytes, in 64 bits. -/
def num (l : List UInt8) : Nat := l.foldl (fun x c => (x * 256 + c.toNat) % 18446744073709551616) 0
theorem num_lt (l : List UInt8) : num l < 18446744073709551616 := by
  unfold num
  suffices h : ∀ (l : List UInt8) (x : Nat), x < 18446744073709551616 → l.foldl (fun x c => (x * 256 + c.toNat) % 18446744073709551616) x < 18446744073709551616 by exact h l 0 (by omega)
  intro l
  induction l with
  | nil => intro x hx; simpa using hx
  | cons c l ih => intro x _; simp only [List.foldl_cons]; exact ih _ (Nat.mod_lt _ (by omega))
theorem num_take (l : List UInt8) (k : Nat) (h : k < l.length) : num (l.take (k + 1)) = (num (l.take k) * 256 + l[k].toNat) % 18446744073709551616 := by
  unfold num
  rw [List.take_succ_eq_append_getElem h, List.foldl_append]
  rfl

theorem or_byte (x : Nat) (c : UInt8) : bits BinOp.or IntKind.u64 (IntKind.u64.wrap ((x : Int) * 256)) (c.toNat : Int) = (((x * 256 + c.toNat) % 18446744073709551616 : Nat) : Int) := by
  have hc := c.toNat_lt
  have e1 : IntKind.u64.wrap ((x : Int) * 256) = ((x * 256 % 18446744073709551616 : Nat) : Int) := by rw [IntKind.wrap_u64]; omega
  rw [e1, bits_or_u64_nat _ _ (Nat.mod_lt _ (by omega)) (by omega)]
  congr 1
  have e2 : x * 256 % 18446744073709551616 = (x % 72057594037927936) <<< 8 := by rw [Nat.shiftLeft_eq]; omega
  rw [e2, ← Nat.shiftLeft_add_eq_or_of_lt (by omega), Nat.shiftLeft_eq]
  omega

set_option maxHeartbeats 1000000 in
theorem octetNumber (w : World) (g : Nat) (l : List UInt8) (at_ : Nat) (err n : Int) (h : IsRd w g l at_ err) (hn : -9223372036854775808 ≤ n ∧ n ≤ 9223372036854775807) :
    Calls Tryz.prog 160 #[.pointer (some ⟨g, 0, none⟩), .int .i64 n] w fun e w' => e = .returned (.int .u64 (num (rTake l at_ err n) : Int)) ∧ IsRd w' g l (rNext l at_ err n).1 (rNext l at_ err n).2 ∧ w.grownBy w' (some g) := by
  go_enter Tryz.func160, Tryz.ntmps160
  go_wp2_with fail
  refine (octetRaw _ g l at_ err n h hn).mono ?_
  rintro e w1 ⟨v1, rfl, hv1, hr1, hg1⟩
  have hlen := Nat.le_trans (rTake_le l at_ err n) h.lim
  generalize hT : rTake l at_ err n = t at *
  have HT := Lib.hid hT
  clear hT
  obtain ⟨ao, cap, rfl, b1, m1, z1, g1⟩ := hv1.opened
  have G1 := Lib.hid g1
  clear g1 z1 hv1
  go_wp2_with fail
  go_loopg [5, 12] t.length (fun g s5 s12 wr => ∃ k : Nat, k ≤ t.length ∧ t.length - k ≤ g ∧ s12 = .int .i64 k ∧ s5 = .int .u64 (num (t.take k) : Int) ∧ wr = w1)
  case atStart => exact ⟨0, Nat.zero_le _, by omega, rfl, rfl, rfl⟩
  case round =>
    obtain ⟨k, hk, hg, rfl, rfl, rfl⟩ := hrel
    by_cases hlt : k < t.length
    · obtain ⟨p, o, rfl, e1⟩ := G1.out k hlt
      have hn1 := num_lt (t.take k)
      have hn2 := num_take t k hlt
      generalize num (t.take k) = x at *
      generalize hc : t[k] = c at *
      have HN := Lib.hid hn2
      clear hn2 hc
      have hc := u8_lt c
      go_wp2
      go_roundg (t.length - (k + 1))
      case measure => omega
      case rel =>
        refine ⟨k + 1, by omega, by omega, by go_num, ?_, rfl⟩
        rw [or_byte, HN.out]
    · have : k = t.length := by omega
      subst this
      go_wp2
      go_ret
      exact ⟨ret_int (by rw [HT.out, List.take_length]), hr1, hg1⟩

theorem num_small (l : List UInt8) (n : Nat) (h : l.length ≤ n) : num l < 256 ^ n := by
  suffices H : ∀ k, k ≤ l.length → num (l.take k) < 256 ^ k by
    have h1 := H l.length (Nat.le_refl _)
    rw [List.take_length] at h1
    exact Nat.lt_of_lt_of_le h1 (Nat.pow_le_pow_right (by omega) h)
  intro k
  induction k with
  | zero => intro _; simp [num]
  | succ k ih =>
    intro hk
    have h1 := ih (by omega)
    rw [num_take l k (by omega)]
    have h2 := (l[k]).toNat_lt
    have h3 : 256 ^ (k + 1) = 256 ^ k * 256 := Nat.pow_succ ..
    have h4 := Nat.mod_le (num (l.take k) * 256 + l[k].toNat) 18446744073709551616
    omega
theorem rTake_len (l : List UInt8) (at_ : Nat) (err : Int) (n : Nat) : (rTake l at_ err n).length ≤ n := by
  unfold rTake; split
  · simp
  · split
    · simp
    · split
      · simp
      · simp; omega

set_option maxHeartbeats 1000000 in
theorem octetU32 (w : World) (g : Nat) (l : List UInt8) (at_ : Nat) (err : Int) (h : IsRd w g l at_ err) :
    Calls Tryz.prog 157 #[.pointer (some ⟨g, 0, none⟩)] w fun e w' => e = .returned (.int .u32 (num (rTake l at_ err 4) : Int)) ∧ IsRd w' g l (rNext l at_ err 4).1 (rNext l at_ err 4).2 ∧ w.grownBy w' (some g) := by
  have hb : (num (rTake l at_ err 4) : Int) < 4294967296 := by have := num_small (rTake l at_ err 4) 4 (by simpa using rTake_len l at_ err 4); omega
  go_enter Tryz.func157, Tryz.ntmps157
  go_wp2_with fail
  refine (octetNumber _ g l at_ err 4 h (by omega)).mono ?_
  rintro e w1 ⟨rfl, hr, hg⟩
  go_wp2
  go_ret
  exact ⟨rfl, hr, hg⟩

end Go.Proofs.YtpadfabjihaapaaGreatDoor
