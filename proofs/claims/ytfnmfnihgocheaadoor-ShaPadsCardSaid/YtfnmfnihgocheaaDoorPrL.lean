/- Primes, roots: plain numbers. -/
import Derived.Test.YtfnmfnihgocheaaDoorKit
namespace Go.Proofs.YtfnmfnihgocheaaDoor
set_option linter.unusedVariables false

/-- Does no number from 2 to below d divide x? -/
def noDiv (x d : Nat) : Bool := (List.range' 2 (d - 2)).all fun e => x % e != 0
/-- The primes below x. -/
def pl (x : Nat) : List Nat := (List.range' 2 (x - 2)).filter fun y => noDiv y y
theorem noDiv_next {x d : Nat} (h : 2 ≤ d) : noDiv x (d + 1) = (noDiv x d && (x % d != 0)) := by
  unfold noDiv
  obtain ⟨k, rfl⟩ := Nat.exists_eq_add_of_le h
  rw [show 2 + k + 1 - 2 = k + 1 from by omega, show 2 + k - 2 = k from by omega, List.range'_concat, List.all_append]
  simp
theorem pl_next {x : Nat} (h : 2 ≤ x) : pl (x + 1) = pl x ++ if noDiv x x then [x] else [] := by
  unfold pl
  obtain ⟨k, rfl⟩ := Nat.exists_eq_add_of_le h
  rw [show 2 + k + 1 - 2 = k + 1 from by omega, show 2 + k - 2 = k from by omega, List.range'_concat, List.filter_append]
  simp only [Nat.one_mul, List.filter_cons, List.filter_nil]
theorem pl_pre {x X : Nat} (h : x ≤ X) : pl x <+: pl X := by
  obtain ⟨k, rfl⟩ := Nat.exists_eq_add_of_le h
  clear h
  induction k with
  | zero => exact List.prefix_rfl
  | succ k ih =>
    refine ih.trans ?_
    by_cases h2 : 2 ≤ x + k
    · rw [show x + (k + 1) = x + k + 1 from rfl, pl_next h2]
      exact List.prefix_append _ _
    · have : pl (x + k) = [] := by unfold pl; rw [show x + k - 2 = 0 from by omega]; rfl
      rw [this]
      exact List.nil_prefix
theorem pl_all {x X n : Nat} (h : x ≤ X) (hX : (pl X).length = n) (hn : n ≤ (pl x).length) : pl x = pl X :=
  (pl_pre h).eq_of_length_le (by omega)
theorem pl_lt {x : Nat} : ∀ p ∈ pl x, p < x := by
  intro p hp
  unfold pl at hp
  have := (List.mem_filter.1 hp).1
  have := List.mem_range'_1.1 this
  omega
theorem pl_len_le (x : Nat) : (pl x).length ≤ x := by
  unfold pl
  refine Nat.le_trans (List.length_filter_le _ _) ?_
  rw [List.length_range']
  omega

/-- Words of 32 bits, six of them, the lowest first. -/
structure W6 where
  a : Nat
  b : Nat
  c : Nat
  d : Nat
  e : Nat
  f : Nat
def W6.val (q : W6) : Nat := q.a + q.b * 4294967296 + q.c * 18446744073709551616 + q.d * 79228162514264337593543950336 + q.e * 340282366920938463463374607431768211456 + q.f * 1461501637330902918203684832716283019655932542976
structure W6.ok (q : W6) : Prop where
  a : q.a < 4294967296
  b : q.b < 4294967296
  c : q.c < 4294967296
  d : q.d < 4294967296
  e : q.e < 4294967296
  f : q.f < 4294967296
/-- 2^192. -/
abbrev M192 : Nat := 6277101735386680763835789423207666416102355444464034512896
def powM (m : Nat) : Nat → Nat
  | 0 => 1
  | k + 1 => powM m k * m % M192
def condB (p k v : Nat) : Bool := if k = 3 then decide (v < 340282366920938463463374607431768211456) && decide (v / 79228162514264337593543950336 < p) else decide (v < 79228162514264337593543950336) && decide (v / 18446744073709551616 < p)
def stepR (p k b r : Nat) : Nat := if condB p k (powM (r + b) k) then r + b else r
/-- The bit of a step. -/
def bt (j : Nat) : Nat := 137438953472 / 2 ^ j
def rootIt (p k : Nat) : Nat → Nat
  | 0 => 0
  | j + 1 => stepR p k (bt j) (rootIt p k j)
def rootN (p k : Nat) : Nat := rootIt p k 38 % 4294967296
theorem bt_le (j : Nat) : bt j ≤ 137438953472 := Nat.div_le_self _ _
theorem bt_next (j : Nat) : bt (j + 1) = bt j / 2 := by unfold bt; rw [Nat.div_div_eq_div_mul, Nat.pow_succ]
theorem bt_pos {j : Nat} (h : j ≤ 37) : 0 < bt j := Nat.div_pos (by
  have := Nat.pow_le_pow_right (show 0 < 2 by omega) h
  exact Nat.le_trans this (by decide)) (Nat.two_pow_pos j)
theorem bt_end : bt 38 = 0 := by decide +kernel
theorem stepR_le (p k b r : Nat) : stepR p k b r ≤ r + b := by
  unfold stepR
  cases condB p k (powM (r + b) k)
  · exact Nat.le_add_right _ _
  · exact Nat.le_refl _
theorem rootIt_le (p k : Nat) : ∀ j, rootIt p k j ≤ j * 137438953472
  | 0 => Nat.zero_le _
  | j + 1 => by
    rw [Nat.succ_mul]
    exact Nat.le_trans (stepR_le _ _ _ _) (Nat.add_le_add (rootIt_le p k j) (bt_le j))
theorem primes64 : (pl 312).length = 64 := by decide +kernel
theorem primes8 : (pl 20).length = 8 := by decide +kernel
end Go.Proofs.YtfnmfnihgocheaaDoor
