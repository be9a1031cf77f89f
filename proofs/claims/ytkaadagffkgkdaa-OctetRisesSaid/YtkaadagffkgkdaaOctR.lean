/- The walk of the law OctetRises. -/
import Derived.Test.YtkaadagffkgkdaaOctH
import Derived.Test.YtkaadagffkgkdaaReg
import Derived.Laws.IdiomStrings
namespace Go.Proofs.Ytkaadagffkgkdaa
open Go.RowKit
set_option linter.unusedVariables false
set_option linter.unusedSimpArgs false

theorem be_succ (x n : Nat) : be x (n + 1) = UInt8.ofNat (x / 2 ^ (8 * n)) :: be x n := by
  unfold be
  rw [List.range_succ_eq_map, List.map_cons, List.map_map]
  congr 1
  apply List.map_congr_left
  intro i _
  show UInt8.ofNat (x / 2 ^ (8 * (n + 1 - 1 - (i + 1)))) = _
  rw [show n + 1 - 1 - (i + 1) = n - 1 - i from by omega]

theorem be_lt_iff (n : Nat) : ∀ (x y : Nat), x < 2 ^ (8 * n) → y < 2 ^ (8 * n) → Op.bytesLess (be x n) (be y n) = decide (x < y) := by
  induction n with
  | zero =>
    intro x y hx hy
    simp at hx hy
    subst hx
    subst hy
    simp [be, Op.bytesLess]
  | succ n ih =>
    intro x y hx hy
    have hp : 0 < 2 ^ (8 * n) := Nat.pow_pos (by omega)
    have e : 2 ^ (8 * (n + 1)) = 2 ^ (8 * n) * 256 := by rw [Nat.mul_add, Nat.pow_add]
    rw [e] at hx hy
    have h1 : x / 2 ^ (8 * n) < 256 := Nat.div_lt_of_lt_mul hx
    have h2 : y / 2 ^ (8 * n) < 256 := Nat.div_lt_of_lt_mul hy
    have ih' := ih (x % 2 ^ (8 * n)) (y % 2 ^ (8 * n)) (Nat.mod_lt _ hp) (Nat.mod_lt _ hp)
    rw [be_mod, be_mod] at ih'
    rw [be_succ, be_succ, Op.bytesLess, ih']
    have k1 := Nat.div_add_mod x (2 ^ (8 * n))
    have k2 := Nat.div_add_mod y (2 ^ (8 * n))
    have m1 := Nat.mod_lt x hp
    have m2 := Nat.mod_lt y hp
    generalize x / 2 ^ (8 * n) = a at *
    generalize y / 2 ^ (8 * n) = b at *
    generalize x % 2 ^ (8 * n) = c at *
    generalize y % 2 ^ (8 * n) = d at *
    generalize 2 ^ (8 * n) = p at *
    rw [Bool.eq_iff_iff]
    simp only [Bool.or_eq_true, Bool.and_eq_true, decide_eq_true_eq, beq_iff_eq, UInt8.lt_iff_toNat_lt, ← UInt8.toNat_inj, UInt8.toNat_ofNat', Nat.reducePow, Nat.mod_eq_of_lt h1, Nat.mod_eq_of_lt h2]
    constructor
    · rintro (h | ⟨rfl, h⟩)
      · have := Nat.mul_le_mul_left p (show a + 1 ≤ b from h)
        rw [Nat.mul_add] at this
        omega
      · omega
    · intro h
      rcases Nat.lt_trichotomy a b with h3 | h3 | h3
      · exact Or.inl h3
      · subst h3; exact Or.inr ⟨rfl, by omega⟩
      · have := Nat.mul_le_mul_left p (show b + 1 ≤ a from h3)
        rw [Nat.mul_add] at this
        omega

/-- 'string(b)' of a slice of bytes that is not empty. -/
theorem conv_str {w : World} {v : Value} {l : List UInt8} (h : IsB w v l) (hl : 0 < l.length) : (convert 22 9 v).run Try.prog w = .ok (.string ⟨l.toArray⟩) w := by
  obtain ⟨ao, cap, rfl, c1, m1, z1, g1⟩ := h.opened
  obtain ⟨p, o, rfl, _⟩ := g1 0 hl
  refine run_convert_bytes_back w _ _ 5 _ _ l Try.underlying22 Try.underlying5 Try.underlying9 fun j hj => ?_
  obtain ⟨p', o', e, hc⟩ := g1 j hj
  simp only [Option.some.injEq, Addr.mk.injEq] at e
  obtain ⟨rfl, rfl, _⟩ := e
  rw [Addr.add_lit]
  exact hc

theorem conv_be {n : Nat} (hn : 0 < n) {W : World} {v : Value} {z : Nat} {s : ByteArray} (hs : Hid (s = ⟨(be z n).toArray⟩)) (h : IsB W v (be z n)) : (convert 22 9 v).run Try.prog W = .ok (.string s) W := by
  rw [hs.out]; exact conv_str h (by rw [be_length]; exact hn)
theorem IsB.of_own8 {w : World} {base : Nat} {e : TypeId} {v : Value} {n z k : Nat} (h : w.ownsRow base e 1 v n (([] ++ be z k).map bc)) : IsB w v (be z k) := IsB.of_owns (by simpa using h)


theorem cast_mod32 (x : Nat) : ((x : Int) % 4294967296) = ((x % 4294967296 : Nat) : Int) := by omega

set_option maxHeartbeats 8000000 in
set_option maxRecDepth 100000 in
theorem walkOctetRises (w : World) (x : Int) (hx0 : 0 ≤ x) (hx2 : x ≤ 18446744073709551615) (y : Int) (hy0 : 0 ≤ y) (hy2 : y ≤ 18446744073709551615) :
    Calls Try.prog 6 #[.int .u64 x, .int .u64 y] w fun e w' => e = .returned (.bool true) ∧ Below w.heap.size w w' := by
  obtain ⟨x, rfl⟩ : ∃ n : Nat, x = n := ⟨x.toNat, by omega⟩
  obtain ⟨y, rfl⟩ : ∃ n : Nat, y = n := ⟨y.toNat, by omega⟩
  obtain ⟨xm, hxm⟩ : ∃ n : Nat, x % 4294967296 = n := ⟨_, rfl⟩
  obtain ⟨ym, hym⟩ : ∃ n : Nat, y % 4294967296 = n := ⟨_, rfl⟩
  have hwx : IntKind.u32.wrap (x : Int) = (xm : Int) := by rw [IntKind.wrap_u32]; omega
  have hwy : IntKind.u32.wrap (y : Int) = (ym : Int) := by rw [IntKind.wrap_u32]; omega
  have hxm4 : xm < 4294967296 := by omega
  have hym4 : ym < 4294967296 := by omega
  obtain ⟨sx, hsx⟩ : ∃ s : ByteArray, s = ⟨(be x 8).toArray⟩ := ⟨_, rfl⟩
  obtain ⟨sy, hsy⟩ : ∃ s : ByteArray, s = ⟨(be y 8).toArray⟩ := ⟨_, rfl⟩
  obtain ⟨tx, htx⟩ : ∃ s : ByteArray, s = ⟨(be xm 4).toArray⟩ := ⟨_, rfl⟩
  obtain ⟨ty, hty⟩ : ∃ s : ByteArray, s = ⟨(be ym 4).toArray⟩ := ⟨_, rfl⟩
  have l8 : Op.bytesLess sx.toList sy.toList = decide ((x : Int) < (y : Int)) := by
    rw [hsx, hsy]; have h := be_lt_iff 8 x y (by omega) (by omega); simpa [ByteArray.toList_eq] using h
  have l4 : Op.bytesLess tx.toList ty.toList = decide ((xm : Int) < (ym : Int)) := by
    rw [htx, hty]; have h := be_lt_iff 4 xm ym (by omega) (by omega); simpa [ByteArray.toList_eq] using h
  have HX := Lib.hid hsx
  have HY := Lib.hid hsy
  have KX := Lib.hid htx
  have KY := Lib.hid hty
  clear hsx hsy htx hty hxm hym
  go_enter Try.func6, Try.ntmps6
  go_wp2_with fail
  refine (wakes01 _).mono ?_
  rintro e w1 ⟨rfl, x1⟩
  go_wp2_with fail
  refine wp_region_ext (by kernel_rfl) fun wd hqd xd hHeld => ?_
  refine wpAnyH_take (i := 0) (v := ?va0) rfl (by kernel_rfl) (by kernel_rfl) (by kernel_rfl) (fun _ _ _ h => h) (Or.inl ⟨by rfl, ?hya0⟩) hHeld ?_
  case hya0 => (intro w hSw; go_simp; try with_reducible rfl)
  simp only [Act.put, List.setIfInBounds_toArray, List.set_cons_zero, List.set_cons_succ, List.getElem_toArray, List.getElem_cons_zero, List.getElem_cons_succ]
  refine wpAnyH_take (i := 3) (v := ?va3) rfl (by kernel_rfl) (by kernel_rfl) (by kernel_rfl) (fun _ _ _ h => h) (Or.inl ⟨by rfl, ?hya3⟩) hHeld ?_
  case hya3 => (intro w hSw; go_simp; try with_reducible rfl)
  simp only [Act.put, List.setIfInBounds_toArray, List.set_cons_zero, List.set_cons_succ, List.getElem_toArray, List.getElem_cons_zero, List.getElem_cons_succ]
  refine wpAnyH_take (i := 7) (v := ?va7) rfl (by kernel_rfl) (by kernel_rfl) (by kernel_rfl) (fun _ _ _ h => h) (Or.inl ⟨by rfl, ?hya7⟩) hHeld ?_
  case hya7 => (intro w hSw; go_simp; try with_reducible rfl)
  simp only [Act.put, List.setIfInBounds_toArray, List.set_cons_zero, List.set_cons_succ, List.getElem_toArray, List.getElem_cons_zero, List.getElem_cons_succ]
  refine wpAnyH_take (i := 8) (v := ?va8) rfl (by kernel_rfl) (by kernel_rfl) (by kernel_rfl) (fun _ _ _ h => h) (Or.inl ⟨by rfl, ?hya8⟩) hHeld ?_
  case hya8 => (intro w hSw; go_simp; try with_reducible rfl)
  simp only [Act.put, List.setIfInBounds_toArray, List.set_cons_zero, List.set_cons_succ, List.getElem_toArray, List.getElem_cons_zero, List.getElem_cons_succ]
  refine wpAnyH_take (i := 9) (v := ?va9) rfl (by kernel_rfl) (by kernel_rfl) (by kernel_rfl) (fun _ _ _ h => h) (Or.inl ⟨by rfl, ?hya9⟩) hHeld ?_
  case hya9 => (intro w hSw; go_simp; try with_reducible rfl)
  simp only [Act.put, List.setIfInBounds_toArray, List.set_cons_zero, List.set_cons_succ, List.getElem_toArray, List.getElem_cons_zero, List.getElem_cons_succ]
  refine wpAnyH_all (rs := [1]) (by kernel_rfl) (by simp) ?_
  intro i hi; obtain rfl : i = 1 := by simpa using hi
  refine wpOp_run rfl (by rfl) ?_
  go_simp
  refine Calls.mono (octetPut64 _ _ [] x (IsB.nil _) (by simp)) ?_
  rintro e w2 ⟨va, rfl, oa, xa⟩
  have ba := IsB.of_own8 oa; clear oa
  refine wpAnyH_call (xa) fun hHeld => ?_
  try simp only [Act.put, List.setIfInBounds_toArray, List.set_cons_zero, List.set_cons_succ, List.getElem_toArray, List.getElem_cons_zero, List.getElem_cons_succ]
  refine wpAnyH_take (i := 2) (v := ?va2) rfl (by kernel_rfl) (by kernel_rfl) (by kernel_rfl) (fun _ _ _ h => h) (Or.inl ⟨by rfl, ?hya2⟩) hHeld ?_
  case hya2 => (intro w hSw; have k := conv_be (by omega) HX (ba.ext hSw); go_simp; try with_reducible rfl)
  simp only [Act.put, List.setIfInBounds_toArray, List.set_cons_zero, List.set_cons_succ, List.getElem_toArray, List.getElem_cons_zero, List.getElem_cons_succ]
  refine wpAnyH_all (rs := [4]) (by kernel_rfl) (by simp) ?_
  intro i hi; obtain rfl : i = 4 := by simpa using hi
  refine wpOp_run rfl (by rfl) ?_
  go_simp
  refine Calls.mono (octetPut64 _ _ [] y (IsB.nil _) (by simp)) ?_
  rintro e w3 ⟨vb, rfl, ob, xb⟩
  have bb := IsB.of_own8 ob; clear ob
  refine wpAnyH_call (xb) fun hHeld => ?_
  try simp only [Act.put, List.setIfInBounds_toArray, List.set_cons_zero, List.set_cons_succ, List.getElem_toArray, List.getElem_cons_zero, List.getElem_cons_succ]
  refine wpAnyH_take (i := 5) (v := ?va5) rfl (by kernel_rfl) (by kernel_rfl) (by kernel_rfl) (fun _ _ _ h => h) (Or.inl ⟨by rfl, ?hya5⟩) hHeld ?_
  case hya5 => (intro w hSw; have k := conv_be (by omega) HY (bb.ext hSw); go_simp; try with_reducible rfl)
  simp only [Act.put, List.setIfInBounds_toArray, List.set_cons_zero, List.set_cons_succ, List.getElem_toArray, List.getElem_cons_zero, List.getElem_cons_succ]
  refine wpAnyH_take (i := 6) (v := ?va6) rfl (by kernel_rfl) (by kernel_rfl) (by kernel_rfl) (fun _ _ _ h => h) (Or.inl ⟨by rfl, ?hya6⟩) hHeld ?_
  case hya6 => (intro w hSw; go_simp; try with_reducible rfl)
  simp only [Act.put, List.setIfInBounds_toArray, List.set_cons_zero, List.set_cons_succ, List.getElem_toArray, List.getElem_cons_zero, List.getElem_cons_succ]
  refine wpAnyH_take (i := 10) (v := ?va10) rfl (by kernel_rfl) (by kernel_rfl) (by kernel_rfl) (fun _ _ _ h => h) (Or.inl ⟨by rfl, ?hya10⟩) hHeld ?_
  case hya10 => (intro w hSw; go_simp; try with_reducible rfl)
  simp only [Act.put, List.setIfInBounds_toArray, List.set_cons_zero, List.set_cons_succ, List.getElem_toArray, List.getElem_cons_zero, List.getElem_cons_succ]
  refine wpAnyH_take (i := 11) (v := ?va11) rfl (by kernel_rfl) (by kernel_rfl) (by kernel_rfl) (fun _ _ _ h => h) (Or.inl ⟨by rfl, ?hya11⟩) hHeld ?_
  case hya11 => (intro w hSw; go_simp; try with_reducible rfl)
  simp only [Act.put, List.setIfInBounds_toArray, List.set_cons_zero, List.set_cons_succ, List.getElem_toArray, List.getElem_cons_zero, List.getElem_cons_succ]
  refine wpAnyH_take (i := 12) (v := ?va12) rfl (by kernel_rfl) (by kernel_rfl) (by kernel_rfl) (fun _ _ _ h => h) (Or.inl ⟨by rfl, ?hya12⟩) hHeld ?_
  case hya12 => (intro w hSw; go_simp; try with_reducible rfl)
  simp only [Act.put, List.setIfInBounds_toArray, List.set_cons_zero, List.set_cons_succ, List.getElem_toArray, List.getElem_cons_zero, List.getElem_cons_succ]
  refine wpAnyH_take (i := 13) (v := ?va13) rfl (by kernel_rfl) (by kernel_rfl) (by kernel_rfl) (fun _ _ _ h => h) (Or.inl ⟨by rfl, ?hya13⟩) hHeld ?_
  case hya13 => (intro w hSw; go_simp; try with_reducible rfl)
  simp only [Act.put, List.setIfInBounds_toArray, List.set_cons_zero, List.set_cons_succ, List.getElem_toArray, List.getElem_cons_zero, List.getElem_cons_succ]
  refine wpAnyH_take (i := 16) (v := ?va16) rfl (by kernel_rfl) (by kernel_rfl) (by kernel_rfl) (fun _ _ _ h => h) (Or.inl ⟨by rfl, ?hya16⟩) hHeld ?_
  case hya16 => (intro w hSw; go_simp; try with_reducible rfl)
  simp only [Act.put, List.setIfInBounds_toArray, List.set_cons_zero, List.set_cons_succ, List.getElem_toArray, List.getElem_cons_zero, List.getElem_cons_succ]
  refine wpAnyH_take (i := 17) (v := ?va17) rfl (by kernel_rfl) (by kernel_rfl) (by kernel_rfl) (fun _ _ _ h => h) (Or.inl ⟨by rfl, ?hya17⟩) hHeld ?_
  case hya17 => (intro w hSw; go_simp; try with_reducible rfl)
  simp only [Act.put, List.setIfInBounds_toArray, List.set_cons_zero, List.set_cons_succ, List.getElem_toArray, List.getElem_cons_zero, List.getElem_cons_succ]
  refine wpAnyH_take (i := 21) (v := ?va21) rfl (by kernel_rfl) (by kernel_rfl) (by kernel_rfl) (fun _ _ _ h => h) (Or.inl ⟨by rfl, ?hya21⟩) hHeld ?_
  case hya21 => (intro w hSw; go_simp; try with_reducible rfl)
  simp only [Act.put, List.setIfInBounds_toArray, List.set_cons_zero, List.set_cons_succ, List.getElem_toArray, List.getElem_cons_zero, List.getElem_cons_succ]
  refine wpAnyH_take (i := 22) (v := ?va22) rfl (by kernel_rfl) (by kernel_rfl) (by kernel_rfl) (fun _ _ _ h => h) (Or.inl ⟨by rfl, ?hya22⟩) hHeld ?_
  case hya22 => (intro w hSw; go_simp; try with_reducible rfl)
  simp only [Act.put, List.setIfInBounds_toArray, List.set_cons_zero, List.set_cons_succ, List.getElem_toArray, List.getElem_cons_zero, List.getElem_cons_succ]
  refine wpAnyH_take (i := 23) (v := ?va23) rfl (by kernel_rfl) (by kernel_rfl) (by kernel_rfl) (fun _ _ _ h => h) (Or.inl ⟨by rfl, ?hya23⟩) hHeld ?_
  case hya23 => (intro w hSw; go_simp; try with_reducible rfl)
  simp only [Act.put, List.setIfInBounds_toArray, List.set_cons_zero, List.set_cons_succ, List.getElem_toArray, List.getElem_cons_zero, List.getElem_cons_succ]
  refine wpAnyH_take (i := 24) (v := ?va24) rfl (by kernel_rfl) (by kernel_rfl) (by kernel_rfl) (fun _ _ _ h => h) (Or.inl ⟨by rfl, ?hya24⟩) hHeld ?_
  case hya24 => (intro w hSw; go_simp; try with_reducible rfl)
  simp only [Act.put, List.setIfInBounds_toArray, List.set_cons_zero, List.set_cons_succ, List.getElem_toArray, List.getElem_cons_zero, List.getElem_cons_succ]
  refine wpAnyH_take (i := 25) (v := ?va25) rfl (by kernel_rfl) (by kernel_rfl) (by kernel_rfl) (fun _ _ _ h => h) (Or.inl ⟨by rfl, ?hya25⟩) hHeld ?_
  case hya25 => (intro w hSw; go_simp; try with_reducible rfl)
  simp only [Act.put, List.setIfInBounds_toArray, List.set_cons_zero, List.set_cons_succ, List.getElem_toArray, List.getElem_cons_zero, List.getElem_cons_succ]
  refine wpAnyH_all (rs := [14]) (by kernel_rfl) (by simp) ?_
  intro i hi; obtain rfl : i = 14 := by simpa using hi
  refine wpOp_run rfl (by rfl) ?_
  go_simp
  refine Calls.mono (octetPut32 _ _ [] xm (IsB.nil _) (by omega) (by simp)) ?_
  rintro e w4 ⟨vc, rfl, oc, xc⟩
  have bc4 := IsB.of_own8 oc; clear oc
  refine wpAnyH_call (xc) fun hHeld => ?_
  try simp only [Act.put, List.setIfInBounds_toArray, List.set_cons_zero, List.set_cons_succ, List.getElem_toArray, List.getElem_cons_zero, List.getElem_cons_succ]
  refine wpAnyH_take (i := 15) (v := ?va15) rfl (by kernel_rfl) (by kernel_rfl) (by kernel_rfl) (fun _ _ _ h => h) (Or.inl ⟨by rfl, ?hya15⟩) hHeld ?_
  case hya15 => (intro w hSw; have k := conv_be (by omega) KX (bc4.ext hSw); go_simp; try with_reducible rfl)
  simp only [Act.put, List.setIfInBounds_toArray, List.set_cons_zero, List.set_cons_succ, List.getElem_toArray, List.getElem_cons_zero, List.getElem_cons_succ]
  refine wpAnyH_all (rs := [18]) (by kernel_rfl) (by simp) ?_
  intro i hi; obtain rfl : i = 18 := by simpa using hi
  refine wpOp_run rfl (by rfl) ?_
  go_simp
  refine Calls.mono (octetPut32 _ _ [] ym (IsB.nil _) (by omega) (by simp)) ?_
  rintro e w5 ⟨vd, rfl, od, xd5⟩
  have bd4 := IsB.of_own8 od; clear od
  refine wpAnyH_call (xd5) fun hHeld => ?_
  try simp only [Act.put, List.setIfInBounds_toArray, List.set_cons_zero, List.set_cons_succ, List.getElem_toArray, List.getElem_cons_zero, List.getElem_cons_succ]
  refine wpAnyH_take (i := 19) (v := ?va19) rfl (by kernel_rfl) (by kernel_rfl) (by kernel_rfl) (fun _ _ _ h => h) (Or.inl ⟨by rfl, ?hya19⟩) hHeld ?_
  case hya19 => (intro w hSw; have k := conv_be (by omega) KY (bd4.ext hSw); go_simp; try with_reducible rfl)
  simp only [Act.put, List.setIfInBounds_toArray, List.set_cons_zero, List.set_cons_succ, List.getElem_toArray, List.getElem_cons_zero, List.getElem_cons_succ]
  refine wpAnyH_take (i := 20) (v := ?va20) rfl (by kernel_rfl) (by kernel_rfl) (by kernel_rfl) (fun _ _ _ h => h) (Or.inl ⟨by rfl, ?hya20⟩) hHeld ?_
  case hya20 => (intro w hSw; go_simp; try with_reducible rfl)
  simp only [Act.put, List.setIfInBounds_toArray, List.set_cons_zero, List.set_cons_succ, List.getElem_toArray, List.getElem_cons_zero, List.getElem_cons_succ]
  refine wpAnyH_take (i := 26) (v := ?va26) rfl (by kernel_rfl) (by kernel_rfl) (by kernel_rfl) (fun _ _ _ h => h) (Or.inl ⟨by rfl, ?hya26⟩) hHeld ?_
  case hya26 => (intro w hSw; go_simp; try with_reducible rfl)
  simp only [Act.put, List.setIfInBounds_toArray, List.set_cons_zero, List.set_cons_succ, List.getElem_toArray, List.getElem_cons_zero, List.getElem_cons_succ]
  refine wpAnyH_take (i := 27) (v := ?va27) rfl (by kernel_rfl) (by kernel_rfl) (by kernel_rfl) (fun _ _ _ h => h) (Or.inl ⟨by rfl, ?hya27⟩) hHeld ?_
  case hya27 => (intro w hSw; go_simp; try with_reducible rfl)
  simp only [Act.put, List.setIfInBounds_toArray, List.set_cons_zero, List.set_cons_succ, List.getElem_toArray, List.getElem_cons_zero, List.getElem_cons_succ]
  refine wpAnyH_take (i := 28) (v := ?va28) rfl (by kernel_rfl) (by kernel_rfl) (by kernel_rfl) (fun _ _ _ h => h) (Or.inl ⟨by rfl, ?hya28⟩) hHeld ?_
  case hya28 => (intro w hSw; go_simp; try with_reducible rfl)
  simp only [Act.put, List.setIfInBounds_toArray, List.set_cons_zero, List.set_cons_succ, List.getElem_toArray, List.getElem_cons_zero, List.getElem_cons_succ]
  refine wpAnyH_done (by kernel_rfl) ?_ _
  refine NoPanic.normal ?_
  go_wp2_with fail
  go_ret
  exact ⟨rfl, x1.trans (xd.trans ((xa.trans xb).trans (xc.trans xd5)))⟩
end Go.Proofs.Ytkaadagffkgkdaa
