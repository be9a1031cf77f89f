/- The walks of the laws OctetHolds, OctetPuts, OctetRises. -/
import Derived.Test.YtkaadagffkgkdaaOctF
namespace Go.Proofs.Ytkaadagffkgkdaa
open Go.RowKit
set_option linter.unusedVariables false

theorem be_mod (x n : Nat) : be (x % 2 ^ (8 * n)) n = be x n := by
  unfold be
  apply List.map_congr_left
  intro i hi
  have hi := List.mem_range.1 hi
  apply UInt8.toNat_inj.1
  rw [UInt8.toNat_ofNat', UInt8.toNat_ofNat']
  have e : 2 ^ (8 * n) = 2 ^ (8 * (n - 1 - i)) * (2 ^ (8 * i) * 256) := by
    rw [show (256 : Nat) = 2 ^ 8 from rfl, ← Nat.pow_add, ← Nat.pow_add]
    congr 1
    omega
  rw [e, Nat.mod_mul_right_div_self]
  exact Nat.mod_mod_of_dvd _ ⟨2 ^ (8 * i), by rw [Nat.mul_comm]⟩

set_option maxHeartbeats 2000000 in
theorem walkOctetPuts (w : World) (v : Value) (l : List UInt8) (hv : IsB w v l) (hb : l.length ≤ 140737488351232) (x : Int) (hx0 : 0 ≤ x) (hx1 : x ≤ 18446744073709551615) :
    Calls Try.prog 7 #[v, .int .u64 x] w fun e w' => e = .returned (.bool true) ∧ Below w.heap.size w w' := by
  obtain ⟨x, rfl⟩ : ∃ n : Nat, x = n := ⟨x.toNat, by omega⟩
  go_enter Try.func7, Try.ntmps7
  go_wp2_with fail
  refine (wakes01 _).mono ?_
  rintro e w1 ⟨rfl, x1⟩
  go_wp2_with fail
  refine Calls.mono (refBoth _ _ _ l [] (hv.ext x1) (IsB.nil _) (by simp; omega)) ?_
  rintro e w2 ⟨c, rfl, hc, e2⟩
  have x2 := x1.trans e2
  rw [List.append_nil] at hc
  have hc := IsB.of_owns hc
  go_wp2_with fail
  refine Calls.mono (octetPut16 _ _ l (x % 65536) (hv.ext x2) (by omega) (by omega)) ?_
  rintro e w3 ⟨one, rfl, h1, e3⟩
  have x3 := x2.trans e3
  go_wp2_with fail
  refine Calls.mono (octetPut32 _ _ l (x % 4294967296) (hv.ext x3) (by omega) (by omega)) ?_
  rintro e w4 ⟨two, rfl, h2, e4⟩
  have x4 := x3.trans e4
  go_wp2_with fail
  refine Calls.mono (octetPut64 _ _ l x (hv.ext x4) (by omega)) ?_
  rintro e w5 ⟨three, rfl, h3, e5⟩
  have x5 := x4.trans e5
  have b1 := ((IsB.of_owns h1).ext e4).ext e5
  have b2 := (IsB.of_owns h2).ext e5
  have b3 := IsB.of_owns h3
  have bc5 := ((hc.ext e3).ext e4).ext e5
  rw [show x % 65536 = x % 2 ^ (8 * 2) from rfl, be_mod] at b1
  rw [show x % 4294967296 = x % 2 ^ (8 * 4) from rfl, be_mod] at b2
  clear h1 h2 h3 hc
  have bv5 := hv.ext x5
  clear e2 e3 e4 e5 x1 x2 x3 x4
  go_wp2_with fail
  refine Calls.mono (refHigh _ x 2 (by omega) (by omega)) ?_
  rintro e w6 ⟨h2, rfl, o6, e6⟩
  have hh := IsB.of_owns o6
  go_wp2_with fail
  refine Calls.mono (refBoth _ _ _ l (be x 2) (bc5.ext e6) hh (by rw [be_length]; omega)) ?_
  rintro e w7 ⟨c2, rfl, o7, e7⟩
  have hc2 := IsB.of_owns o7
  have e67 := e6.trans e7
  go_wp2_with fail
  refine Calls.mono (refSame _ _ _ _ _ (b1.ext e67) hc2) ?_
  rintro e w8 ⟨rfl, q8, rfl⟩
  rw [show (l ++ be x 2 == l ++ be x 2) = true from by simp]
  have y8 := e67.drewN q8
  go_wp2_with fail
  refine Calls.mono (refHigh _ x 4 (by omega) (by omega)) ?_
  rintro e w9 ⟨h4, rfl, o9, e9⟩
  have hh4 := IsB.of_owns o9
  have y9 := y8.trans e9
  go_wp2_with fail
  refine Calls.mono (refBoth _ _ _ l (be x 4) (bc5.ext y9) hh4 (by rw [be_length]; omega)) ?_
  rintro e w10 ⟨c4, rfl, o10, e10⟩
  have y10 := y9.trans e10
  have hc4 := IsB.of_owns o10
  go_wp2_with fail
  refine Calls.mono (refSame _ _ _ _ _ (b2.ext y10) hc4) ?_
  rintro e w11 ⟨rfl, q11, rfl⟩
  rw [show (l ++ be x 4 == l ++ be x 4) = true from by simp]
  have y11 := y10.drewN q11
  go_wp2_with fail
  refine Calls.mono (refHigh _ x 8 (by omega) (by omega)) ?_
  rintro e w12 ⟨h8, rfl, o12, e12⟩
  have hh8 := IsB.of_owns o12
  have y12 := y11.trans e12
  go_wp2_with fail
  refine Calls.mono (refBoth _ _ _ l (be x 8) (bc5.ext y12) hh8 (by rw [be_length]; omega)) ?_
  rintro e w13 ⟨c8, rfl, o13, e13⟩
  have y13 := y12.trans e13
  have hc8 := IsB.of_owns o13
  go_wp2_with fail
  refine Calls.mono (refSame _ _ _ _ _ (b3.ext y13) hc8) ?_
  rintro e w14 ⟨rfl, q14, rfl⟩
  rw [show (l ++ be x 8 == l ++ be x 8) = true from by simp]
  have y14 := y13.drewN q14
  go_wp2_with fail
  refine Calls.mono (refSame _ _ _ _ _ (bv5.ext y14) (bc5.ext y14)) ?_
  rintro e w15 ⟨rfl, q15, rfl⟩
  rw [show (l == l) = true from by simp]
  go_wp2
  go_ret
  exact ⟨rfl, (x5.trans y13).drewN _⟩

set_option maxHeartbeats 2000000 in
theorem walkOctetHolds (w : World) (v1 : Value) (l1 : List UInt8) (h1 : IsB w v1 l1) (hb1 : l1.length ≤ 140737488351232) (v2 : Value) (l2 : List UInt8) (h2 : IsB w v2 l2) (hb2 : l2.length ≤ 140737488351232) :
    Calls Try.prog 3 #[v1, v2] w fun e w' => e = .returned (.bool true) ∧ Below w.heap.size w w' := by
  go_enter Try.func3, Try.ntmps3
  go_wp2_with fail
  refine (wakes01 _).mono ?_
  rintro e w1 ⟨rfl, x1⟩
  obtain ⟨ao, cap, rfl, c1, m1, z1, g1⟩ := h1.opened
  have G1 := Lib.hid g1
  clear g1 z1
  go_wp2_with fail
  go_loopg [5, 12] l1.length (fun g s5 s12 wr => ∃ k : Nat, k ≤ l1.length ∧ l1.length - k ≤ g ∧ s12 = .int .i64 k ∧ s5 = .bool ((l1.take k).all (· == 0)) ∧ wr = w1)
  case atStart => exact ⟨0, Nat.zero_le _, by omega, rfl, rfl, rfl⟩
  case round =>
    obtain ⟨k, hk, hg, rfl, rfl, rfl⟩ := hrel
    by_cases hlt : k < l1.length
    · obtain ⟨p, o, rfl, e1⟩ := G1.out k hlt
      have e1 := x1.cell e1
      have hn2 : (l1.take (k + 1)).all (· == 0) = ((l1.take k).all (· == 0) && l1[k] == 0) := by
        rw [List.take_succ_eq_append_getElem hlt, List.all_append]; simp
      generalize (l1.take k).all (· == 0) = b at *
      generalize l1[k] = c at *
      have HN := Lib.hid hn2
      clear hn2
      have hcz : (((c.toNat : Int) == 0) = (c == 0)) := by
        rw [Bool.eq_iff_iff, beq_iff_eq, beq_iff_eq, ← UInt8.toNat_inj]; simp
      cases b
      all_goals
        go_wp2
        go_roundg (l1.length - (k + 1))
        case measure => omega
        case rel =>
          refine ⟨k + 1, by omega, by omega, by go_num, ?_, rfl⟩
          rw [HN.out]
          first | rfl | (simp [hcz]; done)
    · have : k = l1.length := by omega
      subst this
      rw [List.take_length]
      have h1' := h1.ext x1
      have h2' := h2.ext x1
      generalize hz : l1.all (· == 0) = z
      have HZ := Lib.hid hz
      clear hz
      go_wp2_with fail
      refine Calls.mono (octetEqual _ _ _ l1 l2 h1' h2') ?_
      rintro e w2 ⟨rfl, q2⟩
      have x2 := x1.trans (toExt q2)
      clear q2
      go_wp2_with fail
      refine Calls.mono (refSame _ _ _ l1 l2 (h1.ext x2) (h2.ext x2)) ?_
      rintro e w3 ⟨rfl, q3⟩
      have x3 := x2.trans (toExt q3)
      clear q3
      generalize (l1 == l2) = bb
      have o0 : ∀ W : World, (W.alloc (.cells #[] 5)).ownsRow W.heap.size 5 1 (.slice (some ⟨W.heap.size, 0, none⟩) 0 0) 0 [] := fun W => World.ownsRow_made W #[] 0 (Nat.le_refl _) (Nat.zero_le _) rfl
      cases bb
      all_goals
        go_wp2_with (at_builtin; go_must (refine wp_app tyB rfl _ _ rfl _ _ 0 [] (o0 _) (by rfl) _ l1.length (l1.map bc) ((h1.ext x3).ext ((Ext.refl _).alloc _)) (by rfl) (bc_one l1) (by omega) (by omega) (by simp) ?_); intro v4 w4 hown4 hgrow4)
        have x4 := own_base (o0 _) hgrow4 (x3.alloc _) x3.size
        have hv4 : IsB w4 v4 l1 := IsB.of_owns (n := l1.length) (by simpa using hown4)
        go_wp2_with fail
        refine Calls.mono (octetEqual _ _ _ l1 l1 (h1.ext x4) hv4) ?_
        rintro e w5 ⟨rfl, q5⟩
        have x5 := x4.trans (toExt q5)
        clear q5
        rw [show (l1 == l1) = true from by simp]
        go_wp2_with fail
        refine Calls.mono (octetZero _ _ l1 (h1.ext x5) (by omega)) ?_
        rintro e w6 ⟨rfl, rfl⟩
        rw [HZ.out]
        cases z
        all_goals
          go_wp2
          go_ret
          exact ⟨rfl, x5⟩

end Go.Proofs.Ytkaadagffkgkdaa
