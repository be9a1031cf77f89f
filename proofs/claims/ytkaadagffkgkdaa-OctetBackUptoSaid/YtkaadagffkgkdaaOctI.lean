/- The walk of the law OctetBack. -/
import Derived.Test.YtkaadagffkgkdaaOctH
namespace Go.Proofs.Ytkaadagffkgkdaa
open Go.RowKit
set_option linter.unusedVariables false

theorem isU_opened {w : World} {v : Value} {l : List Nat} (h : IsSl w v 1 l.length (l.map uc)) :
    ∃ ao cap, v = .slice ao l.length cap ∧ l.length ≤ cap ∧ cap ≤ 9223372036854775807 ∧
      ∀ i (hi : i < l.length), ∃ b off, ao = some ⟨b, off, none⟩ ∧ w.cell? ⟨b, off + i, none⟩ = some (.int .u64 (l[i] : Int)) := by
  obtain ⟨_, ao, cap, e, h2, h3, h4, h5⟩ := h
  refine ⟨ao, cap, e, h2, h3, fun i hi => ?_⟩
  obtain ⟨b, off, e, hc⟩ := h5 i (by simpa using hi)
  exact ⟨b, off, e, by simpa [uc, hi] using hc⟩

/-- How wide the i-th number is put. -/
def width (i : Nat) : Nat := if i % 3 = 0 then 8 else if i % 3 = 1 then 4 else 2
/-- The bytes of the numbers from the i-th on. -/
def encF : Nat → List Nat → List UInt8
  | _, [] => []
  | i, x :: xs => be x (width i) ++ encF (i + 1) xs
theorem encF_snoc (x : Nat) : ∀ (xs : List Nat) (i : Nat), encF i (xs ++ [x]) = encF i xs ++ be x (width (i + xs.length))
  | [], i => by simp [encF]
  | y :: xs, i => by
    simp only [List.cons_append, encF, List.length_cons, List.append_assoc]
    rw [encF_snoc x xs (i + 1), show i + 1 + xs.length = i + (xs.length + 1) from by omega]
theorem width_le (i : Nat) : width i ≤ 8 := by unfold width; split <;> (try split) <;> omega
theorem encF_le : ∀ (xs : List Nat) (i : Nat), (encF i xs).length ≤ 8 * xs.length
  | [], i => by simp [encF]
  | y :: xs, i => by
    have h1 := encF_le xs (i + 1)
    have h2 := width_le i
    simp only [encF, List.length_append, be_length, List.length_cons]
    omega
theorem encF_take (l : List Nat) (k : Nat) (h : k < l.length) : encF 0 (l.take (k + 1)) = encF 0 (l.take k) ++ be l[k] (width k) := by
  rw [List.take_succ_eq_append_getElem h, encF_snoc, List.length_take, Nat.zero_add, Nat.min_eq_left (by omega)]
theorem encF_split (l : List Nat) (k : Nat) (h : k < l.length) : encF 0 l = encF 0 (l.take k) ++ (be l[k] (width k) ++ encF (k + 1) (l.drop (k + 1))) := by
  suffices H : ∀ (l : List Nat) (k i : Nat) (h : k < l.length), encF i l = encF i (l.take k) ++ (be l[k] (width (i + k)) ++ encF (i + k + 1) (l.drop (k + 1))) by
    have := H l k 0 h; simpa using this
  intro l
  induction l with
  | nil => intro k i h; simp at h
  | cons y l ih =>
    intro k i h
    cases k with
    | zero => simp [encF]
    | succ k =>
      have := ih k (i + 1) (by simpa using h)
      simp only [encF, List.take_succ_cons, List.getElem_cons_succ, List.drop_succ_cons, List.append_assoc]
      rw [this, show i + 1 + k = i + (k + 1) from by omega]
theorem num_be (x n : Nat) (hn : n ≤ 8) : num (be x n) = x % 2 ^ (8 * n) := by
  suffices H : ∀ k, k ≤ n → num ((be x n).take k) = x / 2 ^ (8 * (n - k)) % 2 ^ (8 * k) by
    have h := H n (Nat.le_refl _)
    rw [List.take_of_length_le (by rw [be_length]; omega)] at h
    simpa using h
  intro k
  induction k with
  | zero => intro _; simp [num, Nat.mod_one]
  | succ k ih =>
    intro hk
    have hg := be_get x n k (by omega)
    rw [num_take _ k (by rw [be_length]; omega), ih (by omega)]
    rw [List.getElem?_eq_getElem (by rw [be_length]; omega)] at hg
    rw [Option.some.inj hg, UInt8.toNat_ofNat']
    have e1 : n - k = (n - (k + 1)) + 1 := by omega
    have e2 : n - 1 - k = n - (k + 1) := by omega
    rw [e1, e2, show 8 * (n - (k + 1) + 1) = 8 * (n - (k + 1)) + 8 from by omega, Nat.pow_add, ← Nat.div_div_eq_div_mul]
    generalize x / 2 ^ (8 * (n - (k + 1))) = y
    have hp : 2 ^ (8 * (k + 1)) = 256 * 2 ^ (8 * k) := by rw [show 8 * (k + 1) = 8 + 8 * k from by omega, Nat.pow_add]
    have hle : 2 ^ (8 * (k + 1)) ≤ 2 ^ 64 := Nat.pow_le_pow_right (by omega) (by omega)
    rw [hp] at hle ⊢
    rw [Nat.mod_mul]
    have h1 := Nat.mod_lt (y / 256) (show 0 < 2 ^ (8 * k) from Nat.pow_pos (by omega))
    have h2 := Nat.mod_lt y (show 0 < 256 from by omega)
    rw [show (2 : Nat) ^ 8 = 256 from rfl] at *
    generalize y / 256 % 2 ^ (8 * k) = z at *
    generalize 2 ^ (8 * k) = p at *
    rw [Nat.mod_eq_of_lt (by omega)]
    omega
theorem read_at {a b c : List UInt8} {n : Nat} (hb : b.length = n) : rNext (a ++ (b ++ c)) a.length 0 n = ((a ++ b).length, 0) ∧ rTake (a ++ (b ++ c)) a.length 0 n = b := by
  have h := rd_ok (l := a ++ (b ++ c)) (at_ := a.length) (m := n) (by simp; omega)
  rw [h.1, h.2]
  refine ⟨by simp [hb], ?_⟩
  rw [List.drop_left, ← hb, List.take_left]

set_option maxHeartbeats 4000000 in
set_option maxRecDepth 100000 in
theorem walkOctetBack (w : World) (v : Value) (l : List Nat) (hv : IsSl w v 1 l.length (l.map uc)) (hz : ∀ z ∈ l, z < 18446744073709551616) (hb : l.length * 8 ≤ 8388608)
    (v2 : Value) (l2 : List UInt8) (hv2 : IsB w v2 l2) (hb2 : l2.length ≤ 1048576) :
    Calls Try.prog 8 #[v, v2] w fun e w' => e = .returned (.bool true) ∧ Below w.heap.size w w' := by
  obtain ⟨ao, cap, rfl, c1, m1, g1⟩ := isU_opened hv
  obtain ⟨ao2, cap2, rfl, c2, m2, z2, g2⟩ := hv2.opened
  have G1 := Lib.hid g1
  have HZ := Lib.hid hz
  have HV2 := Lib.hid hv2
  clear g1 g2 z2 hv hz hv2
  go_enter Try.func8, Try.ntmps8
  go_wp2_with fail
  refine (wakes01 _).mono ?_
  rintro e w1 ⟨rfl, x1⟩
  go_wp2_with fail
  go_loopg [5, 15] l.length (fun g s5 s15 wr => ∃ k : Nat, k ≤ l.length ∧ l.length - k ≤ g ∧ s15 = .int .i64 k ∧ wr.ownsRow w.heap.size 5 1 s5 (encF 0 (l.take k)).length ((encF 0 (l.take k)).map bc) ∧ Ext w wr)
  case atStart => exact ⟨0, Nat.zero_le _, by omega, rfl, World.ownsRow_nil _ _ _ _, x1⟩
  case round =>
    obtain ⟨k, hk, hg, rfl, hown, xr⟩ := hrel
    by_cases hlt : k < l.length
    · obtain ⟨p, o, rfl, e1⟩ := G1.out k hlt
      have e1 := xr.cell e1
      have hz := HZ.out l[k] (List.getElem_mem hlt)
      have het := encF_take l k hlt
      have hle := encF_le (l.take k) 0
      have hll : (l.take k).length ≤ k := List.length_take_le _ _
      have hbo := IsB.of_owns hown
      generalize encF 0 (l.take k) = t at *
      generalize l[k] = x at *
      have HET := Lib.hid het
      clear het
      rcases (show k % 3 = 0 ∨ k % 3 = 1 ∨ k % 3 = 2 from by omega) with hm | hm | hm
      · have q1 : ((k : Int) % 3 == 0) = true := by rw [beq_iff_eq]; omega
        have hw : width k = 8 := by simp [width, hm]
        have HW := Lib.hid hw
        clear hm hw
        go_wp2_with fail
        refine Calls.mono (octetPut64 _ _ t x hbo (by omega)) ?_
        rintro e w2 ⟨v3, rfl, o3, e3⟩
        go_wp2
        go_roundg (l.length - (k + 1))
        case measure => omega
        case rel =>
          refine ⟨k + 1, by omega, by omega, by go_num, ?_, xr.trans e3⟩
          rw [HET.out, HW.out, List.length_append, be_length]
          exact ownsRow_base o3 xr.size
      · have q1 : ((k : Int) % 3 == 0) = false := by rw [beq_eq_false_iff_ne]; omega
        have q2 : ((k : Int) % 3 == 1) = true := by rw [beq_iff_eq]; omega
        have hw : width k = 4 := by simp [width, hm]
        have HW := Lib.hid hw
        clear hm hw
        go_wp2_with fail
        refine Calls.mono (octetPut32 _ _ t (x % 4294967296) hbo (by omega) (by omega)) ?_
        rintro e w2 ⟨v3, rfl, o3, e3⟩
        rw [show x % 4294967296 = x % 2 ^ (8 * 4) from rfl, be_mod] at o3
        go_wp2
        go_roundg (l.length - (k + 1))
        case measure => omega
        case rel =>
          refine ⟨k + 1, by omega, by omega, by go_num, ?_, xr.trans e3⟩
          rw [HET.out, HW.out, List.length_append, be_length]
          exact ownsRow_base o3 xr.size
      · have q1 : ((k : Int) % 3 == 0) = false := by rw [beq_eq_false_iff_ne]; omega
        have q2 : ((k : Int) % 3 == 1) = false := by rw [beq_eq_false_iff_ne]; omega
        have hw : width k = 2 := by simp [width, hm]
        have HW := Lib.hid hw
        clear hm hw
        go_wp2_with fail
        refine Calls.mono (octetPut16 _ _ t (x % 65536) hbo (by omega) (by omega)) ?_
        rintro e w2 ⟨v3, rfl, o3, e3⟩
        rw [show x % 65536 = x % 2 ^ (8 * 2) from rfl, be_mod] at o3
        go_wp2
        go_roundg (l.length - (k + 1))
        case measure => omega
        case rel =>
          refine ⟨k + 1, by omega, by omega, by go_num, ?_, xr.trans e3⟩
          rw [HET.out, HW.out, List.length_append, be_length]
          exact ownsRow_base o3 xr.size
    · have : k = l.length := by omega
      subst this
      rw [List.take_length] at hown
      have hle := encF_le l 0
      go_wp2_with (at_builtin; go_must (refine wp_app tyB rfl _ _ rfl _ _ _ _ hown (by rfl) _ l2.length (l2.map bc) (HV2.out.ext xr) (by rfl) (bc_one l2) (by omega) (by omega) xr.size ?_); intro v4 w4 hown4 hgrow4)
      have x4 := own_base hown hgrow4 xr (Nat.le_refl _)
      have hv4 : IsB w4 v4 (encF 0 l ++ l2) := IsB.of_owns (n := (encF 0 l).length + l2.length) (by rw [List.map_append]; exact hown4)
      clear hown hown4 hgrow4 hlt hk hg
      go_wp2_with fail
      refine Calls.mono (octetRead _ _ _ hv4 (by simp; omega)) ?_
      rintro e w5 ⟨gr, rfl, hgr, hr, e5⟩
      have x5 := x4.trans e5
      have hgr' : w.heap.size ≤ gr := Nat.le_trans x4.size hgr
      clear e5 hv4 x4 hgr
      go_wp2_with fail
      obtain ⟨wo, rfl⟩ : ∃ wo : World, wo = wr := ⟨_, rfl⟩
      go_loopg [44] l.length (fun g s44 wr => ∃ k : Nat, k ≤ l.length ∧ l.length - k ≤ g ∧ s44 = .int .i64 k ∧ IsRd wr gr (encF 0 l ++ l2) (encF 0 (l.take k)).length 0 ∧ Ext w wr)
      case atStart => exact ⟨0, Nat.zero_le _, by omega, rfl, hr, x5⟩
      case round =>
        obtain ⟨k, hk, hg, rfl, hr1, xr1⟩ := hrel
        by_cases hlt : k < l.length
        · obtain ⟨p, o, rfl, e1⟩ := G1.out k hlt
          have e1 := xr1.cell e1
          have hz := HZ.out l[k] (List.getElem_mem hlt)
          have het := encF_take l k hlt
          have hsp := encF_split l k hlt
          have hra := fun (n : Nat) (hn : (be l[k] (width k)).length = n) => read_at (a := encF 0 (l.take k)) (b := be l[k] (width k)) (c := encF (k + 1) (l.drop (k + 1)) ++ l2) hn
          rw [← List.append_assoc (be _ _), ← List.append_assoc (encF _ _), ← hsp, be_length] at hra
          have hnb := num_be l[k] (width k) (width_le k)
          generalize l[k] = x at *
          have HET := Lib.hid het
          have HRA := Lib.hid hra
          have HNB := Lib.hid hnb
          clear het hra hnb hsp
          rcases (show k % 3 = 0 ∨ k % 3 = 1 ∨ k % 3 = 2 from by omega) with hm | hm | hm
          · have q1 : ((k : Int) % 3 == 0) = true := by rw [beq_iff_eq]; omega
            have hw : width k = 8 := by simp [width, hm]
            have HW := Lib.hid hw
            clear hm hw
            go_wp2_with fail
            refine Calls.mono (octetU64 _ _ _ _ _ hr1) ?_
            rintro e w6 ⟨rfl, hr6, hg6⟩
            have hra := HRA.out 8 HW.out
            simp only [Int.cast_ofNat_Int] at hra
            rw [hra.1] at hr6
            rw [hra.2, HNB.out, HW.out, show x % 2 ^ (8 * 8) = x from Nat.mod_eq_of_lt hz]
            have x6 := xr1.grown hg6 (by intro k hk; simp at hk; omega)
            go_wp2
            go_roundg (l.length - (k + 1))
            case measure => omega
            case rel =>
              refine ⟨k + 1, by omega, by omega, by go_num, ?_, x6⟩
              rw [HET.out]
              exact hr6
          · have q1 : ((k : Int) % 3 == 0) = false := by rw [beq_eq_false_iff_ne]; omega
            have q2 : ((k : Int) % 3 == 1) = true := by rw [beq_iff_eq]; omega
            have hw : width k = 4 := by simp [width, hm]
            have HW := Lib.hid hw
            clear hm hw
            go_wp2_with fail
            refine Calls.mono (octetU32 _ _ _ _ _ hr1) ?_
            rintro e w6 ⟨rfl, hr6, hg6⟩
            have hra := HRA.out 4 HW.out
            simp only [Int.cast_ofNat_Int] at hra
            rw [hra.1] at hr6
            rw [hra.2, HNB.out, HW.out, show ((x % 2 ^ (8 * 4) : Nat) : Int) = (x : Int) % 4294967296 from by omega]
            have x6 := xr1.grown hg6 (by intro k hk; simp at hk; omega)
            have hbo : ((x : Int) % 4294967296 != (x : Int) % 4294967296) = false := by simp
            go_wp2
            go_roundg (l.length - (k + 1))
            case measure => omega
            case rel =>
              refine ⟨k + 1, by omega, by omega, by go_num, ?_, x6⟩
              rw [HET.out]
              exact hr6
          · have q1 : ((k : Int) % 3 == 0) = false := by rw [beq_eq_false_iff_ne]; omega
            have q2 : ((k : Int) % 3 == 1) = false := by rw [beq_eq_false_iff_ne]; omega
            have hw : width k = 2 := by simp [width, hm]
            have HW := Lib.hid hw
            clear hm hw
            go_wp2_with fail
            refine Calls.mono (octetU16 _ _ _ _ _ hr1) ?_
            rintro e w6 ⟨rfl, hr6, hg6⟩
            have hra := HRA.out 2 HW.out
            simp only [Int.cast_ofNat_Int] at hra
            rw [hra.1] at hr6
            rw [hra.2, HNB.out, HW.out, show ((x % 2 ^ (8 * 2) : Nat) : Int) = IntKind.u16.wrap (x : Int) from by rw [IntKind.wrap_u16]; omega]
            have x6 := xr1.grown hg6 (by intro k hk; simp at hk; omega)
            have hbo : (IntKind.u16.wrap (x : Int) != IntKind.u16.wrap (x : Int)) = false := by simp
            go_wp2
            go_roundg (l.length - (k + 1))
            case measure => omega
            case rel =>
              refine ⟨k + 1, by omega, by omega, by go_num, ?_, x6⟩
              rw [HET.out]
              exact hr6
        · have : k = l.length := by omega
          subst this
          rw [List.take_length] at hr1
          have hrd := read_at (a := encF 0 l) (b := l2) (c := []) (n := l2.length) rfl
          rw [List.append_nil] at hrd
          have HRD := Lib.hid hrd
          clear hrd
          go_wp2_with fail
          refine Calls.mono (octetRaw _ _ _ _ _ _ hr1 (by omega)) ?_
          rintro e w6 ⟨v6, rfl, hb6, hr6, hg6⟩
          rw [HRD.out.1] at hr6
          rw [HRD.out.2] at hb6
          have x6 := xr1.grown hg6 (by intro k hk; simp at hk; omega)
          go_wp2_with fail
          refine Calls.mono (octetEqual _ _ _ l2 l2 hb6 (HV2.out.ext x6)) ?_
          rintro e w7 ⟨rfl, q7⟩
          have x7 := x6.trans (toExt q7)
          have hr7 := hr6.ext (toExt q7)
          clear q7
          rw [show (l2 == l2) = true from by simp]
          go_wp2_with fail
          refine Calls.mono (octetLeft _ _ _ _ _ hr7) ?_
          rintro e w8 ⟨rfl, q8⟩
          have x8 := x7.trans (toExt q8)
          have hr8 := hr7.ext (toExt q8)
          clear q8
          rw [show (((encF 0 l ++ l2).length : Int) - ((encF 0 l ++ l2).length : Int)) = 0 from by omega]
          go_wp2_with fail
          refine Calls.mono (octetErr _ _ _ _ _ hr8) ?_
          rintro e w9 ⟨rfl, rfl⟩
          go_wp2
          go_ret
          exact ⟨rfl, x8⟩
end Go.Proofs.Ytkaadagffkgkdaa
