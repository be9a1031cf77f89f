/- The walk of the reference's Root. -/
import Derived.Test.YtfnmfnihgocheaaDoorPlT
namespace Go.Proofs.YtfnmfnihgocheaaDoor
open Go.RowKit
set_option linter.unusedVariables false
set_option linter.unusedSimpArgs false

def oneW6 : W6 := ⟨1, 0, 0, 0, 0, 0⟩
theorem u64_sum {r b m : Nat} (h : r + b = m) (hm : m < 18446744073709551616) : IntKind.u64.wrap ((r : Int) + (b : Int)) = (m : Int) := by rw [IntKind.wrap_u64]; omega
theorem u64_half {b c : Nat} (h : c = b / 2) : (b : Int).tdiv 2 = (c : Int) := by rw [Int.tdiv_eq_ediv_of_nonneg (by omega)]; omega
theorem cond3 {p : Nat} {q : W6} (h : q.ok) : condB p 3 q.val = (decide (q.e = 0) && decide (q.f = 0) && decide (q.d < p)) := by
  obtain ⟨h1, h2, h3, h4, h5, h6⟩ := h
  unfold condB
  rw [if_pos rfl]
  by_cases he : q.e = 0 ∧ q.f = 0
  · have e1 : q.val < 340282366920938463463374607431768211456 := by unfold W6.val; omega
    have e2 : q.val / 79228162514264337593543950336 = q.d := by unfold W6.val; omega
    rw [e2, decide_eq_true e1, decide_eq_true he.1, decide_eq_true he.2]
    rfl
  · have e1 : ¬ q.val < 340282366920938463463374607431768211456 := by unfold W6.val; omega
    rw [decide_eq_false e1]
    by_cases h0 : q.e = 0
    · rw [decide_eq_false (show ¬ q.f = 0 from fun h => he ⟨h0, h⟩)]; simp
    · rw [decide_eq_false h0]; simp
theorem cond2 {p : Nat} {q : W6} (h : q.ok) : condB p 2 q.val = (decide (q.e = 0) && decide (q.f = 0) && (decide (q.d = 0) && decide (q.c < p))) := by
  obtain ⟨h1, h2, h3, h4, h5, h6⟩ := h
  unfold condB
  rw [if_neg (by decide)]
  by_cases he : q.e = 0 ∧ q.f = 0 ∧ q.d = 0
  · have e1 : q.val < 79228162514264337593543950336 := by unfold W6.val; omega
    have e2 : q.val / 18446744073709551616 = q.c := by unfold W6.val; omega
    rw [e2, decide_eq_true e1, decide_eq_true he.1, decide_eq_true he.2.1, decide_eq_true he.2.2]
    rfl
  · have e1 : ¬ q.val < 79228162514264337593543950336 := by unfold W6.val; omega
    rw [decide_eq_false e1]
    by_cases h0 : q.e = 0
    · by_cases h1 : q.f = 0
      · rw [decide_eq_false (show ¬ q.d = 0 from fun h => he ⟨h0, h1, h⟩)]; simp
      · rw [decide_eq_false h1]; simp
    · rw [decide_eq_false h0]; simp

set_option maxHeartbeats 8000000 in
set_option maxRecDepth 100000 in
theorem refRoot (w : World) (p k : Nat) (hp : p < 18446744073709551616) (hk : k = 2 ∨ k = 3) :
    Calls Tryd.prog 38 #[.int .u64 (p : Int), .int .i64 (k : Int)] w fun e w' => e = .returned (.int .u32 (rootN p k : Int)) ∧ Ext w w' := by
  obtain ⟨R, hR⟩ : ∃ R, rootN p k = R := ⟨_, rfl⟩
  rw [hR]
  have HN := Lib.hid hR
  clear hR
  go_enter Tryd.func38, Tryd.ntmps38
  go_wp2_with fail
  go_loopg [5, 6] 38 (fun g s5 s6 wr => ∃ (j r b : Nat), j ≤ 38 ∧ 38 - j ≤ g ∧ s5 = .int .u64 (r : Int) ∧ s6 = .int .u64 (b : Int) ∧ r = rootIt p k j ∧ b = bt j ∧ Ext w wr)
  case atStart => exact ⟨0, 0, 137438953472, by omega, by omega, rfl, rfl, rfl, rfl, Ext.refl _⟩
  case round =>
    obtain ⟨j, r, b, hj, hg, rfl, rfl, hr, hb, xr⟩ := hrel
    have hrl := rootIt_le p k j
    have hbl := bt_le j
    by_cases hlt : j < 38
    · have hbp := bt_pos (j := j) (by omega)
      have hnx : rootIt p k (j + 1) = stepR p k (bt j) (rootIt p k j) := rfl
      have hbn := bt_next j
      rw [← hr] at hrl hnx
      rw [← hb] at hbl hbp hnx hbn
      obtain ⟨m, hm⟩ : ∃ m, r + b = m := ⟨_, rfl⟩
      obtain ⟨c, hc⟩ : ∃ c, bt (j + 1) = c := ⟨_, rfl⟩
      rw [hc] at hbn
      have hmb : m < 18446744073709551616 := by omega
      have hw1 := u64_sum hm hmb
      have hw2 := u64_half hbn
      have hw3 := u64_small (r := c) (by omega)
      have hb0 : (0 : Int) < (b : Int) := by omega
      have HM := Lib.hid hm
      have HC := Lib.hid hc
      have HX := Lib.hid hnx
      clear hr hb hm hc hnx hbn hrl hbl
      have bl := heap_alloc_new wr (.cells oneW6.cs 71)
      have xl : Ext w (wr.alloc (.cells oneW6.cs 71)) := xr.alloc _
      have hwH : w.heap.size ≤ wr.heap.size := xr.size
      go_wp2_with fail
      change Code.wp _ _ _ _ (wr.alloc (.cells oneW6.cs 71))
      generalize wr.alloc (.cells oneW6.cs 71) = w0 at *
      generalize wr.heap.size = H at *
      clear xr
      go_loopg [8] k (fun g s8 wq => ∃ (i : Nat) (o : W6), i ≤ k ∧ k - i ≤ g ∧ s8 = .int .i64 (i : Int) ∧ o.ok ∧ o.val = powM m i ∧ wq.heap[H]? = some (.cells o.cs 71 (0, 0)) ∧ Ext w wq)
      case atStart => exact ⟨0, oneW6, by omega, by omega, rfl, ⟨by decide, by decide, by decide, by decide, by decide, by decide⟩, rfl, bl, xl⟩
      case round =>
        clear bl xl
        obtain ⟨i, o, hi, hgi, rfl, ho, hv, bl, xq⟩ := hrel
        by_cases hik : i < k
        · have hik' : (i : Int) < (k : Int) := by omega
          have HV := Lib.hid hv
          clear hv
          go_wp2_with ((with_reducible refine at_load 71 (.tmp 7) ?_); refine wpl_load (by rfl) 71 (.tmp 7) rfl H (by rfl) 71 o.cs (0, 0) _ bl Tryd.underlying71 rfl (info6 o) ?_)
          refine Calls.mono (refTimes _ o ho m hmb) ?_
          rintro ee u ⟨o', rfl, ho', hv', y⟩
          have bl := y.keeps bl
          have HV' := Lib.hid hv'
          clear hv'
          go_wp2_with ((with_reducible refine at_store 71 (.tmp 7) (.tmp 23) ?_); refine wpl_store (by rfl) 71 (.tmp 7) (.tmp 23) rfl H o'.cs (by rfl) (by rfl) 71 _ bl (info6 o') rfl (W6.one o') ?_)
          go_roundg (k - (i + 1))
          case measure => omega
          case rel => exact ⟨i + 1, o', by omega, by omega, by go_num, ho', by rw [HV'.out, HV.out]; rfl, setRow_heap _ _ _ _ _ _ bl, (xq.trans y).grown grown_row (fun k hk => by simp at hk; omega)⟩
        · obtain rfl : i = k := by omega
          have HV := Lib.hid hv
          have HO := Lib.hid ho
          obtain ⟨c0, c1, c2, c3, c4, c5⟩ := c6 bl
          obtain ⟨o0, o1, o2, o3, o4, o5⟩ := o
          simp only at c0 c1 c2 c3 c4 c5
          clear hv ho bl hik
          rcases hk with rfl | rfl
          · skip
            by_cases he : o4 = 0
            · subst he
              by_cases hf : o5 = 0
              · subst hf
                by_cases h3 : o3 = 0
                · subst h3
                  by_cases hd : o2 < p
                  · have hd' : (o2 : Int) < (p : Int) := by omega
                    skip
                    go_wp2_with fail
                    go_roundg (38 - (j + 1))
                    case measure => omega
                    case rel =>
                      refine ⟨j + 1, m, c, by omega, by omega, rfl, rfl, ?_, HC.out.symm, xq⟩
                      rw [HX.out]
                      unfold stepR
                      rw [HM.out, ← HV.out, cond2 HO.out]
                      simp [*]
                  · have hd' : ¬ (o2 : Int) < (p : Int) := by omega
                    skip
                    go_wp2_with fail
                    go_roundg (38 - (j + 1))
                    case measure => omega
                    case rel =>
                      refine ⟨j + 1, r, c, by omega, by omega, rfl, rfl, ?_, HC.out.symm, xq⟩
                      rw [HX.out]
                      unfold stepR
                      rw [HM.out, ← HV.out, cond2 HO.out]
                      simp [*]
                · skip
                  have hz1 : ((o3 : Int) == 0) = false := by simp; omega
                  have hz2 : ¬ (o3 : Int) = 0 := by omega
                  go_wp2_with fail
                  go_roundg (38 - (j + 1))
                  case measure => omega
                  case rel =>
                    refine ⟨j + 1, r, c, by omega, by omega, rfl, rfl, ?_, HC.out.symm, xq⟩
                    rw [HX.out]
                    unfold stepR
                    rw [HM.out, ← HV.out, cond2 HO.out]
                    simp [*]
              · skip
                have hz1 : ((o5 : Int) == 0) = false := by simp; omega
                have hz2 : ¬ (o5 : Int) = 0 := by omega
                go_wp2_with fail
                go_roundg (38 - (j + 1))
                case measure => omega
                case rel =>
                  refine ⟨j + 1, r, c, by omega, by omega, rfl, rfl, ?_, HC.out.symm, xq⟩
                  rw [HX.out]
                  unfold stepR
                  rw [HM.out, ← HV.out, cond2 HO.out]
                  simp [*]
            · skip
              have hz1 : ((o4 : Int) == 0) = false := by simp; omega
              have hz2 : ¬ (o4 : Int) = 0 := by omega
              go_wp2_with fail
              go_roundg (38 - (j + 1))
              case measure => omega
              case rel =>
                refine ⟨j + 1, r, c, by omega, by omega, rfl, rfl, ?_, HC.out.symm, xq⟩
                rw [HX.out]
                unfold stepR
                rw [HM.out, ← HV.out, cond2 HO.out]
                simp [*]
          · skip
            by_cases he : o4 = 0
            · subst he
              by_cases hf : o5 = 0
              · subst hf
                by_cases hd : o3 < p
                · have hd' : (o3 : Int) < (p : Int) := by omega
                  skip
                  go_wp2_with fail
                  go_roundg (38 - (j + 1))
                  case measure => omega
                  case rel =>
                    refine ⟨j + 1, m, c, by omega, by omega, rfl, rfl, ?_, HC.out.symm, xq⟩
                    rw [HX.out]
                    unfold stepR
                    rw [HM.out, ← HV.out, cond3 HO.out]
                    simp [*]
                · have hd' : ¬ (o3 : Int) < (p : Int) := by omega
                  skip
                  go_wp2_with fail
                  go_roundg (38 - (j + 1))
                  case measure => omega
                  case rel =>
                    refine ⟨j + 1, r, c, by omega, by omega, rfl, rfl, ?_, HC.out.symm, xq⟩
                    rw [HX.out]
                    unfold stepR
                    rw [HM.out, ← HV.out, cond3 HO.out]
                    simp [*]
              · skip
                have hz1 : ((o5 : Int) == 0) = false := by simp; omega
                have hz2 : ¬ (o5 : Int) = 0 := by omega
                go_wp2_with fail
                go_roundg (38 - (j + 1))
                case measure => omega
                case rel =>
                  refine ⟨j + 1, r, c, by omega, by omega, rfl, rfl, ?_, HC.out.symm, xq⟩
                  rw [HX.out]
                  unfold stepR
                  rw [HM.out, ← HV.out, cond3 HO.out]
                  simp [*]
            · skip
              have hz1 : ((o4 : Int) == 0) = false := by simp; omega
              have hz2 : ¬ (o4 : Int) = 0 := by omega
              go_wp2_with fail
              go_roundg (38 - (j + 1))
              case measure => omega
              case rel =>
                refine ⟨j + 1, r, c, by omega, by omega, rfl, rfl, ?_, HC.out.symm, xq⟩
                rw [HX.out]
                unfold stepR
                rw [HM.out, ← HV.out, cond3 HO.out]
                simp [*]
    · obtain rfl : j = 38 := by omega
      have hb0 : b = 0 := by rw [hb, bt_end]
      subst hb0
      have hz : r % 4294967296 = R := by rw [← HN.out, hr]; rfl
      have hw1 := u64_mod hz
      have hw2 : IntKind.u32.wrap (R : Int) = (R : Int) := by rw [IntKind.wrap_u32]; omega
      clear hr hb hrl hbl
      have HZ := Lib.hid hz
      clear hz
      go_wp2
      go_ret
      exact ⟨rfl, xr⟩
end Go.Proofs.YtfnmfnihgocheaaDoor
