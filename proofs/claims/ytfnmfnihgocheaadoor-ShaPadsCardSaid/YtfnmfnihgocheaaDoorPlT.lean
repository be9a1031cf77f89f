/- The walk of the reference's Times. -/
import Derived.Test.YtfnmfnihgocheaaDoorPlA
namespace Go.Proofs.YtfnmfnihgocheaaDoor
open Go.RowKit
set_option linter.unusedVariables false
set_option linter.unusedSimpArgs false

/-- The value of the first words. -/
def W6.part (q : W6) : Nat → Nat
  | 0 => 0
  | 1 => 0 + q.a * 1
  | 2 => 0 + q.a * 1 + q.b * 4294967296
  | 3 => 0 + q.a * 1 + q.b * 4294967296 + q.c * 18446744073709551616
  | 4 => 0 + q.a * 1 + q.b * 4294967296 + q.c * 18446744073709551616 + q.d * 79228162514264337593543950336
  | 5 => 0 + q.a * 1 + q.b * 4294967296 + q.c * 18446744073709551616 + q.d * 79228162514264337593543950336 + q.e * 340282366920938463463374607431768211456
  | _ => 0 + q.a * 1 + q.b * 4294967296 + q.c * 18446744073709551616 + q.d * 79228162514264337593543950336 + q.e * 340282366920938463463374607431768211456 + q.f * 1461501637330902918203684832716283019655932542976
theorem W6.part6 (q : W6) : q.part 6 = q.val := by unfold W6.val; show 0 + q.a * 1 + q.b * 4294967296 + q.c * 18446744073709551616 + q.d * 79228162514264337593543950336 + q.e * 340282366920938463463374607431768211456 + q.f * 1461501637330902918203684832716283019655932542976 = _; omega
theorem times_step {M B v0 v1 v2 v3 v4 s K u lo hi x P Q : Nat} (h0 : v0 = s % M) (h1 : v1 = (v0 + P % B * K) % M) (h2 : v2 = (v1 + P / B * (K * B)) % M) (h3 : v3 = (v2 + Q % B * (K * B)) % M) (h4 : v4 = (v3 + Q / B * (K * B * B)) % M)
    (hP : u * lo = P) (hQ : u * hi = Q) (hlo : x % B = lo) (hhi : x / B = hi) : v4 = (s + u * K * x) % M := by
  have e1 : P * K = P % B * K + P / B * (K * B) := by
    have := congrArg (· * K) (Nat.mod_add_div P B)
    simp only [Nat.add_mul] at this
    rw [← this]
    congr 1
    ac_rfl
  have e2 : Q * (K * B) = Q % B * (K * B) + Q / B * (K * B * B) := by
    have := congrArg (· * (K * B)) (Nat.mod_add_div Q B)
    simp only [Nat.add_mul] at this
    rw [← this]
    congr 1
    ac_rfl
  have e3 : u * K * x = P * K + Q * (K * B) := by
    rw [← hP, ← hQ, ← hlo, ← hhi]
    have := congrArg (u * K * ·) (Nat.mod_add_div x B)
    simp only [Nat.mul_add] at this
    rw [← this]
    congr 1 <;> ac_rfl
  subst h4 h3 h2 h1 h0
  simp only [Nat.mod_add_mod]
  rw [e3, e1, e2]
  congr 1
  omega
theorem u64_mul {u v P : Nat} (h : u * v = P) (hu : u < 4294967296) (hv : v < 4294967296) : IntKind.u64.wrap ((u : Int) * (v : Int)) = (P : Int) := by
  have hb : P < 4294967296 * 4294967296 := by rw [← h]; exact Nat.mul_lt_mul'' hu hv
  have e : (u : Int) * (v : Int) = (P : Int) := by rw [← h]; exact (Int.natCast_mul u v).symm
  rw [IntKind.wrap_u64, e]
  omega
theorem u64_mod {P r : Nat} (h : P % 4294967296 = r) : (P : Int).tmod 4294967296 = (r : Int) := by rw [Int.tmod_eq_emod_of_nonneg (by omega)]; omega
theorem u64_div {P r : Nat} (h : P / 4294967296 = r) : (P : Int).tdiv 4294967296 = (r : Int) := by rw [Int.tdiv_eq_ediv_of_nonneg (by omega)]; omega
theorem u64_small {r : Nat} (h : r < 18446744073709551616) : IntKind.u64.wrap (r : Int) = (r : Int) := by rw [IntKind.wrap_u64]; omega
theorem zero_val : zW6.val = 0 := rfl
theorem zero_ok : zW6.ok := ⟨by decide, by decide, by decide, by decide, by decide, by decide⟩

theorem row_other {w : World} {g k : Nat} {c : Array Value} {x : Obj} (h : w.heap[k]? = some x) (hn : k ≠ g) : (w.setRow g c).heap[k]? = some x := by
  rw [setRow_other w g k c hn]; exact h

set_option maxHeartbeats 8000000 in
set_option maxRecDepth 100000 in
theorem refTimes (w : World) (q : W6) (hq : q.ok) (x : Nat) (hx : x < 18446744073709551616) :
    Calls Tryd.prog 45 #[.agg q.cs, .int .u64 (x : Int)] w fun e w' => ∃ p : W6, e = .returned (.agg p.cs) ∧ p.ok ∧ p.val = q.val * x % M192 ∧ Ext w w' := by
  have a0 := blk_old (o := .cells zW6.cs 71) (heap_alloc_new w (.cells q.cs 71))
  have a1 := blk_new (w := w.alloc (.cells q.cs 71)) (b := w.heap.size + 1) (o := .cells zW6.cs 71) (by simp)
  have b0 := blk_old (o := .cells zW6.cs 71) a0
  have b1 := blk_old (o := .cells zW6.cs 71) a1
  have b2 := blk_new (w := (w.alloc (.cells q.cs 71)).alloc (.cells zW6.cs 71)) (b := w.heap.size + 1 + 1) (o := .cells zW6.cs 71) (by simp)
  have X0 : Ext w (((w.alloc (.cells q.cs 71)).alloc (.cells zW6.cs 71)).alloc (.cells zW6.cs 71)) := (((Ext.refl w).alloc _).alloc _).alloc _
  clear a0 a1
  obtain ⟨lo, hlo⟩ : ∃ lo, x % 4294967296 = lo := ⟨_, rfl⟩
  obtain ⟨hi, hhi⟩ : ∃ hi, x / 4294967296 = hi := ⟨_, rfl⟩
  have hlob : lo < 4294967296 := by omega
  have hhib : hi < 4294967296 := by omega
  have hw1 := u64_mod hlo
  have hw2 := u64_div hhi
  have hw3 := u64_small (r := hi) (by omega)
  have HLO := Lib.hid hlo
  have HHI := Lib.hid hhi
  clear hlo hhi
  go_enter Tryd.func45, Tryd.ntmps45
  go_wp2_with fail
  change Code.wp _ _ _ _ (((w.alloc (.cells q.cs 71)).alloc (.cells zW6.cs 71)).alloc (.cells zW6.cs 71))
  generalize ((w.alloc (.cells q.cs 71)).alloc (.cells zW6.cs 71)).alloc (.cells zW6.cs 71) = w0 at *
  generalize hG : w.heap.size = G at *
  go_loopg [8] 6 (fun g s8 wr => ∃ (i : Nat) (o : W6), i ≤ 6 ∧ 6 - i ≤ g ∧ s8 = .int .i64 (i : Int) ∧ o.ok ∧ o.val = q.part i * x % M192 ∧ wr.heap[G]? = some (.cells q.cs 71 (0, 0)) ∧ wr.heap[G + 1]? = some (.cells zW6.cs 71 (0, 0)) ∧ wr.heap[G + 1 + 1]? = some (.cells o.cs 71 (0, 0)) ∧ Ext w wr)
  case atStart => exact ⟨0, zW6, by omega, by omega, rfl, zero_ok, by rw [zero_val]; unfold W6.part; simp, b0, b1, b2, X0⟩
  case round =>
    clear b0 b1 b2 X0
    obtain ⟨i, o, hi6, hg, rfl, ho, hv, b0, b1, b2, xr⟩ := hrel
    by_cases h6 : i < 6
    · obtain ⟨c0, c1, c2, c3, c4, c5⟩ := c6 b0
      have HV := Lib.hid hv
      clear hv
      have hi' : i = 0 ∨ i = 1 ∨ i = 2 ∨ i = 3 ∨ i = 4 ∨ i = 5 := by omega
      rcases hi' with rfl | rfl | rfl | rfl | rfl | rfl
      · obtain ⟨P, hP⟩ : ∃ P, q.a * lo = P := ⟨_, rfl⟩
        obtain ⟨Q, hQ⟩ : ∃ Q, q.a * hi = Q := ⟨_, rfl⟩
        have hPm := u64_mul hP hq.a hlob
        have hQm := u64_mul hQ hq.a hhib
        have hPb : P < 4294967296 * 4294967296 := by rw [← hP]; exact Nat.mul_lt_mul'' hq.a hlob
        have hQb : Q < 4294967296 * 4294967296 := by rw [← hQ]; exact Nat.mul_lt_mul'' hq.a hhib
        have HP := Lib.hid hP
        have HQ := Lib.hid hQ
        clear hP hQ
        obtain ⟨p0, hp0⟩ : ∃ r, P % 4294967296 = r := ⟨_, rfl⟩
        obtain ⟨p1, hp1⟩ : ∃ r, P / 4294967296 = r := ⟨_, rfl⟩
        obtain ⟨q0, hq0⟩ : ∃ r, Q % 4294967296 = r := ⟨_, rfl⟩
        obtain ⟨q1, hq1⟩ : ∃ r, Q / 4294967296 = r := ⟨_, rfl⟩
        have hp0b : p0 < 4294967296 := by omega
        have hp1b : p1 < 4294967296 := by omega
        have hq0b : q0 < 4294967296 := by omega
        have hq1b : q1 < 4294967296 := by omega
        have e1 := u64_mod hp0
        have e2 := u64_div hp1
        have e3 := u64_mod hq0
        have e4 := u64_div hq1
        have e5 := u64_small (r := p1) (by omega)
        have e6 := u64_small (r := q1) (by omega)
        have HP0 := Lib.hid hp0
        have HP1 := Lib.hid hp1
        have HQ0 := Lib.hid hq0
        have HQ1 := Lib.hid hq1
        clear hp0 hp1 hq0 hq1 hPb hQb
        go_wp2_with fail
        refine wp_region_ext (by kernel_rfl) fun wd hqd xd hHeld => ?_
        refine wpAnyH_take (i := 0) (v := ?vr00) rfl (by kernel_rfl) (by kernel_rfl) (by kernel_rfl) (fun _ _ _ h => h) (Or.inl ⟨by rfl, ?hyr00⟩) hHeld ?_
        case hyr00 => (intro w hSw; go_simp; try with_reducible rfl)
        simp only [Act.put, List.setIfInBounds_toArray, List.set_cons_zero, List.set_cons_succ, List.getElem_toArray, List.getElem_cons_zero, List.getElem_cons_succ]
        refine wpAnyH_take (i := 1) (v := ?vr01) rfl (by kernel_rfl) (by kernel_rfl) (by kernel_rfl) (fun _ _ _ h => h) (Or.inl ⟨by rfl, ?hyr01⟩) hHeld ?_
        case hyr01 => (intro w hSw; go_simp; try with_reducible rfl)
        simp only [Act.put, List.setIfInBounds_toArray, List.set_cons_zero, List.set_cons_succ, List.getElem_toArray, List.getElem_cons_zero, List.getElem_cons_succ]
        refine wpAnyH_take (i := 2) (v := ?vr02) rfl (by kernel_rfl) (by kernel_rfl) (by kernel_rfl) (fun _ _ _ h => h) (Or.inl ⟨by rfl, ?hyr02⟩) hHeld ?_
        case hyr02 => (intro w hSw; have k := (hSw.cell (xd.cell c0)); go_simp; try with_reducible rfl)
        simp only [Act.put, List.setIfInBounds_toArray, List.set_cons_zero, List.set_cons_succ, List.getElem_toArray, List.getElem_cons_zero, List.getElem_cons_succ]
        refine wpAnyH_take (i := 3) (v := ?vr03) rfl (by kernel_rfl) (by kernel_rfl) (by kernel_rfl) (fun _ _ _ h => h) (Or.inl ⟨by rfl, ?hyr03⟩) hHeld ?_
        case hyr03 => (intro w hSw; go_simp; try with_reducible rfl)
        simp only [Act.put, List.setIfInBounds_toArray, List.set_cons_zero, List.set_cons_succ, List.getElem_toArray, List.getElem_cons_zero, List.getElem_cons_succ]
        refine wpAnyH_take (i := 4) (v := ?vr04) rfl (by kernel_rfl) (by kernel_rfl) (by kernel_rfl) (fun _ _ _ h => h) (Or.inl ⟨by rfl, ?hyr04⟩) hHeld ?_
        case hyr04 => (intro w hSw; have k2 := hPm; go_simp; try with_reducible rfl)
        simp only [Act.put, List.setIfInBounds_toArray, List.set_cons_zero, List.set_cons_succ, List.getElem_toArray, List.getElem_cons_zero, List.getElem_cons_succ]
        refine wpAnyH_take (i := 5) (v := ?vr05) rfl (by kernel_rfl) (by kernel_rfl) (by kernel_rfl) (fun _ _ _ h => h) (Or.inl ⟨by rfl, ?hyr05⟩) hHeld ?_
        case hyr05 => (intro w hSw; go_simp; try with_reducible rfl)
        simp only [Act.put, List.setIfInBounds_toArray, List.set_cons_zero, List.set_cons_succ, List.getElem_toArray, List.getElem_cons_zero, List.getElem_cons_succ]
        refine wpAnyH_take (i := 6) (v := ?vr06) rfl (by kernel_rfl) (by kernel_rfl) (by kernel_rfl) (fun _ _ _ h => h) (Or.inl ⟨by rfl, ?hyr06⟩) hHeld ?_
        case hyr06 => (intro w hSw; go_simp; try with_reducible rfl)
        simp only [Act.put, List.setIfInBounds_toArray, List.set_cons_zero, List.set_cons_succ, List.getElem_toArray, List.getElem_cons_zero, List.getElem_cons_succ]
        refine wpAnyH_take (i := 7) (v := ?vr07) rfl (by kernel_rfl) (by kernel_rfl) (by kernel_rfl) (fun _ _ _ h => h) (Or.inl ⟨by rfl, ?hyr07⟩) hHeld ?_
        case hyr07 => (intro w hSw; have k := (hSw.cell (xd.cell c0)); go_simp; try with_reducible rfl)
        simp only [Act.put, List.setIfInBounds_toArray, List.set_cons_zero, List.set_cons_succ, List.getElem_toArray, List.getElem_cons_zero, List.getElem_cons_succ]
        refine wpAnyH_take (i := 8) (v := ?vr08) rfl (by kernel_rfl) (by kernel_rfl) (by kernel_rfl) (fun _ _ _ h => h) (Or.inl ⟨by rfl, ?hyr08⟩) hHeld ?_
        case hyr08 => (intro w hSw; go_simp; try with_reducible rfl)
        simp only [Act.put, List.setIfInBounds_toArray, List.set_cons_zero, List.set_cons_succ, List.getElem_toArray, List.getElem_cons_zero, List.getElem_cons_succ]
        refine wpAnyH_take (i := 9) (v := ?vr09) rfl (by kernel_rfl) (by kernel_rfl) (by kernel_rfl) (fun _ _ _ h => h) (Or.inl ⟨by rfl, ?hyr09⟩) hHeld ?_
        case hyr09 => (intro w hSw; have k2 := hQm; go_simp; try with_reducible rfl)
        simp only [Act.put, List.setIfInBounds_toArray, List.set_cons_zero, List.set_cons_succ, List.getElem_toArray, List.getElem_cons_zero, List.getElem_cons_succ]
        refine wpAnyH_take (i := 10) (v := ?vr010) rfl (by kernel_rfl) (by kernel_rfl) (by kernel_rfl) (fun _ _ _ h => h) (Or.inl ⟨by rfl, ?hyr010⟩) hHeld ?_
        case hyr010 => (intro w hSw; go_simp; try with_reducible rfl)
        simp only [Act.put, List.setIfInBounds_toArray, List.set_cons_zero, List.set_cons_succ, List.getElem_toArray, List.getElem_cons_zero, List.getElem_cons_succ]
        refine wpAnyH_take (i := 11) (v := ?vr011) rfl (by kernel_rfl) (by kernel_rfl) (by kernel_rfl) (fun _ _ _ h => h) (Or.inl ⟨by rfl, ?hyr011⟩) hHeld ?_
        case hyr011 => (intro w hSw; go_simp; try with_reducible rfl)
        simp only [Act.put, List.setIfInBounds_toArray, List.set_cons_zero, List.set_cons_succ, List.getElem_toArray, List.getElem_cons_zero, List.getElem_cons_succ]
        refine wpAnyH_done (by kernel_rfl) ?_ _
        refine NoPanic.normal ?_
        have b0 := xd.keeps b0
        have b1 := xd.keeps b1
        have b2 := xd.keeps b2
        have xr := xr.trans xd
        clear hHeld c0 c1 c2 c3 c4 c5 hPm hQm
        go_wp2_with ((with_reducible refine at_load 71 (.tmp 7) ?_); refine wpl_load (by rfl) 71 (.tmp 7) rfl (G + 1 + 1) (by rfl) 71 o.cs (0, 0) _ b2 Tryd.underlying71 rfl (info6 o) ?_)
        refine Calls.mono (refPlus _ o ho 0 (by omega) p0 hp0b) ?_
        rintro ee u1 ⟨o1, rfl, ho1, hv1, y1⟩
        have b0 := y1.keeps b0
        have b1 := y1.keeps b1
        have b2 := y1.keeps b2
        have xr := xr.trans y1
        have HV1 := Lib.hid hv1
        clear hv1
        go_wp2_with (first
          | ((with_reducible refine at_store 71 (.tmp 7) (.tmp 33) ?_); refine wpl_store (by rfl) 71 (.tmp 7) (.tmp 33) rfl (G + 1 + 1) o1.cs (by rfl) (by rfl) 71 _ b2 (info6 o1) rfl (W6.one o1) ?_; have b0 := row_other (c := o1.cs) b0 (show G ≠ G + 1 + 1 by omega); have b1 := row_other (c := o1.cs) b1 (show G + 1 ≠ G + 1 + 1 by omega); have xr := xr.grown (grown_row (g := G + 1 + 1) (c := o1.cs)) (fun k hk => by simp at hk; omega); have b2 : (u1.setRow (G + 1 + 1) o1.cs).heap[G + 1 + 1]? = some (.cells o1.cs 71 (0, 0)) := setRow_heap _ _ _ _ _ _ b2; generalize u1.setRow (G + 1 + 1) o1.cs = v1 at *)
          | ((with_reducible refine at_load 71 (.tmp 7) ?_); refine wpl_load (by rfl) 71 (.tmp 7) rfl (G + 1 + 1) (by rfl) 71 o1.cs (0, 0) _ b2 Tryd.underlying71 rfl (info6 o1) ?_))
        refine Calls.mono (refPlus _ o1 ho1 1 (by omega) p1 hp1b) ?_
        rintro ee u2 ⟨o2, rfl, ho2, hv2, y2⟩
        have b0 := y2.keeps b0
        have b1 := y2.keeps b1
        have b2 := y2.keeps b2
        have xr := xr.trans y2
        have HV2 := Lib.hid hv2
        clear hv2
        go_wp2_with (first
          | ((with_reducible refine at_store 71 (.tmp 7) (.tmp 39) ?_); refine wpl_store (by rfl) 71 (.tmp 7) (.tmp 39) rfl (G + 1 + 1) o2.cs (by rfl) (by rfl) 71 _ b2 (info6 o2) rfl (W6.one o2) ?_; have b0 := row_other (c := o2.cs) b0 (show G ≠ G + 1 + 1 by omega); have b1 := row_other (c := o2.cs) b1 (show G + 1 ≠ G + 1 + 1 by omega); have xr := xr.grown (grown_row (g := G + 1 + 1) (c := o2.cs)) (fun k hk => by simp at hk; omega); have b2 : (u2.setRow (G + 1 + 1) o2.cs).heap[G + 1 + 1]? = some (.cells o2.cs 71 (0, 0)) := setRow_heap _ _ _ _ _ _ b2; generalize u2.setRow (G + 1 + 1) o2.cs = v2 at *)
          | ((with_reducible refine at_load 71 (.tmp 7) ?_); refine wpl_load (by rfl) 71 (.tmp 7) rfl (G + 1 + 1) (by rfl) 71 o2.cs (0, 0) _ b2 Tryd.underlying71 rfl (info6 o2) ?_))
        refine Calls.mono (refPlus _ o2 ho2 1 (by omega) q0 hq0b) ?_
        rintro ee u3 ⟨o3, rfl, ho3, hv3, y3⟩
        have b0 := y3.keeps b0
        have b1 := y3.keeps b1
        have b2 := y3.keeps b2
        have xr := xr.trans y3
        have HV3 := Lib.hid hv3
        clear hv3
        go_wp2_with (first
          | ((with_reducible refine at_store 71 (.tmp 7) (.tmp 45) ?_); refine wpl_store (by rfl) 71 (.tmp 7) (.tmp 45) rfl (G + 1 + 1) o3.cs (by rfl) (by rfl) 71 _ b2 (info6 o3) rfl (W6.one o3) ?_; have b0 := row_other (c := o3.cs) b0 (show G ≠ G + 1 + 1 by omega); have b1 := row_other (c := o3.cs) b1 (show G + 1 ≠ G + 1 + 1 by omega); have xr := xr.grown (grown_row (g := G + 1 + 1) (c := o3.cs)) (fun k hk => by simp at hk; omega); have b2 : (u3.setRow (G + 1 + 1) o3.cs).heap[G + 1 + 1]? = some (.cells o3.cs 71 (0, 0)) := setRow_heap _ _ _ _ _ _ b2; generalize u3.setRow (G + 1 + 1) o3.cs = v3 at *)
          | ((with_reducible refine at_load 71 (.tmp 7) ?_); refine wpl_load (by rfl) 71 (.tmp 7) rfl (G + 1 + 1) (by rfl) 71 o3.cs (0, 0) _ b2 Tryd.underlying71 rfl (info6 o3) ?_))
        refine Calls.mono (refPlus _ o3 ho3 2 (by omega) q1 hq1b) ?_
        rintro ee u4 ⟨o4, rfl, ho4, hv4, y4⟩
        have b0 := y4.keeps b0
        have b1 := y4.keeps b1
        have b2 := y4.keeps b2
        have xr := xr.trans y4
        have HV4 := Lib.hid hv4
        clear hv4
        go_wp2_with ((with_reducible refine at_store 71 (.tmp 7) (.tmp 51) ?_); refine wpl_store (by rfl) 71 (.tmp 7) (.tmp 51) rfl (G + 1 + 1) o4.cs (by rfl) (by rfl) 71 _ b2 (info6 o4) rfl (W6.one o4) ?_; have b0 := row_other (c := o4.cs) b0 (show G ≠ G + 1 + 1 by omega); have b1 := row_other (c := o4.cs) b1 (show G + 1 ≠ G + 1 + 1 by omega); have xr := xr.grown (grown_row (g := G + 1 + 1) (c := o4.cs)) (fun k hk => by simp at hk; omega); have b2 : (u4.setRow (G + 1 + 1) o4.cs).heap[G + 1 + 1]? = some (.cells o4.cs 71 (0, 0)) := setRow_heap _ _ _ _ _ _ b2)
        go_roundg (6 - (0 + 1))
        case measure => omega
        case rel =>
          have g1 := HV1.out
          have g2 := HV2.out
          have g3 := HV3.out
          have g4 := HV4.out
          rw [show (2 : Nat) ^ (32 * 0) = 1 from rfl, ← HP0.out] at g1
          rw [show (2 : Nat) ^ (32 * 1) = 1 * 4294967296 from rfl, ← HP1.out] at g2
          rw [show (2 : Nat) ^ (32 * 1) = 1 * 4294967296 from rfl, ← HQ0.out] at g3
          rw [show (2 : Nat) ^ (32 * 2) = 1 * 4294967296 * 4294967296 from rfl, ← HQ1.out] at g4
          refine ⟨0 + 1, o4, by omega, by omega, by go_num, ho4, ?_, b0, b1, b2, xr⟩
          rw [times_step HV.out g1 g2 g3 g4 HP.out HQ.out HLO.out HHI.out, ← Nat.add_mul]
          rfl
      · obtain ⟨P, hP⟩ : ∃ P, q.b * lo = P := ⟨_, rfl⟩
        obtain ⟨Q, hQ⟩ : ∃ Q, q.b * hi = Q := ⟨_, rfl⟩
        have hPm := u64_mul hP hq.b hlob
        have hQm := u64_mul hQ hq.b hhib
        have hPb : P < 4294967296 * 4294967296 := by rw [← hP]; exact Nat.mul_lt_mul'' hq.b hlob
        have hQb : Q < 4294967296 * 4294967296 := by rw [← hQ]; exact Nat.mul_lt_mul'' hq.b hhib
        have HP := Lib.hid hP
        have HQ := Lib.hid hQ
        clear hP hQ
        obtain ⟨p0, hp0⟩ : ∃ r, P % 4294967296 = r := ⟨_, rfl⟩
        obtain ⟨p1, hp1⟩ : ∃ r, P / 4294967296 = r := ⟨_, rfl⟩
        obtain ⟨q0, hq0⟩ : ∃ r, Q % 4294967296 = r := ⟨_, rfl⟩
        obtain ⟨q1, hq1⟩ : ∃ r, Q / 4294967296 = r := ⟨_, rfl⟩
        have hp0b : p0 < 4294967296 := by omega
        have hp1b : p1 < 4294967296 := by omega
        have hq0b : q0 < 4294967296 := by omega
        have hq1b : q1 < 4294967296 := by omega
        have e1 := u64_mod hp0
        have e2 := u64_div hp1
        have e3 := u64_mod hq0
        have e4 := u64_div hq1
        have e5 := u64_small (r := p1) (by omega)
        have e6 := u64_small (r := q1) (by omega)
        have HP0 := Lib.hid hp0
        have HP1 := Lib.hid hp1
        have HQ0 := Lib.hid hq0
        have HQ1 := Lib.hid hq1
        clear hp0 hp1 hq0 hq1 hPb hQb
        go_wp2_with fail
        refine wp_region_ext (by kernel_rfl) fun wd hqd xd hHeld => ?_
        refine wpAnyH_take (i := 0) (v := ?vr10) rfl (by kernel_rfl) (by kernel_rfl) (by kernel_rfl) (fun _ _ _ h => h) (Or.inl ⟨by rfl, ?hyr10⟩) hHeld ?_
        case hyr10 => (intro w hSw; go_simp; try with_reducible rfl)
        simp only [Act.put, List.setIfInBounds_toArray, List.set_cons_zero, List.set_cons_succ, List.getElem_toArray, List.getElem_cons_zero, List.getElem_cons_succ]
        refine wpAnyH_take (i := 1) (v := ?vr11) rfl (by kernel_rfl) (by kernel_rfl) (by kernel_rfl) (fun _ _ _ h => h) (Or.inl ⟨by rfl, ?hyr11⟩) hHeld ?_
        case hyr11 => (intro w hSw; go_simp; try with_reducible rfl)
        simp only [Act.put, List.setIfInBounds_toArray, List.set_cons_zero, List.set_cons_succ, List.getElem_toArray, List.getElem_cons_zero, List.getElem_cons_succ]
        refine wpAnyH_take (i := 2) (v := ?vr12) rfl (by kernel_rfl) (by kernel_rfl) (by kernel_rfl) (fun _ _ _ h => h) (Or.inl ⟨by rfl, ?hyr12⟩) hHeld ?_
        case hyr12 => (intro w hSw; have k := (hSw.cell (xd.cell c1)); go_simp; try with_reducible rfl)
        simp only [Act.put, List.setIfInBounds_toArray, List.set_cons_zero, List.set_cons_succ, List.getElem_toArray, List.getElem_cons_zero, List.getElem_cons_succ]
        refine wpAnyH_take (i := 3) (v := ?vr13) rfl (by kernel_rfl) (by kernel_rfl) (by kernel_rfl) (fun _ _ _ h => h) (Or.inl ⟨by rfl, ?hyr13⟩) hHeld ?_
        case hyr13 => (intro w hSw; go_simp; try with_reducible rfl)
        simp only [Act.put, List.setIfInBounds_toArray, List.set_cons_zero, List.set_cons_succ, List.getElem_toArray, List.getElem_cons_zero, List.getElem_cons_succ]
        refine wpAnyH_take (i := 4) (v := ?vr14) rfl (by kernel_rfl) (by kernel_rfl) (by kernel_rfl) (fun _ _ _ h => h) (Or.inl ⟨by rfl, ?hyr14⟩) hHeld ?_
        case hyr14 => (intro w hSw; have k2 := hPm; go_simp; try with_reducible rfl)
        simp only [Act.put, List.setIfInBounds_toArray, List.set_cons_zero, List.set_cons_succ, List.getElem_toArray, List.getElem_cons_zero, List.getElem_cons_succ]
        refine wpAnyH_take (i := 5) (v := ?vr15) rfl (by kernel_rfl) (by kernel_rfl) (by kernel_rfl) (fun _ _ _ h => h) (Or.inl ⟨by rfl, ?hyr15⟩) hHeld ?_
        case hyr15 => (intro w hSw; go_simp; try with_reducible rfl)
        simp only [Act.put, List.setIfInBounds_toArray, List.set_cons_zero, List.set_cons_succ, List.getElem_toArray, List.getElem_cons_zero, List.getElem_cons_succ]
        refine wpAnyH_take (i := 6) (v := ?vr16) rfl (by kernel_rfl) (by kernel_rfl) (by kernel_rfl) (fun _ _ _ h => h) (Or.inl ⟨by rfl, ?hyr16⟩) hHeld ?_
        case hyr16 => (intro w hSw; go_simp; try with_reducible rfl)
        simp only [Act.put, List.setIfInBounds_toArray, List.set_cons_zero, List.set_cons_succ, List.getElem_toArray, List.getElem_cons_zero, List.getElem_cons_succ]
        refine wpAnyH_take (i := 7) (v := ?vr17) rfl (by kernel_rfl) (by kernel_rfl) (by kernel_rfl) (fun _ _ _ h => h) (Or.inl ⟨by rfl, ?hyr17⟩) hHeld ?_
        case hyr17 => (intro w hSw; have k := (hSw.cell (xd.cell c1)); go_simp; try with_reducible rfl)
        simp only [Act.put, List.setIfInBounds_toArray, List.set_cons_zero, List.set_cons_succ, List.getElem_toArray, List.getElem_cons_zero, List.getElem_cons_succ]
        refine wpAnyH_take (i := 8) (v := ?vr18) rfl (by kernel_rfl) (by kernel_rfl) (by kernel_rfl) (fun _ _ _ h => h) (Or.inl ⟨by rfl, ?hyr18⟩) hHeld ?_
        case hyr18 => (intro w hSw; go_simp; try with_reducible rfl)
        simp only [Act.put, List.setIfInBounds_toArray, List.set_cons_zero, List.set_cons_succ, List.getElem_toArray, List.getElem_cons_zero, List.getElem_cons_succ]
        refine wpAnyH_take (i := 9) (v := ?vr19) rfl (by kernel_rfl) (by kernel_rfl) (by kernel_rfl) (fun _ _ _ h => h) (Or.inl ⟨by rfl, ?hyr19⟩) hHeld ?_
        case hyr19 => (intro w hSw; have k2 := hQm; go_simp; try with_reducible rfl)
        simp only [Act.put, List.setIfInBounds_toArray, List.set_cons_zero, List.set_cons_succ, List.getElem_toArray, List.getElem_cons_zero, List.getElem_cons_succ]
        refine wpAnyH_take (i := 10) (v := ?vr110) rfl (by kernel_rfl) (by kernel_rfl) (by kernel_rfl) (fun _ _ _ h => h) (Or.inl ⟨by rfl, ?hyr110⟩) hHeld ?_
        case hyr110 => (intro w hSw; go_simp; try with_reducible rfl)
        simp only [Act.put, List.setIfInBounds_toArray, List.set_cons_zero, List.set_cons_succ, List.getElem_toArray, List.getElem_cons_zero, List.getElem_cons_succ]
        refine wpAnyH_take (i := 11) (v := ?vr111) rfl (by kernel_rfl) (by kernel_rfl) (by kernel_rfl) (fun _ _ _ h => h) (Or.inl ⟨by rfl, ?hyr111⟩) hHeld ?_
        case hyr111 => (intro w hSw; go_simp; try with_reducible rfl)
        simp only [Act.put, List.setIfInBounds_toArray, List.set_cons_zero, List.set_cons_succ, List.getElem_toArray, List.getElem_cons_zero, List.getElem_cons_succ]
        refine wpAnyH_done (by kernel_rfl) ?_ _
        refine NoPanic.normal ?_
        have b0 := xd.keeps b0
        have b1 := xd.keeps b1
        have b2 := xd.keeps b2
        have xr := xr.trans xd
        clear hHeld c0 c1 c2 c3 c4 c5 hPm hQm
        go_wp2_with ((with_reducible refine at_load 71 (.tmp 7) ?_); refine wpl_load (by rfl) 71 (.tmp 7) rfl (G + 1 + 1) (by rfl) 71 o.cs (0, 0) _ b2 Tryd.underlying71 rfl (info6 o) ?_)
        refine Calls.mono (refPlus _ o ho 1 (by omega) p0 hp0b) ?_
        rintro ee u1 ⟨o1, rfl, ho1, hv1, y1⟩
        have b0 := y1.keeps b0
        have b1 := y1.keeps b1
        have b2 := y1.keeps b2
        have xr := xr.trans y1
        have HV1 := Lib.hid hv1
        clear hv1
        go_wp2_with (first
          | ((with_reducible refine at_store 71 (.tmp 7) (.tmp 33) ?_); refine wpl_store (by rfl) 71 (.tmp 7) (.tmp 33) rfl (G + 1 + 1) o1.cs (by rfl) (by rfl) 71 _ b2 (info6 o1) rfl (W6.one o1) ?_; have b0 := row_other (c := o1.cs) b0 (show G ≠ G + 1 + 1 by omega); have b1 := row_other (c := o1.cs) b1 (show G + 1 ≠ G + 1 + 1 by omega); have xr := xr.grown (grown_row (g := G + 1 + 1) (c := o1.cs)) (fun k hk => by simp at hk; omega); have b2 : (u1.setRow (G + 1 + 1) o1.cs).heap[G + 1 + 1]? = some (.cells o1.cs 71 (0, 0)) := setRow_heap _ _ _ _ _ _ b2; generalize u1.setRow (G + 1 + 1) o1.cs = v1 at *)
          | ((with_reducible refine at_load 71 (.tmp 7) ?_); refine wpl_load (by rfl) 71 (.tmp 7) rfl (G + 1 + 1) (by rfl) 71 o1.cs (0, 0) _ b2 Tryd.underlying71 rfl (info6 o1) ?_))
        refine Calls.mono (refPlus _ o1 ho1 2 (by omega) p1 hp1b) ?_
        rintro ee u2 ⟨o2, rfl, ho2, hv2, y2⟩
        have b0 := y2.keeps b0
        have b1 := y2.keeps b1
        have b2 := y2.keeps b2
        have xr := xr.trans y2
        have HV2 := Lib.hid hv2
        clear hv2
        go_wp2_with (first
          | ((with_reducible refine at_store 71 (.tmp 7) (.tmp 39) ?_); refine wpl_store (by rfl) 71 (.tmp 7) (.tmp 39) rfl (G + 1 + 1) o2.cs (by rfl) (by rfl) 71 _ b2 (info6 o2) rfl (W6.one o2) ?_; have b0 := row_other (c := o2.cs) b0 (show G ≠ G + 1 + 1 by omega); have b1 := row_other (c := o2.cs) b1 (show G + 1 ≠ G + 1 + 1 by omega); have xr := xr.grown (grown_row (g := G + 1 + 1) (c := o2.cs)) (fun k hk => by simp at hk; omega); have b2 : (u2.setRow (G + 1 + 1) o2.cs).heap[G + 1 + 1]? = some (.cells o2.cs 71 (0, 0)) := setRow_heap _ _ _ _ _ _ b2; generalize u2.setRow (G + 1 + 1) o2.cs = v2 at *)
          | ((with_reducible refine at_load 71 (.tmp 7) ?_); refine wpl_load (by rfl) 71 (.tmp 7) rfl (G + 1 + 1) (by rfl) 71 o2.cs (0, 0) _ b2 Tryd.underlying71 rfl (info6 o2) ?_))
        refine Calls.mono (refPlus _ o2 ho2 2 (by omega) q0 hq0b) ?_
        rintro ee u3 ⟨o3, rfl, ho3, hv3, y3⟩
        have b0 := y3.keeps b0
        have b1 := y3.keeps b1
        have b2 := y3.keeps b2
        have xr := xr.trans y3
        have HV3 := Lib.hid hv3
        clear hv3
        go_wp2_with (first
          | ((with_reducible refine at_store 71 (.tmp 7) (.tmp 45) ?_); refine wpl_store (by rfl) 71 (.tmp 7) (.tmp 45) rfl (G + 1 + 1) o3.cs (by rfl) (by rfl) 71 _ b2 (info6 o3) rfl (W6.one o3) ?_; have b0 := row_other (c := o3.cs) b0 (show G ≠ G + 1 + 1 by omega); have b1 := row_other (c := o3.cs) b1 (show G + 1 ≠ G + 1 + 1 by omega); have xr := xr.grown (grown_row (g := G + 1 + 1) (c := o3.cs)) (fun k hk => by simp at hk; omega); have b2 : (u3.setRow (G + 1 + 1) o3.cs).heap[G + 1 + 1]? = some (.cells o3.cs 71 (0, 0)) := setRow_heap _ _ _ _ _ _ b2; generalize u3.setRow (G + 1 + 1) o3.cs = v3 at *)
          | ((with_reducible refine at_load 71 (.tmp 7) ?_); refine wpl_load (by rfl) 71 (.tmp 7) rfl (G + 1 + 1) (by rfl) 71 o3.cs (0, 0) _ b2 Tryd.underlying71 rfl (info6 o3) ?_))
        refine Calls.mono (refPlus _ o3 ho3 3 (by omega) q1 hq1b) ?_
        rintro ee u4 ⟨o4, rfl, ho4, hv4, y4⟩
        have b0 := y4.keeps b0
        have b1 := y4.keeps b1
        have b2 := y4.keeps b2
        have xr := xr.trans y4
        have HV4 := Lib.hid hv4
        clear hv4
        go_wp2_with ((with_reducible refine at_store 71 (.tmp 7) (.tmp 51) ?_); refine wpl_store (by rfl) 71 (.tmp 7) (.tmp 51) rfl (G + 1 + 1) o4.cs (by rfl) (by rfl) 71 _ b2 (info6 o4) rfl (W6.one o4) ?_; have b0 := row_other (c := o4.cs) b0 (show G ≠ G + 1 + 1 by omega); have b1 := row_other (c := o4.cs) b1 (show G + 1 ≠ G + 1 + 1 by omega); have xr := xr.grown (grown_row (g := G + 1 + 1) (c := o4.cs)) (fun k hk => by simp at hk; omega); have b2 : (u4.setRow (G + 1 + 1) o4.cs).heap[G + 1 + 1]? = some (.cells o4.cs 71 (0, 0)) := setRow_heap _ _ _ _ _ _ b2)
        go_roundg (6 - (1 + 1))
        case measure => omega
        case rel =>
          have g1 := HV1.out
          have g2 := HV2.out
          have g3 := HV3.out
          have g4 := HV4.out
          rw [show (2 : Nat) ^ (32 * 1) = 4294967296 from rfl, ← HP0.out] at g1
          rw [show (2 : Nat) ^ (32 * 2) = 4294967296 * 4294967296 from rfl, ← HP1.out] at g2
          rw [show (2 : Nat) ^ (32 * 2) = 4294967296 * 4294967296 from rfl, ← HQ0.out] at g3
          rw [show (2 : Nat) ^ (32 * 3) = 4294967296 * 4294967296 * 4294967296 from rfl, ← HQ1.out] at g4
          refine ⟨1 + 1, o4, by omega, by omega, by go_num, ho4, ?_, b0, b1, b2, xr⟩
          rw [times_step HV.out g1 g2 g3 g4 HP.out HQ.out HLO.out HHI.out, ← Nat.add_mul]
          rfl
      · obtain ⟨P, hP⟩ : ∃ P, q.c * lo = P := ⟨_, rfl⟩
        obtain ⟨Q, hQ⟩ : ∃ Q, q.c * hi = Q := ⟨_, rfl⟩
        have hPm := u64_mul hP hq.c hlob
        have hQm := u64_mul hQ hq.c hhib
        have hPb : P < 4294967296 * 4294967296 := by rw [← hP]; exact Nat.mul_lt_mul'' hq.c hlob
        have hQb : Q < 4294967296 * 4294967296 := by rw [← hQ]; exact Nat.mul_lt_mul'' hq.c hhib
        have HP := Lib.hid hP
        have HQ := Lib.hid hQ
        clear hP hQ
        obtain ⟨p0, hp0⟩ : ∃ r, P % 4294967296 = r := ⟨_, rfl⟩
        obtain ⟨p1, hp1⟩ : ∃ r, P / 4294967296 = r := ⟨_, rfl⟩
        obtain ⟨q0, hq0⟩ : ∃ r, Q % 4294967296 = r := ⟨_, rfl⟩
        obtain ⟨q1, hq1⟩ : ∃ r, Q / 4294967296 = r := ⟨_, rfl⟩
        have hp0b : p0 < 4294967296 := by omega
        have hp1b : p1 < 4294967296 := by omega
        have hq0b : q0 < 4294967296 := by omega
        have hq1b : q1 < 4294967296 := by omega
        have e1 := u64_mod hp0
        have e2 := u64_div hp1
        have e3 := u64_mod hq0
        have e4 := u64_div hq1
        have e5 := u64_small (r := p1) (by omega)
        have e6 := u64_small (r := q1) (by omega)
        have HP0 := Lib.hid hp0
        have HP1 := Lib.hid hp1
        have HQ0 := Lib.hid hq0
        have HQ1 := Lib.hid hq1
        clear hp0 hp1 hq0 hq1 hPb hQb
        go_wp2_with fail
        refine wp_region_ext (by kernel_rfl) fun wd hqd xd hHeld => ?_
        refine wpAnyH_take (i := 0) (v := ?vr20) rfl (by kernel_rfl) (by kernel_rfl) (by kernel_rfl) (fun _ _ _ h => h) (Or.inl ⟨by rfl, ?hyr20⟩) hHeld ?_
        case hyr20 => (intro w hSw; go_simp; try with_reducible rfl)
        simp only [Act.put, List.setIfInBounds_toArray, List.set_cons_zero, List.set_cons_succ, List.getElem_toArray, List.getElem_cons_zero, List.getElem_cons_succ]
        refine wpAnyH_take (i := 1) (v := ?vr21) rfl (by kernel_rfl) (by kernel_rfl) (by kernel_rfl) (fun _ _ _ h => h) (Or.inl ⟨by rfl, ?hyr21⟩) hHeld ?_
        case hyr21 => (intro w hSw; go_simp; try with_reducible rfl)
        simp only [Act.put, List.setIfInBounds_toArray, List.set_cons_zero, List.set_cons_succ, List.getElem_toArray, List.getElem_cons_zero, List.getElem_cons_succ]
        refine wpAnyH_take (i := 2) (v := ?vr22) rfl (by kernel_rfl) (by kernel_rfl) (by kernel_rfl) (fun _ _ _ h => h) (Or.inl ⟨by rfl, ?hyr22⟩) hHeld ?_
        case hyr22 => (intro w hSw; have k := (hSw.cell (xd.cell c2)); go_simp; try with_reducible rfl)
        simp only [Act.put, List.setIfInBounds_toArray, List.set_cons_zero, List.set_cons_succ, List.getElem_toArray, List.getElem_cons_zero, List.getElem_cons_succ]
        refine wpAnyH_take (i := 3) (v := ?vr23) rfl (by kernel_rfl) (by kernel_rfl) (by kernel_rfl) (fun _ _ _ h => h) (Or.inl ⟨by rfl, ?hyr23⟩) hHeld ?_
        case hyr23 => (intro w hSw; go_simp; try with_reducible rfl)
        simp only [Act.put, List.setIfInBounds_toArray, List.set_cons_zero, List.set_cons_succ, List.getElem_toArray, List.getElem_cons_zero, List.getElem_cons_succ]
        refine wpAnyH_take (i := 4) (v := ?vr24) rfl (by kernel_rfl) (by kernel_rfl) (by kernel_rfl) (fun _ _ _ h => h) (Or.inl ⟨by rfl, ?hyr24⟩) hHeld ?_
        case hyr24 => (intro w hSw; have k2 := hPm; go_simp; try with_reducible rfl)
        simp only [Act.put, List.setIfInBounds_toArray, List.set_cons_zero, List.set_cons_succ, List.getElem_toArray, List.getElem_cons_zero, List.getElem_cons_succ]
        refine wpAnyH_take (i := 5) (v := ?vr25) rfl (by kernel_rfl) (by kernel_rfl) (by kernel_rfl) (fun _ _ _ h => h) (Or.inl ⟨by rfl, ?hyr25⟩) hHeld ?_
        case hyr25 => (intro w hSw; go_simp; try with_reducible rfl)
        simp only [Act.put, List.setIfInBounds_toArray, List.set_cons_zero, List.set_cons_succ, List.getElem_toArray, List.getElem_cons_zero, List.getElem_cons_succ]
        refine wpAnyH_take (i := 6) (v := ?vr26) rfl (by kernel_rfl) (by kernel_rfl) (by kernel_rfl) (fun _ _ _ h => h) (Or.inl ⟨by rfl, ?hyr26⟩) hHeld ?_
        case hyr26 => (intro w hSw; go_simp; try with_reducible rfl)
        simp only [Act.put, List.setIfInBounds_toArray, List.set_cons_zero, List.set_cons_succ, List.getElem_toArray, List.getElem_cons_zero, List.getElem_cons_succ]
        refine wpAnyH_take (i := 7) (v := ?vr27) rfl (by kernel_rfl) (by kernel_rfl) (by kernel_rfl) (fun _ _ _ h => h) (Or.inl ⟨by rfl, ?hyr27⟩) hHeld ?_
        case hyr27 => (intro w hSw; have k := (hSw.cell (xd.cell c2)); go_simp; try with_reducible rfl)
        simp only [Act.put, List.setIfInBounds_toArray, List.set_cons_zero, List.set_cons_succ, List.getElem_toArray, List.getElem_cons_zero, List.getElem_cons_succ]
        refine wpAnyH_take (i := 8) (v := ?vr28) rfl (by kernel_rfl) (by kernel_rfl) (by kernel_rfl) (fun _ _ _ h => h) (Or.inl ⟨by rfl, ?hyr28⟩) hHeld ?_
        case hyr28 => (intro w hSw; go_simp; try with_reducible rfl)
        simp only [Act.put, List.setIfInBounds_toArray, List.set_cons_zero, List.set_cons_succ, List.getElem_toArray, List.getElem_cons_zero, List.getElem_cons_succ]
        refine wpAnyH_take (i := 9) (v := ?vr29) rfl (by kernel_rfl) (by kernel_rfl) (by kernel_rfl) (fun _ _ _ h => h) (Or.inl ⟨by rfl, ?hyr29⟩) hHeld ?_
        case hyr29 => (intro w hSw; have k2 := hQm; go_simp; try with_reducible rfl)
        simp only [Act.put, List.setIfInBounds_toArray, List.set_cons_zero, List.set_cons_succ, List.getElem_toArray, List.getElem_cons_zero, List.getElem_cons_succ]
        refine wpAnyH_take (i := 10) (v := ?vr210) rfl (by kernel_rfl) (by kernel_rfl) (by kernel_rfl) (fun _ _ _ h => h) (Or.inl ⟨by rfl, ?hyr210⟩) hHeld ?_
        case hyr210 => (intro w hSw; go_simp; try with_reducible rfl)
        simp only [Act.put, List.setIfInBounds_toArray, List.set_cons_zero, List.set_cons_succ, List.getElem_toArray, List.getElem_cons_zero, List.getElem_cons_succ]
        refine wpAnyH_take (i := 11) (v := ?vr211) rfl (by kernel_rfl) (by kernel_rfl) (by kernel_rfl) (fun _ _ _ h => h) (Or.inl ⟨by rfl, ?hyr211⟩) hHeld ?_
        case hyr211 => (intro w hSw; go_simp; try with_reducible rfl)
        simp only [Act.put, List.setIfInBounds_toArray, List.set_cons_zero, List.set_cons_succ, List.getElem_toArray, List.getElem_cons_zero, List.getElem_cons_succ]
        refine wpAnyH_done (by kernel_rfl) ?_ _
        refine NoPanic.normal ?_
        have b0 := xd.keeps b0
        have b1 := xd.keeps b1
        have b2 := xd.keeps b2
        have xr := xr.trans xd
        clear hHeld c0 c1 c2 c3 c4 c5 hPm hQm
        go_wp2_with ((with_reducible refine at_load 71 (.tmp 7) ?_); refine wpl_load (by rfl) 71 (.tmp 7) rfl (G + 1 + 1) (by rfl) 71 o.cs (0, 0) _ b2 Tryd.underlying71 rfl (info6 o) ?_)
        refine Calls.mono (refPlus _ o ho 2 (by omega) p0 hp0b) ?_
        rintro ee u1 ⟨o1, rfl, ho1, hv1, y1⟩
        have b0 := y1.keeps b0
        have b1 := y1.keeps b1
        have b2 := y1.keeps b2
        have xr := xr.trans y1
        have HV1 := Lib.hid hv1
        clear hv1
        go_wp2_with (first
          | ((with_reducible refine at_store 71 (.tmp 7) (.tmp 33) ?_); refine wpl_store (by rfl) 71 (.tmp 7) (.tmp 33) rfl (G + 1 + 1) o1.cs (by rfl) (by rfl) 71 _ b2 (info6 o1) rfl (W6.one o1) ?_; have b0 := row_other (c := o1.cs) b0 (show G ≠ G + 1 + 1 by omega); have b1 := row_other (c := o1.cs) b1 (show G + 1 ≠ G + 1 + 1 by omega); have xr := xr.grown (grown_row (g := G + 1 + 1) (c := o1.cs)) (fun k hk => by simp at hk; omega); have b2 : (u1.setRow (G + 1 + 1) o1.cs).heap[G + 1 + 1]? = some (.cells o1.cs 71 (0, 0)) := setRow_heap _ _ _ _ _ _ b2; generalize u1.setRow (G + 1 + 1) o1.cs = v1 at *)
          | ((with_reducible refine at_load 71 (.tmp 7) ?_); refine wpl_load (by rfl) 71 (.tmp 7) rfl (G + 1 + 1) (by rfl) 71 o1.cs (0, 0) _ b2 Tryd.underlying71 rfl (info6 o1) ?_))
        refine Calls.mono (refPlus _ o1 ho1 3 (by omega) p1 hp1b) ?_
        rintro ee u2 ⟨o2, rfl, ho2, hv2, y2⟩
        have b0 := y2.keeps b0
        have b1 := y2.keeps b1
        have b2 := y2.keeps b2
        have xr := xr.trans y2
        have HV2 := Lib.hid hv2
        clear hv2
        go_wp2_with (first
          | ((with_reducible refine at_store 71 (.tmp 7) (.tmp 39) ?_); refine wpl_store (by rfl) 71 (.tmp 7) (.tmp 39) rfl (G + 1 + 1) o2.cs (by rfl) (by rfl) 71 _ b2 (info6 o2) rfl (W6.one o2) ?_; have b0 := row_other (c := o2.cs) b0 (show G ≠ G + 1 + 1 by omega); have b1 := row_other (c := o2.cs) b1 (show G + 1 ≠ G + 1 + 1 by omega); have xr := xr.grown (grown_row (g := G + 1 + 1) (c := o2.cs)) (fun k hk => by simp at hk; omega); have b2 : (u2.setRow (G + 1 + 1) o2.cs).heap[G + 1 + 1]? = some (.cells o2.cs 71 (0, 0)) := setRow_heap _ _ _ _ _ _ b2; generalize u2.setRow (G + 1 + 1) o2.cs = v2 at *)
          | ((with_reducible refine at_load 71 (.tmp 7) ?_); refine wpl_load (by rfl) 71 (.tmp 7) rfl (G + 1 + 1) (by rfl) 71 o2.cs (0, 0) _ b2 Tryd.underlying71 rfl (info6 o2) ?_))
        refine Calls.mono (refPlus _ o2 ho2 3 (by omega) q0 hq0b) ?_
        rintro ee u3 ⟨o3, rfl, ho3, hv3, y3⟩
        have b0 := y3.keeps b0
        have b1 := y3.keeps b1
        have b2 := y3.keeps b2
        have xr := xr.trans y3
        have HV3 := Lib.hid hv3
        clear hv3
        go_wp2_with (first
          | ((with_reducible refine at_store 71 (.tmp 7) (.tmp 45) ?_); refine wpl_store (by rfl) 71 (.tmp 7) (.tmp 45) rfl (G + 1 + 1) o3.cs (by rfl) (by rfl) 71 _ b2 (info6 o3) rfl (W6.one o3) ?_; have b0 := row_other (c := o3.cs) b0 (show G ≠ G + 1 + 1 by omega); have b1 := row_other (c := o3.cs) b1 (show G + 1 ≠ G + 1 + 1 by omega); have xr := xr.grown (grown_row (g := G + 1 + 1) (c := o3.cs)) (fun k hk => by simp at hk; omega); have b2 : (u3.setRow (G + 1 + 1) o3.cs).heap[G + 1 + 1]? = some (.cells o3.cs 71 (0, 0)) := setRow_heap _ _ _ _ _ _ b2; generalize u3.setRow (G + 1 + 1) o3.cs = v3 at *)
          | ((with_reducible refine at_load 71 (.tmp 7) ?_); refine wpl_load (by rfl) 71 (.tmp 7) rfl (G + 1 + 1) (by rfl) 71 o3.cs (0, 0) _ b2 Tryd.underlying71 rfl (info6 o3) ?_))
        refine Calls.mono (refPlus _ o3 ho3 4 (by omega) q1 hq1b) ?_
        rintro ee u4 ⟨o4, rfl, ho4, hv4, y4⟩
        have b0 := y4.keeps b0
        have b1 := y4.keeps b1
        have b2 := y4.keeps b2
        have xr := xr.trans y4
        have HV4 := Lib.hid hv4
        clear hv4
        go_wp2_with ((with_reducible refine at_store 71 (.tmp 7) (.tmp 51) ?_); refine wpl_store (by rfl) 71 (.tmp 7) (.tmp 51) rfl (G + 1 + 1) o4.cs (by rfl) (by rfl) 71 _ b2 (info6 o4) rfl (W6.one o4) ?_; have b0 := row_other (c := o4.cs) b0 (show G ≠ G + 1 + 1 by omega); have b1 := row_other (c := o4.cs) b1 (show G + 1 ≠ G + 1 + 1 by omega); have xr := xr.grown (grown_row (g := G + 1 + 1) (c := o4.cs)) (fun k hk => by simp at hk; omega); have b2 : (u4.setRow (G + 1 + 1) o4.cs).heap[G + 1 + 1]? = some (.cells o4.cs 71 (0, 0)) := setRow_heap _ _ _ _ _ _ b2)
        go_roundg (6 - (2 + 1))
        case measure => omega
        case rel =>
          have g1 := HV1.out
          have g2 := HV2.out
          have g3 := HV3.out
          have g4 := HV4.out
          rw [show (2 : Nat) ^ (32 * 2) = 18446744073709551616 from rfl, ← HP0.out] at g1
          rw [show (2 : Nat) ^ (32 * 3) = 18446744073709551616 * 4294967296 from rfl, ← HP1.out] at g2
          rw [show (2 : Nat) ^ (32 * 3) = 18446744073709551616 * 4294967296 from rfl, ← HQ0.out] at g3
          rw [show (2 : Nat) ^ (32 * 4) = 18446744073709551616 * 4294967296 * 4294967296 from rfl, ← HQ1.out] at g4
          refine ⟨2 + 1, o4, by omega, by omega, by go_num, ho4, ?_, b0, b1, b2, xr⟩
          rw [times_step HV.out g1 g2 g3 g4 HP.out HQ.out HLO.out HHI.out, ← Nat.add_mul]
          rfl
      · obtain ⟨P, hP⟩ : ∃ P, q.d * lo = P := ⟨_, rfl⟩
        obtain ⟨Q, hQ⟩ : ∃ Q, q.d * hi = Q := ⟨_, rfl⟩
        have hPm := u64_mul hP hq.d hlob
        have hQm := u64_mul hQ hq.d hhib
        have hPb : P < 4294967296 * 4294967296 := by rw [← hP]; exact Nat.mul_lt_mul'' hq.d hlob
        have hQb : Q < 4294967296 * 4294967296 := by rw [← hQ]; exact Nat.mul_lt_mul'' hq.d hhib
        have HP := Lib.hid hP
        have HQ := Lib.hid hQ
        clear hP hQ
        obtain ⟨p0, hp0⟩ : ∃ r, P % 4294967296 = r := ⟨_, rfl⟩
        obtain ⟨p1, hp1⟩ : ∃ r, P / 4294967296 = r := ⟨_, rfl⟩
        obtain ⟨q0, hq0⟩ : ∃ r, Q % 4294967296 = r := ⟨_, rfl⟩
        obtain ⟨q1, hq1⟩ : ∃ r, Q / 4294967296 = r := ⟨_, rfl⟩
        have hp0b : p0 < 4294967296 := by omega
        have hp1b : p1 < 4294967296 := by omega
        have hq0b : q0 < 4294967296 := by omega
        have hq1b : q1 < 4294967296 := by omega
        have e1 := u64_mod hp0
        have e2 := u64_div hp1
        have e3 := u64_mod hq0
        have e4 := u64_div hq1
        have e5 := u64_small (r := p1) (by omega)
        have e6 := u64_small (r := q1) (by omega)
        have HP0 := Lib.hid hp0
        have HP1 := Lib.hid hp1
        have HQ0 := Lib.hid hq0
        have HQ1 := Lib.hid hq1
        clear hp0 hp1 hq0 hq1 hPb hQb
        go_wp2_with fail
        refine wp_region_ext (by kernel_rfl) fun wd hqd xd hHeld => ?_
        refine wpAnyH_take (i := 0) (v := ?vr30) rfl (by kernel_rfl) (by kernel_rfl) (by kernel_rfl) (fun _ _ _ h => h) (Or.inl ⟨by rfl, ?hyr30⟩) hHeld ?_
        case hyr30 => (intro w hSw; go_simp; try with_reducible rfl)
        simp only [Act.put, List.setIfInBounds_toArray, List.set_cons_zero, List.set_cons_succ, List.getElem_toArray, List.getElem_cons_zero, List.getElem_cons_succ]
        refine wpAnyH_take (i := 1) (v := ?vr31) rfl (by kernel_rfl) (by kernel_rfl) (by kernel_rfl) (fun _ _ _ h => h) (Or.inl ⟨by rfl, ?hyr31⟩) hHeld ?_
        case hyr31 => (intro w hSw; go_simp; try with_reducible rfl)
        simp only [Act.put, List.setIfInBounds_toArray, List.set_cons_zero, List.set_cons_succ, List.getElem_toArray, List.getElem_cons_zero, List.getElem_cons_succ]
        refine wpAnyH_take (i := 2) (v := ?vr32) rfl (by kernel_rfl) (by kernel_rfl) (by kernel_rfl) (fun _ _ _ h => h) (Or.inl ⟨by rfl, ?hyr32⟩) hHeld ?_
        case hyr32 => (intro w hSw; have k := (hSw.cell (xd.cell c3)); go_simp; try with_reducible rfl)
        simp only [Act.put, List.setIfInBounds_toArray, List.set_cons_zero, List.set_cons_succ, List.getElem_toArray, List.getElem_cons_zero, List.getElem_cons_succ]
        refine wpAnyH_take (i := 3) (v := ?vr33) rfl (by kernel_rfl) (by kernel_rfl) (by kernel_rfl) (fun _ _ _ h => h) (Or.inl ⟨by rfl, ?hyr33⟩) hHeld ?_
        case hyr33 => (intro w hSw; go_simp; try with_reducible rfl)
        simp only [Act.put, List.setIfInBounds_toArray, List.set_cons_zero, List.set_cons_succ, List.getElem_toArray, List.getElem_cons_zero, List.getElem_cons_succ]
        refine wpAnyH_take (i := 4) (v := ?vr34) rfl (by kernel_rfl) (by kernel_rfl) (by kernel_rfl) (fun _ _ _ h => h) (Or.inl ⟨by rfl, ?hyr34⟩) hHeld ?_
        case hyr34 => (intro w hSw; have k2 := hPm; go_simp; try with_reducible rfl)
        simp only [Act.put, List.setIfInBounds_toArray, List.set_cons_zero, List.set_cons_succ, List.getElem_toArray, List.getElem_cons_zero, List.getElem_cons_succ]
        refine wpAnyH_take (i := 5) (v := ?vr35) rfl (by kernel_rfl) (by kernel_rfl) (by kernel_rfl) (fun _ _ _ h => h) (Or.inl ⟨by rfl, ?hyr35⟩) hHeld ?_
        case hyr35 => (intro w hSw; go_simp; try with_reducible rfl)
        simp only [Act.put, List.setIfInBounds_toArray, List.set_cons_zero, List.set_cons_succ, List.getElem_toArray, List.getElem_cons_zero, List.getElem_cons_succ]
        refine wpAnyH_take (i := 6) (v := ?vr36) rfl (by kernel_rfl) (by kernel_rfl) (by kernel_rfl) (fun _ _ _ h => h) (Or.inl ⟨by rfl, ?hyr36⟩) hHeld ?_
        case hyr36 => (intro w hSw; go_simp; try with_reducible rfl)
        simp only [Act.put, List.setIfInBounds_toArray, List.set_cons_zero, List.set_cons_succ, List.getElem_toArray, List.getElem_cons_zero, List.getElem_cons_succ]
        refine wpAnyH_take (i := 7) (v := ?vr37) rfl (by kernel_rfl) (by kernel_rfl) (by kernel_rfl) (fun _ _ _ h => h) (Or.inl ⟨by rfl, ?hyr37⟩) hHeld ?_
        case hyr37 => (intro w hSw; have k := (hSw.cell (xd.cell c3)); go_simp; try with_reducible rfl)
        simp only [Act.put, List.setIfInBounds_toArray, List.set_cons_zero, List.set_cons_succ, List.getElem_toArray, List.getElem_cons_zero, List.getElem_cons_succ]
        refine wpAnyH_take (i := 8) (v := ?vr38) rfl (by kernel_rfl) (by kernel_rfl) (by kernel_rfl) (fun _ _ _ h => h) (Or.inl ⟨by rfl, ?hyr38⟩) hHeld ?_
        case hyr38 => (intro w hSw; go_simp; try with_reducible rfl)
        simp only [Act.put, List.setIfInBounds_toArray, List.set_cons_zero, List.set_cons_succ, List.getElem_toArray, List.getElem_cons_zero, List.getElem_cons_succ]
        refine wpAnyH_take (i := 9) (v := ?vr39) rfl (by kernel_rfl) (by kernel_rfl) (by kernel_rfl) (fun _ _ _ h => h) (Or.inl ⟨by rfl, ?hyr39⟩) hHeld ?_
        case hyr39 => (intro w hSw; have k2 := hQm; go_simp; try with_reducible rfl)
        simp only [Act.put, List.setIfInBounds_toArray, List.set_cons_zero, List.set_cons_succ, List.getElem_toArray, List.getElem_cons_zero, List.getElem_cons_succ]
        refine wpAnyH_take (i := 10) (v := ?vr310) rfl (by kernel_rfl) (by kernel_rfl) (by kernel_rfl) (fun _ _ _ h => h) (Or.inl ⟨by rfl, ?hyr310⟩) hHeld ?_
        case hyr310 => (intro w hSw; go_simp; try with_reducible rfl)
        simp only [Act.put, List.setIfInBounds_toArray, List.set_cons_zero, List.set_cons_succ, List.getElem_toArray, List.getElem_cons_zero, List.getElem_cons_succ]
        refine wpAnyH_take (i := 11) (v := ?vr311) rfl (by kernel_rfl) (by kernel_rfl) (by kernel_rfl) (fun _ _ _ h => h) (Or.inl ⟨by rfl, ?hyr311⟩) hHeld ?_
        case hyr311 => (intro w hSw; go_simp; try with_reducible rfl)
        simp only [Act.put, List.setIfInBounds_toArray, List.set_cons_zero, List.set_cons_succ, List.getElem_toArray, List.getElem_cons_zero, List.getElem_cons_succ]
        refine wpAnyH_done (by kernel_rfl) ?_ _
        refine NoPanic.normal ?_
        have b0 := xd.keeps b0
        have b1 := xd.keeps b1
        have b2 := xd.keeps b2
        have xr := xr.trans xd
        clear hHeld c0 c1 c2 c3 c4 c5 hPm hQm
        go_wp2_with ((with_reducible refine at_load 71 (.tmp 7) ?_); refine wpl_load (by rfl) 71 (.tmp 7) rfl (G + 1 + 1) (by rfl) 71 o.cs (0, 0) _ b2 Tryd.underlying71 rfl (info6 o) ?_)
        refine Calls.mono (refPlus _ o ho 3 (by omega) p0 hp0b) ?_
        rintro ee u1 ⟨o1, rfl, ho1, hv1, y1⟩
        have b0 := y1.keeps b0
        have b1 := y1.keeps b1
        have b2 := y1.keeps b2
        have xr := xr.trans y1
        have HV1 := Lib.hid hv1
        clear hv1
        go_wp2_with (first
          | ((with_reducible refine at_store 71 (.tmp 7) (.tmp 33) ?_); refine wpl_store (by rfl) 71 (.tmp 7) (.tmp 33) rfl (G + 1 + 1) o1.cs (by rfl) (by rfl) 71 _ b2 (info6 o1) rfl (W6.one o1) ?_; have b0 := row_other (c := o1.cs) b0 (show G ≠ G + 1 + 1 by omega); have b1 := row_other (c := o1.cs) b1 (show G + 1 ≠ G + 1 + 1 by omega); have xr := xr.grown (grown_row (g := G + 1 + 1) (c := o1.cs)) (fun k hk => by simp at hk; omega); have b2 : (u1.setRow (G + 1 + 1) o1.cs).heap[G + 1 + 1]? = some (.cells o1.cs 71 (0, 0)) := setRow_heap _ _ _ _ _ _ b2; generalize u1.setRow (G + 1 + 1) o1.cs = v1 at *)
          | ((with_reducible refine at_load 71 (.tmp 7) ?_); refine wpl_load (by rfl) 71 (.tmp 7) rfl (G + 1 + 1) (by rfl) 71 o1.cs (0, 0) _ b2 Tryd.underlying71 rfl (info6 o1) ?_))
        refine Calls.mono (refPlus _ o1 ho1 4 (by omega) p1 hp1b) ?_
        rintro ee u2 ⟨o2, rfl, ho2, hv2, y2⟩
        have b0 := y2.keeps b0
        have b1 := y2.keeps b1
        have b2 := y2.keeps b2
        have xr := xr.trans y2
        have HV2 := Lib.hid hv2
        clear hv2
        go_wp2_with (first
          | ((with_reducible refine at_store 71 (.tmp 7) (.tmp 39) ?_); refine wpl_store (by rfl) 71 (.tmp 7) (.tmp 39) rfl (G + 1 + 1) o2.cs (by rfl) (by rfl) 71 _ b2 (info6 o2) rfl (W6.one o2) ?_; have b0 := row_other (c := o2.cs) b0 (show G ≠ G + 1 + 1 by omega); have b1 := row_other (c := o2.cs) b1 (show G + 1 ≠ G + 1 + 1 by omega); have xr := xr.grown (grown_row (g := G + 1 + 1) (c := o2.cs)) (fun k hk => by simp at hk; omega); have b2 : (u2.setRow (G + 1 + 1) o2.cs).heap[G + 1 + 1]? = some (.cells o2.cs 71 (0, 0)) := setRow_heap _ _ _ _ _ _ b2; generalize u2.setRow (G + 1 + 1) o2.cs = v2 at *)
          | ((with_reducible refine at_load 71 (.tmp 7) ?_); refine wpl_load (by rfl) 71 (.tmp 7) rfl (G + 1 + 1) (by rfl) 71 o2.cs (0, 0) _ b2 Tryd.underlying71 rfl (info6 o2) ?_))
        refine Calls.mono (refPlus _ o2 ho2 4 (by omega) q0 hq0b) ?_
        rintro ee u3 ⟨o3, rfl, ho3, hv3, y3⟩
        have b0 := y3.keeps b0
        have b1 := y3.keeps b1
        have b2 := y3.keeps b2
        have xr := xr.trans y3
        have HV3 := Lib.hid hv3
        clear hv3
        go_wp2_with (first
          | ((with_reducible refine at_store 71 (.tmp 7) (.tmp 45) ?_); refine wpl_store (by rfl) 71 (.tmp 7) (.tmp 45) rfl (G + 1 + 1) o3.cs (by rfl) (by rfl) 71 _ b2 (info6 o3) rfl (W6.one o3) ?_; have b0 := row_other (c := o3.cs) b0 (show G ≠ G + 1 + 1 by omega); have b1 := row_other (c := o3.cs) b1 (show G + 1 ≠ G + 1 + 1 by omega); have xr := xr.grown (grown_row (g := G + 1 + 1) (c := o3.cs)) (fun k hk => by simp at hk; omega); have b2 : (u3.setRow (G + 1 + 1) o3.cs).heap[G + 1 + 1]? = some (.cells o3.cs 71 (0, 0)) := setRow_heap _ _ _ _ _ _ b2; generalize u3.setRow (G + 1 + 1) o3.cs = v3 at *)
          | ((with_reducible refine at_load 71 (.tmp 7) ?_); refine wpl_load (by rfl) 71 (.tmp 7) rfl (G + 1 + 1) (by rfl) 71 o3.cs (0, 0) _ b2 Tryd.underlying71 rfl (info6 o3) ?_))
        refine Calls.mono (refPlus _ o3 ho3 5 (by omega) q1 hq1b) ?_
        rintro ee u4 ⟨o4, rfl, ho4, hv4, y4⟩
        have b0 := y4.keeps b0
        have b1 := y4.keeps b1
        have b2 := y4.keeps b2
        have xr := xr.trans y4
        have HV4 := Lib.hid hv4
        clear hv4
        go_wp2_with ((with_reducible refine at_store 71 (.tmp 7) (.tmp 51) ?_); refine wpl_store (by rfl) 71 (.tmp 7) (.tmp 51) rfl (G + 1 + 1) o4.cs (by rfl) (by rfl) 71 _ b2 (info6 o4) rfl (W6.one o4) ?_; have b0 := row_other (c := o4.cs) b0 (show G ≠ G + 1 + 1 by omega); have b1 := row_other (c := o4.cs) b1 (show G + 1 ≠ G + 1 + 1 by omega); have xr := xr.grown (grown_row (g := G + 1 + 1) (c := o4.cs)) (fun k hk => by simp at hk; omega); have b2 : (u4.setRow (G + 1 + 1) o4.cs).heap[G + 1 + 1]? = some (.cells o4.cs 71 (0, 0)) := setRow_heap _ _ _ _ _ _ b2)
        go_roundg (6 - (3 + 1))
        case measure => omega
        case rel =>
          have g1 := HV1.out
          have g2 := HV2.out
          have g3 := HV3.out
          have g4 := HV4.out
          rw [show (2 : Nat) ^ (32 * 3) = 79228162514264337593543950336 from rfl, ← HP0.out] at g1
          rw [show (2 : Nat) ^ (32 * 4) = 79228162514264337593543950336 * 4294967296 from rfl, ← HP1.out] at g2
          rw [show (2 : Nat) ^ (32 * 4) = 79228162514264337593543950336 * 4294967296 from rfl, ← HQ0.out] at g3
          rw [show (2 : Nat) ^ (32 * 5) = 79228162514264337593543950336 * 4294967296 * 4294967296 from rfl, ← HQ1.out] at g4
          refine ⟨3 + 1, o4, by omega, by omega, by go_num, ho4, ?_, b0, b1, b2, xr⟩
          rw [times_step HV.out g1 g2 g3 g4 HP.out HQ.out HLO.out HHI.out, ← Nat.add_mul]
          rfl
      · obtain ⟨P, hP⟩ : ∃ P, q.e * lo = P := ⟨_, rfl⟩
        obtain ⟨Q, hQ⟩ : ∃ Q, q.e * hi = Q := ⟨_, rfl⟩
        have hPm := u64_mul hP hq.e hlob
        have hQm := u64_mul hQ hq.e hhib
        have hPb : P < 4294967296 * 4294967296 := by rw [← hP]; exact Nat.mul_lt_mul'' hq.e hlob
        have hQb : Q < 4294967296 * 4294967296 := by rw [← hQ]; exact Nat.mul_lt_mul'' hq.e hhib
        have HP := Lib.hid hP
        have HQ := Lib.hid hQ
        clear hP hQ
        obtain ⟨p0, hp0⟩ : ∃ r, P % 4294967296 = r := ⟨_, rfl⟩
        obtain ⟨p1, hp1⟩ : ∃ r, P / 4294967296 = r := ⟨_, rfl⟩
        obtain ⟨q0, hq0⟩ : ∃ r, Q % 4294967296 = r := ⟨_, rfl⟩
        obtain ⟨q1, hq1⟩ : ∃ r, Q / 4294967296 = r := ⟨_, rfl⟩
        have hp0b : p0 < 4294967296 := by omega
        have hp1b : p1 < 4294967296 := by omega
        have hq0b : q0 < 4294967296 := by omega
        have hq1b : q1 < 4294967296 := by omega
        have e1 := u64_mod hp0
        have e2 := u64_div hp1
        have e3 := u64_mod hq0
        have e4 := u64_div hq1
        have e5 := u64_small (r := p1) (by omega)
        have e6 := u64_small (r := q1) (by omega)
        have HP0 := Lib.hid hp0
        have HP1 := Lib.hid hp1
        have HQ0 := Lib.hid hq0
        have HQ1 := Lib.hid hq1
        clear hp0 hp1 hq0 hq1 hPb hQb
        go_wp2_with fail
        refine wp_region_ext (by kernel_rfl) fun wd hqd xd hHeld => ?_
        refine wpAnyH_take (i := 0) (v := ?vr40) rfl (by kernel_rfl) (by kernel_rfl) (by kernel_rfl) (fun _ _ _ h => h) (Or.inl ⟨by rfl, ?hyr40⟩) hHeld ?_
        case hyr40 => (intro w hSw; go_simp; try with_reducible rfl)
        simp only [Act.put, List.setIfInBounds_toArray, List.set_cons_zero, List.set_cons_succ, List.getElem_toArray, List.getElem_cons_zero, List.getElem_cons_succ]
        refine wpAnyH_take (i := 1) (v := ?vr41) rfl (by kernel_rfl) (by kernel_rfl) (by kernel_rfl) (fun _ _ _ h => h) (Or.inl ⟨by rfl, ?hyr41⟩) hHeld ?_
        case hyr41 => (intro w hSw; go_simp; try with_reducible rfl)
        simp only [Act.put, List.setIfInBounds_toArray, List.set_cons_zero, List.set_cons_succ, List.getElem_toArray, List.getElem_cons_zero, List.getElem_cons_succ]
        refine wpAnyH_take (i := 2) (v := ?vr42) rfl (by kernel_rfl) (by kernel_rfl) (by kernel_rfl) (fun _ _ _ h => h) (Or.inl ⟨by rfl, ?hyr42⟩) hHeld ?_
        case hyr42 => (intro w hSw; have k := (hSw.cell (xd.cell c4)); go_simp; try with_reducible rfl)
        simp only [Act.put, List.setIfInBounds_toArray, List.set_cons_zero, List.set_cons_succ, List.getElem_toArray, List.getElem_cons_zero, List.getElem_cons_succ]
        refine wpAnyH_take (i := 3) (v := ?vr43) rfl (by kernel_rfl) (by kernel_rfl) (by kernel_rfl) (fun _ _ _ h => h) (Or.inl ⟨by rfl, ?hyr43⟩) hHeld ?_
        case hyr43 => (intro w hSw; go_simp; try with_reducible rfl)
        simp only [Act.put, List.setIfInBounds_toArray, List.set_cons_zero, List.set_cons_succ, List.getElem_toArray, List.getElem_cons_zero, List.getElem_cons_succ]
        refine wpAnyH_take (i := 4) (v := ?vr44) rfl (by kernel_rfl) (by kernel_rfl) (by kernel_rfl) (fun _ _ _ h => h) (Or.inl ⟨by rfl, ?hyr44⟩) hHeld ?_
        case hyr44 => (intro w hSw; have k2 := hPm; go_simp; try with_reducible rfl)
        simp only [Act.put, List.setIfInBounds_toArray, List.set_cons_zero, List.set_cons_succ, List.getElem_toArray, List.getElem_cons_zero, List.getElem_cons_succ]
        refine wpAnyH_take (i := 5) (v := ?vr45) rfl (by kernel_rfl) (by kernel_rfl) (by kernel_rfl) (fun _ _ _ h => h) (Or.inl ⟨by rfl, ?hyr45⟩) hHeld ?_
        case hyr45 => (intro w hSw; go_simp; try with_reducible rfl)
        simp only [Act.put, List.setIfInBounds_toArray, List.set_cons_zero, List.set_cons_succ, List.getElem_toArray, List.getElem_cons_zero, List.getElem_cons_succ]
        refine wpAnyH_take (i := 6) (v := ?vr46) rfl (by kernel_rfl) (by kernel_rfl) (by kernel_rfl) (fun _ _ _ h => h) (Or.inl ⟨by rfl, ?hyr46⟩) hHeld ?_
        case hyr46 => (intro w hSw; go_simp; try with_reducible rfl)
        simp only [Act.put, List.setIfInBounds_toArray, List.set_cons_zero, List.set_cons_succ, List.getElem_toArray, List.getElem_cons_zero, List.getElem_cons_succ]
        refine wpAnyH_take (i := 7) (v := ?vr47) rfl (by kernel_rfl) (by kernel_rfl) (by kernel_rfl) (fun _ _ _ h => h) (Or.inl ⟨by rfl, ?hyr47⟩) hHeld ?_
        case hyr47 => (intro w hSw; have k := (hSw.cell (xd.cell c4)); go_simp; try with_reducible rfl)
        simp only [Act.put, List.setIfInBounds_toArray, List.set_cons_zero, List.set_cons_succ, List.getElem_toArray, List.getElem_cons_zero, List.getElem_cons_succ]
        refine wpAnyH_take (i := 8) (v := ?vr48) rfl (by kernel_rfl) (by kernel_rfl) (by kernel_rfl) (fun _ _ _ h => h) (Or.inl ⟨by rfl, ?hyr48⟩) hHeld ?_
        case hyr48 => (intro w hSw; go_simp; try with_reducible rfl)
        simp only [Act.put, List.setIfInBounds_toArray, List.set_cons_zero, List.set_cons_succ, List.getElem_toArray, List.getElem_cons_zero, List.getElem_cons_succ]
        refine wpAnyH_take (i := 9) (v := ?vr49) rfl (by kernel_rfl) (by kernel_rfl) (by kernel_rfl) (fun _ _ _ h => h) (Or.inl ⟨by rfl, ?hyr49⟩) hHeld ?_
        case hyr49 => (intro w hSw; have k2 := hQm; go_simp; try with_reducible rfl)
        simp only [Act.put, List.setIfInBounds_toArray, List.set_cons_zero, List.set_cons_succ, List.getElem_toArray, List.getElem_cons_zero, List.getElem_cons_succ]
        refine wpAnyH_take (i := 10) (v := ?vr410) rfl (by kernel_rfl) (by kernel_rfl) (by kernel_rfl) (fun _ _ _ h => h) (Or.inl ⟨by rfl, ?hyr410⟩) hHeld ?_
        case hyr410 => (intro w hSw; go_simp; try with_reducible rfl)
        simp only [Act.put, List.setIfInBounds_toArray, List.set_cons_zero, List.set_cons_succ, List.getElem_toArray, List.getElem_cons_zero, List.getElem_cons_succ]
        refine wpAnyH_take (i := 11) (v := ?vr411) rfl (by kernel_rfl) (by kernel_rfl) (by kernel_rfl) (fun _ _ _ h => h) (Or.inl ⟨by rfl, ?hyr411⟩) hHeld ?_
        case hyr411 => (intro w hSw; go_simp; try with_reducible rfl)
        simp only [Act.put, List.setIfInBounds_toArray, List.set_cons_zero, List.set_cons_succ, List.getElem_toArray, List.getElem_cons_zero, List.getElem_cons_succ]
        refine wpAnyH_done (by kernel_rfl) ?_ _
        refine NoPanic.normal ?_
        have b0 := xd.keeps b0
        have b1 := xd.keeps b1
        have b2 := xd.keeps b2
        have xr := xr.trans xd
        clear hHeld c0 c1 c2 c3 c4 c5 hPm hQm
        go_wp2_with ((with_reducible refine at_load 71 (.tmp 7) ?_); refine wpl_load (by rfl) 71 (.tmp 7) rfl (G + 1 + 1) (by rfl) 71 o.cs (0, 0) _ b2 Tryd.underlying71 rfl (info6 o) ?_)
        refine Calls.mono (refPlus _ o ho 4 (by omega) p0 hp0b) ?_
        rintro ee u1 ⟨o1, rfl, ho1, hv1, y1⟩
        have b0 := y1.keeps b0
        have b1 := y1.keeps b1
        have b2 := y1.keeps b2
        have xr := xr.trans y1
        have HV1 := Lib.hid hv1
        clear hv1
        go_wp2_with (first
          | ((with_reducible refine at_store 71 (.tmp 7) (.tmp 33) ?_); refine wpl_store (by rfl) 71 (.tmp 7) (.tmp 33) rfl (G + 1 + 1) o1.cs (by rfl) (by rfl) 71 _ b2 (info6 o1) rfl (W6.one o1) ?_; have b0 := row_other (c := o1.cs) b0 (show G ≠ G + 1 + 1 by omega); have b1 := row_other (c := o1.cs) b1 (show G + 1 ≠ G + 1 + 1 by omega); have xr := xr.grown (grown_row (g := G + 1 + 1) (c := o1.cs)) (fun k hk => by simp at hk; omega); have b2 : (u1.setRow (G + 1 + 1) o1.cs).heap[G + 1 + 1]? = some (.cells o1.cs 71 (0, 0)) := setRow_heap _ _ _ _ _ _ b2; generalize u1.setRow (G + 1 + 1) o1.cs = v1 at *)
          | ((with_reducible refine at_load 71 (.tmp 7) ?_); refine wpl_load (by rfl) 71 (.tmp 7) rfl (G + 1 + 1) (by rfl) 71 o1.cs (0, 0) _ b2 Tryd.underlying71 rfl (info6 o1) ?_))
        refine Calls.mono (refPlus _ o1 ho1 5 (by omega) p1 hp1b) ?_
        rintro ee u2 ⟨o2, rfl, ho2, hv2, y2⟩
        have b0 := y2.keeps b0
        have b1 := y2.keeps b1
        have b2 := y2.keeps b2
        have xr := xr.trans y2
        have HV2 := Lib.hid hv2
        clear hv2
        go_wp2_with (first
          | ((with_reducible refine at_store 71 (.tmp 7) (.tmp 39) ?_); refine wpl_store (by rfl) 71 (.tmp 7) (.tmp 39) rfl (G + 1 + 1) o2.cs (by rfl) (by rfl) 71 _ b2 (info6 o2) rfl (W6.one o2) ?_; have b0 := row_other (c := o2.cs) b0 (show G ≠ G + 1 + 1 by omega); have b1 := row_other (c := o2.cs) b1 (show G + 1 ≠ G + 1 + 1 by omega); have xr := xr.grown (grown_row (g := G + 1 + 1) (c := o2.cs)) (fun k hk => by simp at hk; omega); have b2 : (u2.setRow (G + 1 + 1) o2.cs).heap[G + 1 + 1]? = some (.cells o2.cs 71 (0, 0)) := setRow_heap _ _ _ _ _ _ b2; generalize u2.setRow (G + 1 + 1) o2.cs = v2 at *)
          | ((with_reducible refine at_load 71 (.tmp 7) ?_); refine wpl_load (by rfl) 71 (.tmp 7) rfl (G + 1 + 1) (by rfl) 71 o2.cs (0, 0) _ b2 Tryd.underlying71 rfl (info6 o2) ?_))
        refine Calls.mono (refPlus _ o2 ho2 5 (by omega) q0 hq0b) ?_
        rintro ee u3 ⟨o3, rfl, ho3, hv3, y3⟩
        have b0 := y3.keeps b0
        have b1 := y3.keeps b1
        have b2 := y3.keeps b2
        have xr := xr.trans y3
        have HV3 := Lib.hid hv3
        clear hv3
        go_wp2_with (first
          | ((with_reducible refine at_store 71 (.tmp 7) (.tmp 45) ?_); refine wpl_store (by rfl) 71 (.tmp 7) (.tmp 45) rfl (G + 1 + 1) o3.cs (by rfl) (by rfl) 71 _ b2 (info6 o3) rfl (W6.one o3) ?_; have b0 := row_other (c := o3.cs) b0 (show G ≠ G + 1 + 1 by omega); have b1 := row_other (c := o3.cs) b1 (show G + 1 ≠ G + 1 + 1 by omega); have xr := xr.grown (grown_row (g := G + 1 + 1) (c := o3.cs)) (fun k hk => by simp at hk; omega); have b2 : (u3.setRow (G + 1 + 1) o3.cs).heap[G + 1 + 1]? = some (.cells o3.cs 71 (0, 0)) := setRow_heap _ _ _ _ _ _ b2; generalize u3.setRow (G + 1 + 1) o3.cs = v3 at *)
          | ((with_reducible refine at_load 71 (.tmp 7) ?_); refine wpl_load (by rfl) 71 (.tmp 7) rfl (G + 1 + 1) (by rfl) 71 o3.cs (0, 0) _ b2 Tryd.underlying71 rfl (info6 o3) ?_))
        refine Calls.mono (refPlus _ o3 ho3 6 (by omega) q1 hq1b) ?_
        rintro ee u4 ⟨o4, rfl, ho4, hv4, y4⟩
        have b0 := y4.keeps b0
        have b1 := y4.keeps b1
        have b2 := y4.keeps b2
        have xr := xr.trans y4
        have HV4 := Lib.hid hv4
        clear hv4
        go_wp2_with ((with_reducible refine at_store 71 (.tmp 7) (.tmp 51) ?_); refine wpl_store (by rfl) 71 (.tmp 7) (.tmp 51) rfl (G + 1 + 1) o4.cs (by rfl) (by rfl) 71 _ b2 (info6 o4) rfl (W6.one o4) ?_; have b0 := row_other (c := o4.cs) b0 (show G ≠ G + 1 + 1 by omega); have b1 := row_other (c := o4.cs) b1 (show G + 1 ≠ G + 1 + 1 by omega); have xr := xr.grown (grown_row (g := G + 1 + 1) (c := o4.cs)) (fun k hk => by simp at hk; omega); have b2 : (u4.setRow (G + 1 + 1) o4.cs).heap[G + 1 + 1]? = some (.cells o4.cs 71 (0, 0)) := setRow_heap _ _ _ _ _ _ b2)
        go_roundg (6 - (4 + 1))
        case measure => omega
        case rel =>
          have g1 := HV1.out
          have g2 := HV2.out
          have g3 := HV3.out
          have g4 := HV4.out
          rw [show (2 : Nat) ^ (32 * 4) = 340282366920938463463374607431768211456 from rfl, ← HP0.out] at g1
          rw [show (2 : Nat) ^ (32 * 5) = 340282366920938463463374607431768211456 * 4294967296 from rfl, ← HP1.out] at g2
          rw [show (2 : Nat) ^ (32 * 5) = 340282366920938463463374607431768211456 * 4294967296 from rfl, ← HQ0.out] at g3
          rw [show (2 : Nat) ^ (32 * 6) = 340282366920938463463374607431768211456 * 4294967296 * 4294967296 from rfl, ← HQ1.out] at g4
          refine ⟨4 + 1, o4, by omega, by omega, by go_num, ho4, ?_, b0, b1, b2, xr⟩
          rw [times_step HV.out g1 g2 g3 g4 HP.out HQ.out HLO.out HHI.out, ← Nat.add_mul]
          rfl
      · obtain ⟨P, hP⟩ : ∃ P, q.f * lo = P := ⟨_, rfl⟩
        obtain ⟨Q, hQ⟩ : ∃ Q, q.f * hi = Q := ⟨_, rfl⟩
        have hPm := u64_mul hP hq.f hlob
        have hQm := u64_mul hQ hq.f hhib
        have hPb : P < 4294967296 * 4294967296 := by rw [← hP]; exact Nat.mul_lt_mul'' hq.f hlob
        have hQb : Q < 4294967296 * 4294967296 := by rw [← hQ]; exact Nat.mul_lt_mul'' hq.f hhib
        have HP := Lib.hid hP
        have HQ := Lib.hid hQ
        clear hP hQ
        obtain ⟨p0, hp0⟩ : ∃ r, P % 4294967296 = r := ⟨_, rfl⟩
        obtain ⟨p1, hp1⟩ : ∃ r, P / 4294967296 = r := ⟨_, rfl⟩
        obtain ⟨q0, hq0⟩ : ∃ r, Q % 4294967296 = r := ⟨_, rfl⟩
        obtain ⟨q1, hq1⟩ : ∃ r, Q / 4294967296 = r := ⟨_, rfl⟩
        have hp0b : p0 < 4294967296 := by omega
        have hp1b : p1 < 4294967296 := by omega
        have hq0b : q0 < 4294967296 := by omega
        have hq1b : q1 < 4294967296 := by omega
        have e1 := u64_mod hp0
        have e2 := u64_div hp1
        have e3 := u64_mod hq0
        have e4 := u64_div hq1
        have e5 := u64_small (r := p1) (by omega)
        have e6 := u64_small (r := q1) (by omega)
        have HP0 := Lib.hid hp0
        have HP1 := Lib.hid hp1
        have HQ0 := Lib.hid hq0
        have HQ1 := Lib.hid hq1
        clear hp0 hp1 hq0 hq1 hPb hQb
        go_wp2_with fail
        refine wp_region_ext (by kernel_rfl) fun wd hqd xd hHeld => ?_
        refine wpAnyH_take (i := 0) (v := ?vr50) rfl (by kernel_rfl) (by kernel_rfl) (by kernel_rfl) (fun _ _ _ h => h) (Or.inl ⟨by rfl, ?hyr50⟩) hHeld ?_
        case hyr50 => (intro w hSw; go_simp; try with_reducible rfl)
        simp only [Act.put, List.setIfInBounds_toArray, List.set_cons_zero, List.set_cons_succ, List.getElem_toArray, List.getElem_cons_zero, List.getElem_cons_succ]
        refine wpAnyH_take (i := 1) (v := ?vr51) rfl (by kernel_rfl) (by kernel_rfl) (by kernel_rfl) (fun _ _ _ h => h) (Or.inl ⟨by rfl, ?hyr51⟩) hHeld ?_
        case hyr51 => (intro w hSw; go_simp; try with_reducible rfl)
        simp only [Act.put, List.setIfInBounds_toArray, List.set_cons_zero, List.set_cons_succ, List.getElem_toArray, List.getElem_cons_zero, List.getElem_cons_succ]
        refine wpAnyH_take (i := 2) (v := ?vr52) rfl (by kernel_rfl) (by kernel_rfl) (by kernel_rfl) (fun _ _ _ h => h) (Or.inl ⟨by rfl, ?hyr52⟩) hHeld ?_
        case hyr52 => (intro w hSw; have k := (hSw.cell (xd.cell c5)); go_simp; try with_reducible rfl)
        simp only [Act.put, List.setIfInBounds_toArray, List.set_cons_zero, List.set_cons_succ, List.getElem_toArray, List.getElem_cons_zero, List.getElem_cons_succ]
        refine wpAnyH_take (i := 3) (v := ?vr53) rfl (by kernel_rfl) (by kernel_rfl) (by kernel_rfl) (fun _ _ _ h => h) (Or.inl ⟨by rfl, ?hyr53⟩) hHeld ?_
        case hyr53 => (intro w hSw; go_simp; try with_reducible rfl)
        simp only [Act.put, List.setIfInBounds_toArray, List.set_cons_zero, List.set_cons_succ, List.getElem_toArray, List.getElem_cons_zero, List.getElem_cons_succ]
        refine wpAnyH_take (i := 4) (v := ?vr54) rfl (by kernel_rfl) (by kernel_rfl) (by kernel_rfl) (fun _ _ _ h => h) (Or.inl ⟨by rfl, ?hyr54⟩) hHeld ?_
        case hyr54 => (intro w hSw; have k2 := hPm; go_simp; try with_reducible rfl)
        simp only [Act.put, List.setIfInBounds_toArray, List.set_cons_zero, List.set_cons_succ, List.getElem_toArray, List.getElem_cons_zero, List.getElem_cons_succ]
        refine wpAnyH_take (i := 5) (v := ?vr55) rfl (by kernel_rfl) (by kernel_rfl) (by kernel_rfl) (fun _ _ _ h => h) (Or.inl ⟨by rfl, ?hyr55⟩) hHeld ?_
        case hyr55 => (intro w hSw; go_simp; try with_reducible rfl)
        simp only [Act.put, List.setIfInBounds_toArray, List.set_cons_zero, List.set_cons_succ, List.getElem_toArray, List.getElem_cons_zero, List.getElem_cons_succ]
        refine wpAnyH_take (i := 6) (v := ?vr56) rfl (by kernel_rfl) (by kernel_rfl) (by kernel_rfl) (fun _ _ _ h => h) (Or.inl ⟨by rfl, ?hyr56⟩) hHeld ?_
        case hyr56 => (intro w hSw; go_simp; try with_reducible rfl)
        simp only [Act.put, List.setIfInBounds_toArray, List.set_cons_zero, List.set_cons_succ, List.getElem_toArray, List.getElem_cons_zero, List.getElem_cons_succ]
        refine wpAnyH_take (i := 7) (v := ?vr57) rfl (by kernel_rfl) (by kernel_rfl) (by kernel_rfl) (fun _ _ _ h => h) (Or.inl ⟨by rfl, ?hyr57⟩) hHeld ?_
        case hyr57 => (intro w hSw; have k := (hSw.cell (xd.cell c5)); go_simp; try with_reducible rfl)
        simp only [Act.put, List.setIfInBounds_toArray, List.set_cons_zero, List.set_cons_succ, List.getElem_toArray, List.getElem_cons_zero, List.getElem_cons_succ]
        refine wpAnyH_take (i := 8) (v := ?vr58) rfl (by kernel_rfl) (by kernel_rfl) (by kernel_rfl) (fun _ _ _ h => h) (Or.inl ⟨by rfl, ?hyr58⟩) hHeld ?_
        case hyr58 => (intro w hSw; go_simp; try with_reducible rfl)
        simp only [Act.put, List.setIfInBounds_toArray, List.set_cons_zero, List.set_cons_succ, List.getElem_toArray, List.getElem_cons_zero, List.getElem_cons_succ]
        refine wpAnyH_take (i := 9) (v := ?vr59) rfl (by kernel_rfl) (by kernel_rfl) (by kernel_rfl) (fun _ _ _ h => h) (Or.inl ⟨by rfl, ?hyr59⟩) hHeld ?_
        case hyr59 => (intro w hSw; have k2 := hQm; go_simp; try with_reducible rfl)
        simp only [Act.put, List.setIfInBounds_toArray, List.set_cons_zero, List.set_cons_succ, List.getElem_toArray, List.getElem_cons_zero, List.getElem_cons_succ]
        refine wpAnyH_take (i := 10) (v := ?vr510) rfl (by kernel_rfl) (by kernel_rfl) (by kernel_rfl) (fun _ _ _ h => h) (Or.inl ⟨by rfl, ?hyr510⟩) hHeld ?_
        case hyr510 => (intro w hSw; go_simp; try with_reducible rfl)
        simp only [Act.put, List.setIfInBounds_toArray, List.set_cons_zero, List.set_cons_succ, List.getElem_toArray, List.getElem_cons_zero, List.getElem_cons_succ]
        refine wpAnyH_take (i := 11) (v := ?vr511) rfl (by kernel_rfl) (by kernel_rfl) (by kernel_rfl) (fun _ _ _ h => h) (Or.inl ⟨by rfl, ?hyr511⟩) hHeld ?_
        case hyr511 => (intro w hSw; go_simp; try with_reducible rfl)
        simp only [Act.put, List.setIfInBounds_toArray, List.set_cons_zero, List.set_cons_succ, List.getElem_toArray, List.getElem_cons_zero, List.getElem_cons_succ]
        refine wpAnyH_done (by kernel_rfl) ?_ _
        refine NoPanic.normal ?_
        have b0 := xd.keeps b0
        have b1 := xd.keeps b1
        have b2 := xd.keeps b2
        have xr := xr.trans xd
        clear hHeld c0 c1 c2 c3 c4 c5 hPm hQm
        go_wp2_with ((with_reducible refine at_load 71 (.tmp 7) ?_); refine wpl_load (by rfl) 71 (.tmp 7) rfl (G + 1 + 1) (by rfl) 71 o.cs (0, 0) _ b2 Tryd.underlying71 rfl (info6 o) ?_)
        refine Calls.mono (refPlus _ o ho 5 (by omega) p0 hp0b) ?_
        rintro ee u1 ⟨o1, rfl, ho1, hv1, y1⟩
        have b0 := y1.keeps b0
        have b1 := y1.keeps b1
        have b2 := y1.keeps b2
        have xr := xr.trans y1
        have HV1 := Lib.hid hv1
        clear hv1
        go_wp2_with (first
          | ((with_reducible refine at_store 71 (.tmp 7) (.tmp 33) ?_); refine wpl_store (by rfl) 71 (.tmp 7) (.tmp 33) rfl (G + 1 + 1) o1.cs (by rfl) (by rfl) 71 _ b2 (info6 o1) rfl (W6.one o1) ?_; have b0 := row_other (c := o1.cs) b0 (show G ≠ G + 1 + 1 by omega); have b1 := row_other (c := o1.cs) b1 (show G + 1 ≠ G + 1 + 1 by omega); have xr := xr.grown (grown_row (g := G + 1 + 1) (c := o1.cs)) (fun k hk => by simp at hk; omega); have b2 : (u1.setRow (G + 1 + 1) o1.cs).heap[G + 1 + 1]? = some (.cells o1.cs 71 (0, 0)) := setRow_heap _ _ _ _ _ _ b2; generalize u1.setRow (G + 1 + 1) o1.cs = v1 at *)
          | ((with_reducible refine at_load 71 (.tmp 7) ?_); refine wpl_load (by rfl) 71 (.tmp 7) rfl (G + 1 + 1) (by rfl) 71 o1.cs (0, 0) _ b2 Tryd.underlying71 rfl (info6 o1) ?_))
        refine Calls.mono (refPlus _ o1 ho1 6 (by omega) p1 hp1b) ?_
        rintro ee u2 ⟨o2, rfl, ho2, hv2, y2⟩
        have b0 := y2.keeps b0
        have b1 := y2.keeps b1
        have b2 := y2.keeps b2
        have xr := xr.trans y2
        have HV2 := Lib.hid hv2
        clear hv2
        go_wp2_with (first
          | ((with_reducible refine at_store 71 (.tmp 7) (.tmp 39) ?_); refine wpl_store (by rfl) 71 (.tmp 7) (.tmp 39) rfl (G + 1 + 1) o2.cs (by rfl) (by rfl) 71 _ b2 (info6 o2) rfl (W6.one o2) ?_; have b0 := row_other (c := o2.cs) b0 (show G ≠ G + 1 + 1 by omega); have b1 := row_other (c := o2.cs) b1 (show G + 1 ≠ G + 1 + 1 by omega); have xr := xr.grown (grown_row (g := G + 1 + 1) (c := o2.cs)) (fun k hk => by simp at hk; omega); have b2 : (u2.setRow (G + 1 + 1) o2.cs).heap[G + 1 + 1]? = some (.cells o2.cs 71 (0, 0)) := setRow_heap _ _ _ _ _ _ b2; generalize u2.setRow (G + 1 + 1) o2.cs = v2 at *)
          | ((with_reducible refine at_load 71 (.tmp 7) ?_); refine wpl_load (by rfl) 71 (.tmp 7) rfl (G + 1 + 1) (by rfl) 71 o2.cs (0, 0) _ b2 Tryd.underlying71 rfl (info6 o2) ?_))
        refine Calls.mono (refPlus _ o2 ho2 6 (by omega) q0 hq0b) ?_
        rintro ee u3 ⟨o3, rfl, ho3, hv3, y3⟩
        have b0 := y3.keeps b0
        have b1 := y3.keeps b1
        have b2 := y3.keeps b2
        have xr := xr.trans y3
        have HV3 := Lib.hid hv3
        clear hv3
        go_wp2_with (first
          | ((with_reducible refine at_store 71 (.tmp 7) (.tmp 45) ?_); refine wpl_store (by rfl) 71 (.tmp 7) (.tmp 45) rfl (G + 1 + 1) o3.cs (by rfl) (by rfl) 71 _ b2 (info6 o3) rfl (W6.one o3) ?_; have b0 := row_other (c := o3.cs) b0 (show G ≠ G + 1 + 1 by omega); have b1 := row_other (c := o3.cs) b1 (show G + 1 ≠ G + 1 + 1 by omega); have xr := xr.grown (grown_row (g := G + 1 + 1) (c := o3.cs)) (fun k hk => by simp at hk; omega); have b2 : (u3.setRow (G + 1 + 1) o3.cs).heap[G + 1 + 1]? = some (.cells o3.cs 71 (0, 0)) := setRow_heap _ _ _ _ _ _ b2; generalize u3.setRow (G + 1 + 1) o3.cs = v3 at *)
          | ((with_reducible refine at_load 71 (.tmp 7) ?_); refine wpl_load (by rfl) 71 (.tmp 7) rfl (G + 1 + 1) (by rfl) 71 o3.cs (0, 0) _ b2 Tryd.underlying71 rfl (info6 o3) ?_))
        refine Calls.mono (refPlus _ o3 ho3 7 (by omega) q1 hq1b) ?_
        rintro ee u4 ⟨o4, rfl, ho4, hv4, y4⟩
        have b0 := y4.keeps b0
        have b1 := y4.keeps b1
        have b2 := y4.keeps b2
        have xr := xr.trans y4
        have HV4 := Lib.hid hv4
        clear hv4
        go_wp2_with ((with_reducible refine at_store 71 (.tmp 7) (.tmp 51) ?_); refine wpl_store (by rfl) 71 (.tmp 7) (.tmp 51) rfl (G + 1 + 1) o4.cs (by rfl) (by rfl) 71 _ b2 (info6 o4) rfl (W6.one o4) ?_; have b0 := row_other (c := o4.cs) b0 (show G ≠ G + 1 + 1 by omega); have b1 := row_other (c := o4.cs) b1 (show G + 1 ≠ G + 1 + 1 by omega); have xr := xr.grown (grown_row (g := G + 1 + 1) (c := o4.cs)) (fun k hk => by simp at hk; omega); have b2 : (u4.setRow (G + 1 + 1) o4.cs).heap[G + 1 + 1]? = some (.cells o4.cs 71 (0, 0)) := setRow_heap _ _ _ _ _ _ b2)
        go_roundg (6 - (5 + 1))
        case measure => omega
        case rel =>
          have g1 := HV1.out
          have g2 := HV2.out
          have g3 := HV3.out
          have g4 := HV4.out
          rw [show (2 : Nat) ^ (32 * 5) = 1461501637330902918203684832716283019655932542976 from rfl, ← HP0.out] at g1
          rw [show (2 : Nat) ^ (32 * 6) = 1461501637330902918203684832716283019655932542976 * 4294967296 from rfl, ← HP1.out] at g2
          rw [show (2 : Nat) ^ (32 * 6) = 1461501637330902918203684832716283019655932542976 * 4294967296 from rfl, ← HQ0.out] at g3
          rw [show (2 : Nat) ^ (32 * 7) = 1461501637330902918203684832716283019655932542976 * 4294967296 * 4294967296 from rfl, ← HQ1.out] at g4
          refine ⟨5 + 1, o4, by omega, by omega, by go_num, ho4, ?_, b0, b1, b2, xr⟩
          rw [times_step HV.out g1 g2 g3 g4 HP.out HQ.out HLO.out HHI.out, ← Nat.add_mul]
          rfl
    · obtain rfl : i = 6 := by omega
      have key : o.ok ∧ o.val = q.val * x % M192 := ⟨ho, by rw [hv, W6.part6]⟩
      have KEY := Lib.hid key
      clear hv ho key
      have hfinW : (wr.setRow (G + 1) o.cs).heap[G + 1]? = some (.cells o.cs 71 (0, 0)) := setRow_heap _ _ _ _ _ _ b1
      go_wp2_with (first
        | ((with_reducible refine at_load 71 (.tmp 7) ?_); refine wpl_load (by rfl) 71 (.tmp 7) rfl (G + 1 + 1) (by rfl) 71 o.cs (0, 0) _ b2 Tryd.underlying71 rfl (info6 o) ?_)
        | ((with_reducible refine at_store 71 (.tmp 4) (.tmp 52) ?_); refine wpl_store (by rfl) 71 (.tmp 4) (.tmp 52) rfl (G + 1) o.cs (by rfl) (by rfl) 71 _ b1 (info6 o) rfl (W6.one o) ?_))
      exact bodyPost_ret (results_cell_row rfl _ _ (G + 1) _ _ _ _ (by rfl) hfinW Tryd.underlying71 rfl (info6 o)) rfl ⟨o, rfl, KEY.out.1, KEY.out.2, xr.grown grown_row (fun k hk => by simp at hk; omega)⟩
end Go.Proofs.YtfnmfnihgocheaaDoor
