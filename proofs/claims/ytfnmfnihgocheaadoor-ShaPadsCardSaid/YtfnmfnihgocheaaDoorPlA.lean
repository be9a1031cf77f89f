/- The walks of the reference's plus and Times. -/
import Derived.Test.YtfnmfnihgocheaaDoorPrL
import Derived.Test.YtfnmfnihgocheaaDoorReg
import Derived.Test.YtfnmfnihgocheaaDoorRegS
import Derived.Test.YtfnmfnihgocheaaDoorOctA
import Derived.Deep.WholeRow
namespace Go.Proofs.YtfnmfnihgocheaaDoor
open Go.RowKit
set_option linter.unusedVariables false
set_option linter.unusedSimpArgs false

def W6.cs (q : W6) : Array Value := #[.int .u64 (q.a : Int), .int .u64 (q.b : Int), .int .u64 (q.c : Int), .int .u64 (q.d : Int), .int .u64 (q.e : Int), .int .u64 (q.f : Int)]
def zW6 : W6 := ⟨0, 0, 0, 0, 0, 0⟩
theorem c6 {w : World} {g : Nat} {ty : TypeId} {q : W6} (h : w.heap[g]? = some (.cells q.cs ty (0, 0))) :
    w.cell? ⟨g, 0, none⟩ = some (.int .u64 (q.a : Int)) ∧ w.cell? ⟨g, 1, none⟩ = some (.int .u64 (q.b : Int)) ∧ w.cell? ⟨g, 2, none⟩ = some (.int .u64 (q.c : Int)) ∧ w.cell? ⟨g, 3, none⟩ = some (.int .u64 (q.d : Int)) ∧ w.cell? ⟨g, 4, none⟩ = some (.int .u64 (q.e : Int)) ∧ w.cell? ⟨g, 5, none⟩ = some (.int .u64 (q.f : Int)) := by
  simp only [block_cell h]
  exact ⟨rfl, rfl, rfl, rfl, rfl, rfl⟩
theorem info6 (q : W6) : (Tryd.prog.info? 71).map (·.size) = some q.cs.size := by show _ = some 6; kernel_rfl
theorem W6.one (q : W6) : q.cs.all (·.oneCell') = true := by simp [W6.cs, Value.oneCell']
theorem grown_row {w : World} {g : Nat} {c : Array Value} : w.grownBy (w.setRow g c) (some g) :=
  ⟨rfl, rfl, rfl, by rw [setRow_size]; exact Nat.le_refl _, fun k hk hn => setRow_other w g k c (by simpa using hn)⟩
theorem W6.lt {q : W6} (h : q.ok) : q.val < M192 := by
  obtain ⟨h1, h2, h3, h4, h5, h6⟩ := h
  unfold W6.val M192
  omega

set_option maxHeartbeats 4000000 in
set_option maxRecDepth 100000 in
theorem refPlus (w : World) (q : W6) (hq : q.ok) (n : Nat) (hn : n ≤ 8) (x : Nat) (hx : x < 4294967296) :
    Calls Tryd.prog 47 #[.agg q.cs, .int .i64 (n : Int), .int .u64 (x : Int)] w fun e w' => ∃ p : W6, e = .returned (.agg p.cs) ∧ p.ok ∧ p.val = (q.val + x * 2 ^ (32 * n)) % M192 ∧ Ext w w' := by
  have b0 := blk_old (o := .cells zW6.cs 71) (heap_alloc_new w (.cells q.cs 71))
  have b1 := blk_new (w := w.alloc (.cells q.cs 71)) (b := w.heap.size + 1) (o := .cells zW6.cs 71) (by simp)
  have X0 : Ext w ((w.alloc (.cells q.cs 71)).alloc (.cells zW6.cs 71)) := ((Ext.refl w).alloc _).alloc _
  go_enter Tryd.func47, Tryd.ntmps47
  go_wp2_with fail
  change Code.wp _ _ _ _ ((w.alloc (.cells q.cs 71)).alloc (.cells zW6.cs 71))
  generalize (w.alloc (.cells q.cs 71)).alloc (.cells zW6.cs 71) = w0 at *
  generalize hG : w.heap.size = G at *
  obtain ⟨T, hT⟩ : ∃ T, (q.val + x * 2 ^ (32 * n)) % M192 = T := ⟨_, rfl⟩
  have HT := Lib.hid hT
  go_loopg [1, 2] 9 (fun g s1 s2 wr => ∃ (m y : Nat) (p : W6), m ≤ 8 ∧ 9 - m ≤ g ∧ s1 = .int .i64 (m : Int) ∧ s2 = .int .u64 (y : Int) ∧ p.ok ∧ y < 4294967296 ∧ (p.val + y * 2 ^ (32 * m)) % M192 = T ∧ wr.heap[G]? = some (.cells p.cs 71 (0, 0)) ∧ wr.heap[G + 1]? = some (.cells zW6.cs 71 (0, 0)) ∧ Ext w wr)
  case atStart => exact ⟨n, x, q, hn, by omega, rfl, rfl, hq, hx, hT, b0, b1, X0⟩
  case round =>
    clear b0 b1 X0 hT hq hx hn
    obtain ⟨m, y, p, hm, hg, rfl, rfl, hp, hy, hv, b0, b1, xr⟩ := hrel
    by_cases h6 : m < 6 ∧ 0 < y
    · obtain ⟨h6, hy0⟩ := h6
      obtain ⟨c0, c1, c2, c3, c4, c5⟩ := c6 b0
      have f0 := block_free b0
      obtain ⟨p0, p1, p2, p3, p4, p5⟩ := p
      simp only at c0 c1 c2 c3 c4 c5
      have hy' : (0 : Int) < (y : Int) := by omega
      obtain ⟨o0, o1, o2, o3, o4, o5⟩ := hp
      have HP := Lib.hid hv
      clear hv
      simp only at o0 o1 o2 o3 o4 o5
      have hm' : m = 0 ∨ m = 1 ∨ m = 2 ∨ m = 3 ∨ m = 4 ∨ m = 5 := by omega
      rcases hm' with rfl | rfl | rfl | rfl | rfl | rfl
      · have fk := f0 0
        obtain ⟨s, hs0⟩ : ∃ s : Nat, p0 + y = s := ⟨_, rfl⟩
        obtain ⟨t, ht0⟩ : ∃ t : Nat, s / 4294967296 = t := ⟨_, rfl⟩
        obtain ⟨r, hr0⟩ : ∃ r : Nat, s % 4294967296 = r := ⟨_, rfl⟩
        have hw1 : IntKind.u64.wrap ((p0 : Int) + (y : Int)) = (s : Int) := by rw [IntKind.wrap_u64]; omega
        have hw2 : (s : Int).tdiv 4294967296 = (t : Int) := by rw [Int.tdiv_eq_ediv_of_nonneg (by omega)]; omega
        have hw3 : (s : Int).tmod 4294967296 = (r : Int) := by rw [Int.tmod_eq_emod_of_nonneg (by omega)]; omega
        have hw4 : IntKind.u64.wrap (t : Int) = (t : Int) := by rw [IntKind.wrap_u64]; omega
        have HS := Lib.hid hs0
        have HTT := Lib.hid ht0
        have HR := Lib.hid hr0
        have B0 := Lib.hid b0
        have B1 := Lib.hid b1
        clear f0 hs0 ht0 hr0 b0 b1
        go_wp2_with fail
        go_roundg (9 - (0 + 1))
        case measure => omega
        case rel =>
          have hs0 := HS.out
          have ht0 := HTT.out
          have hr0 := HR.out
          refine ⟨0 + 1, t, ⟨r, p1, p2, p3, p4, p5⟩, by omega, by omega, by go_num, rfl, ⟨by show r < _; omega, o1, o2, o3, o4, o5⟩, by omega, ?_, block_setCell (block_setCell B0.out _) _, set_other (set_other B1.out (by omega)) (by omega), (xr.setCell (by show _ ≤ G; omega) _).setCell (by show _ ≤ G; omega) _⟩
          rw [← HP.out]
          refine congrArg (fun z => z % M192) ?_
          rw [show (2 : Nat) ^ (32 * (0 + 1)) = 4294967296 from rfl, show (2 : Nat) ^ (32 * 0) = 1 from rfl]
          unfold W6.val
          simp only
          omega
      · have fk := f0 1
        obtain ⟨s, hs0⟩ : ∃ s : Nat, p1 + y = s := ⟨_, rfl⟩
        obtain ⟨t, ht0⟩ : ∃ t : Nat, s / 4294967296 = t := ⟨_, rfl⟩
        obtain ⟨r, hr0⟩ : ∃ r : Nat, s % 4294967296 = r := ⟨_, rfl⟩
        have hw1 : IntKind.u64.wrap ((p1 : Int) + (y : Int)) = (s : Int) := by rw [IntKind.wrap_u64]; omega
        have hw2 : (s : Int).tdiv 4294967296 = (t : Int) := by rw [Int.tdiv_eq_ediv_of_nonneg (by omega)]; omega
        have hw3 : (s : Int).tmod 4294967296 = (r : Int) := by rw [Int.tmod_eq_emod_of_nonneg (by omega)]; omega
        have hw4 : IntKind.u64.wrap (t : Int) = (t : Int) := by rw [IntKind.wrap_u64]; omega
        have HS := Lib.hid hs0
        have HTT := Lib.hid ht0
        have HR := Lib.hid hr0
        have B0 := Lib.hid b0
        have B1 := Lib.hid b1
        clear f0 hs0 ht0 hr0 b0 b1
        go_wp2_with fail
        go_roundg (9 - (1 + 1))
        case measure => omega
        case rel =>
          have hs0 := HS.out
          have ht0 := HTT.out
          have hr0 := HR.out
          refine ⟨1 + 1, t, ⟨p0, r, p2, p3, p4, p5⟩, by omega, by omega, by go_num, rfl, ⟨o0, by show r < _; omega, o2, o3, o4, o5⟩, by omega, ?_, block_setCell (block_setCell B0.out _) _, set_other (set_other B1.out (by omega)) (by omega), (xr.setCell (by show _ ≤ G; omega) _).setCell (by show _ ≤ G; omega) _⟩
          rw [← HP.out]
          refine congrArg (fun z => z % M192) ?_
          rw [show (2 : Nat) ^ (32 * (1 + 1)) = 18446744073709551616 from rfl, show (2 : Nat) ^ (32 * 1) = 4294967296 from rfl]
          unfold W6.val
          simp only
          omega
      · have fk := f0 2
        obtain ⟨s, hs0⟩ : ∃ s : Nat, p2 + y = s := ⟨_, rfl⟩
        obtain ⟨t, ht0⟩ : ∃ t : Nat, s / 4294967296 = t := ⟨_, rfl⟩
        obtain ⟨r, hr0⟩ : ∃ r : Nat, s % 4294967296 = r := ⟨_, rfl⟩
        have hw1 : IntKind.u64.wrap ((p2 : Int) + (y : Int)) = (s : Int) := by rw [IntKind.wrap_u64]; omega
        have hw2 : (s : Int).tdiv 4294967296 = (t : Int) := by rw [Int.tdiv_eq_ediv_of_nonneg (by omega)]; omega
        have hw3 : (s : Int).tmod 4294967296 = (r : Int) := by rw [Int.tmod_eq_emod_of_nonneg (by omega)]; omega
        have hw4 : IntKind.u64.wrap (t : Int) = (t : Int) := by rw [IntKind.wrap_u64]; omega
        have HS := Lib.hid hs0
        have HTT := Lib.hid ht0
        have HR := Lib.hid hr0
        have B0 := Lib.hid b0
        have B1 := Lib.hid b1
        clear f0 hs0 ht0 hr0 b0 b1
        go_wp2_with fail
        go_roundg (9 - (2 + 1))
        case measure => omega
        case rel =>
          have hs0 := HS.out
          have ht0 := HTT.out
          have hr0 := HR.out
          refine ⟨2 + 1, t, ⟨p0, p1, r, p3, p4, p5⟩, by omega, by omega, by go_num, rfl, ⟨o0, o1, by show r < _; omega, o3, o4, o5⟩, by omega, ?_, block_setCell (block_setCell B0.out _) _, set_other (set_other B1.out (by omega)) (by omega), (xr.setCell (by show _ ≤ G; omega) _).setCell (by show _ ≤ G; omega) _⟩
          rw [← HP.out]
          refine congrArg (fun z => z % M192) ?_
          rw [show (2 : Nat) ^ (32 * (2 + 1)) = 79228162514264337593543950336 from rfl, show (2 : Nat) ^ (32 * 2) = 18446744073709551616 from rfl]
          unfold W6.val
          simp only
          omega
      · have fk := f0 3
        obtain ⟨s, hs0⟩ : ∃ s : Nat, p3 + y = s := ⟨_, rfl⟩
        obtain ⟨t, ht0⟩ : ∃ t : Nat, s / 4294967296 = t := ⟨_, rfl⟩
        obtain ⟨r, hr0⟩ : ∃ r : Nat, s % 4294967296 = r := ⟨_, rfl⟩
        have hw1 : IntKind.u64.wrap ((p3 : Int) + (y : Int)) = (s : Int) := by rw [IntKind.wrap_u64]; omega
        have hw2 : (s : Int).tdiv 4294967296 = (t : Int) := by rw [Int.tdiv_eq_ediv_of_nonneg (by omega)]; omega
        have hw3 : (s : Int).tmod 4294967296 = (r : Int) := by rw [Int.tmod_eq_emod_of_nonneg (by omega)]; omega
        have hw4 : IntKind.u64.wrap (t : Int) = (t : Int) := by rw [IntKind.wrap_u64]; omega
        have HS := Lib.hid hs0
        have HTT := Lib.hid ht0
        have HR := Lib.hid hr0
        have B0 := Lib.hid b0
        have B1 := Lib.hid b1
        clear f0 hs0 ht0 hr0 b0 b1
        go_wp2_with fail
        go_roundg (9 - (3 + 1))
        case measure => omega
        case rel =>
          have hs0 := HS.out
          have ht0 := HTT.out
          have hr0 := HR.out
          refine ⟨3 + 1, t, ⟨p0, p1, p2, r, p4, p5⟩, by omega, by omega, by go_num, rfl, ⟨o0, o1, o2, by show r < _; omega, o4, o5⟩, by omega, ?_, block_setCell (block_setCell B0.out _) _, set_other (set_other B1.out (by omega)) (by omega), (xr.setCell (by show _ ≤ G; omega) _).setCell (by show _ ≤ G; omega) _⟩
          rw [← HP.out]
          refine congrArg (fun z => z % M192) ?_
          rw [show (2 : Nat) ^ (32 * (3 + 1)) = 340282366920938463463374607431768211456 from rfl, show (2 : Nat) ^ (32 * 3) = 79228162514264337593543950336 from rfl]
          unfold W6.val
          simp only
          omega
      · have fk := f0 4
        obtain ⟨s, hs0⟩ : ∃ s : Nat, p4 + y = s := ⟨_, rfl⟩
        obtain ⟨t, ht0⟩ : ∃ t : Nat, s / 4294967296 = t := ⟨_, rfl⟩
        obtain ⟨r, hr0⟩ : ∃ r : Nat, s % 4294967296 = r := ⟨_, rfl⟩
        have hw1 : IntKind.u64.wrap ((p4 : Int) + (y : Int)) = (s : Int) := by rw [IntKind.wrap_u64]; omega
        have hw2 : (s : Int).tdiv 4294967296 = (t : Int) := by rw [Int.tdiv_eq_ediv_of_nonneg (by omega)]; omega
        have hw3 : (s : Int).tmod 4294967296 = (r : Int) := by rw [Int.tmod_eq_emod_of_nonneg (by omega)]; omega
        have hw4 : IntKind.u64.wrap (t : Int) = (t : Int) := by rw [IntKind.wrap_u64]; omega
        have HS := Lib.hid hs0
        have HTT := Lib.hid ht0
        have HR := Lib.hid hr0
        have B0 := Lib.hid b0
        have B1 := Lib.hid b1
        clear f0 hs0 ht0 hr0 b0 b1
        go_wp2_with fail
        go_roundg (9 - (4 + 1))
        case measure => omega
        case rel =>
          have hs0 := HS.out
          have ht0 := HTT.out
          have hr0 := HR.out
          refine ⟨4 + 1, t, ⟨p0, p1, p2, p3, r, p5⟩, by omega, by omega, by go_num, rfl, ⟨o0, o1, o2, o3, by show r < _; omega, o5⟩, by omega, ?_, block_setCell (block_setCell B0.out _) _, set_other (set_other B1.out (by omega)) (by omega), (xr.setCell (by show _ ≤ G; omega) _).setCell (by show _ ≤ G; omega) _⟩
          rw [← HP.out]
          refine congrArg (fun z => z % M192) ?_
          rw [show (2 : Nat) ^ (32 * (4 + 1)) = 1461501637330902918203684832716283019655932542976 from rfl, show (2 : Nat) ^ (32 * 4) = 340282366920938463463374607431768211456 from rfl]
          unfold W6.val
          simp only
          omega
      · have fk := f0 5
        obtain ⟨s, hs0⟩ : ∃ s : Nat, p5 + y = s := ⟨_, rfl⟩
        obtain ⟨t, ht0⟩ : ∃ t : Nat, s / 4294967296 = t := ⟨_, rfl⟩
        obtain ⟨r, hr0⟩ : ∃ r : Nat, s % 4294967296 = r := ⟨_, rfl⟩
        have hw1 : IntKind.u64.wrap ((p5 : Int) + (y : Int)) = (s : Int) := by rw [IntKind.wrap_u64]; omega
        have hw2 : (s : Int).tdiv 4294967296 = (t : Int) := by rw [Int.tdiv_eq_ediv_of_nonneg (by omega)]; omega
        have hw3 : (s : Int).tmod 4294967296 = (r : Int) := by rw [Int.tmod_eq_emod_of_nonneg (by omega)]; omega
        have hw4 : IntKind.u64.wrap (t : Int) = (t : Int) := by rw [IntKind.wrap_u64]; omega
        have HS := Lib.hid hs0
        have HTT := Lib.hid ht0
        have HR := Lib.hid hr0
        have B0 := Lib.hid b0
        have B1 := Lib.hid b1
        clear f0 hs0 ht0 hr0 b0 b1
        go_wp2_with fail
        go_roundg (9 - (5 + 1))
        case measure => omega
        case rel =>
          have hs0 := HS.out
          have ht0 := HTT.out
          have hr0 := HR.out
          refine ⟨5 + 1, t, ⟨p0, p1, p2, p3, p4, r⟩, by omega, by omega, by go_num, rfl, ⟨o0, o1, o2, o3, o4, by show r < _; omega⟩, by omega, ?_, block_setCell (block_setCell B0.out _) _, set_other (set_other B1.out (by omega)) (by omega), (xr.setCell (by show _ ≤ G; omega) _).setCell (by show _ ≤ G; omega) _⟩
          rw [← HP.out]
          refine congrArg (fun z => z % M192) ?_
          rw [show (2 : Nat) ^ (32 * (5 + 1)) = 6277101735386680763835789423207666416102355444464034512896 from rfl, show (2 : Nat) ^ (32 * 5) = 1461501637330902918203684832716283019655932542976 from rfl]
          unfold W6.val
          simp only
          omega
    · have hfin : p.val = T := by
        rw [← hv]
        have hl := W6.lt hp
        by_cases hy0 : y = 0
        · subst hy0
          rw [Nat.zero_mul, Nat.add_zero, Nat.mod_eq_of_lt hl]
        · have hm' : m = 6 ∨ m = 7 ∨ m = 8 := by omega
          unfold M192 at *
          rcases hm' with rfl | rfl | rfl
          · rw [show (2 : Nat) ^ (32 * 6) = 6277101735386680763835789423207666416102355444464034512896 from rfl, Nat.add_mul_mod_self_right, Nat.mod_eq_of_lt hl]
          · rw [show (2 : Nat) ^ (32 * 7) = 4294967296 * 6277101735386680763835789423207666416102355444464034512896 from rfl, ← Nat.mul_assoc, Nat.add_mul_mod_self_right, Nat.mod_eq_of_lt hl]
          · rw [show (2 : Nat) ^ (32 * 8) = 18446744073709551616 * 6277101735386680763835789423207666416102355444464034512896 from rfl, ← Nat.mul_assoc, Nat.add_mul_mod_self_right, Nat.mod_eq_of_lt hl]
      have key : p.ok ∧ p.val = (q.val + x * 2 ^ (32 * n)) % M192 := ⟨hp, by rw [HT.out]; exact hfin⟩
      have KEY := Lib.hid key
      clear hfin hv hp key
      have hfinW : (wr.setRow (G + 1) p.cs).heap[G + 1]? = some (.cells p.cs 71 (0, 0)) := setRow_heap _ _ _ _ _ _ b1
      by_cases hm6 : (m : Int) < 6
      · have hy0 : ¬ (0 : Int) < (y : Int) := by omega
        clear h6
        go_wp2_with (first
          | ((with_reducible refine at_load 71 (.tmp 3) ?_); refine wpl_load (by rfl) 71 (.tmp 3) rfl G (by rfl) 71 p.cs (0, 0) _ b0 Tryd.underlying71 rfl (info6 p) ?_)
          | ((with_reducible refine at_store 71 (.tmp 6) (.tmp 32) ?_); refine wpl_store (by rfl) 71 (.tmp 6) (.tmp 32) rfl (G + 1) p.cs (by rfl) (by rfl) 71 _ b1 (info6 p) rfl (W6.one p) ?_))
        exact bodyPost_ret (results_cell_row rfl _ _ (G + 1) _ _ _ _ (by rfl) hfinW Tryd.underlying71 rfl (info6 p)) rfl ⟨p, rfl, KEY.out.1, KEY.out.2, xr.grown grown_row (fun k hk => by simp at hk; omega)⟩
      · clear h6
        go_wp2_with (first
          | ((with_reducible refine at_load 71 (.tmp 3) ?_); refine wpl_load (by rfl) 71 (.tmp 3) rfl G (by rfl) 71 p.cs (0, 0) _ b0 Tryd.underlying71 rfl (info6 p) ?_)
          | ((with_reducible refine at_store 71 (.tmp 6) (.tmp 32) ?_); refine wpl_store (by rfl) 71 (.tmp 6) (.tmp 32) rfl (G + 1) p.cs (by rfl) (by rfl) 71 _ b1 (info6 p) rfl (W6.one p) ?_))
        exact bodyPost_ret (results_cell_row rfl _ _ (G + 1) _ _ _ _ (by rfl) hfinW Tryd.underlying71 rfl (info6 p)) rfl ⟨p, rfl, KEY.out.1, KEY.out.2, xr.grown grown_row (fun k hk => by simp at hk; omega)⟩
end Go.Proofs.YtfnmfnihgocheaaDoor
