/- The walk of the statement ShaBlocks. -/
import Derived.Test.YtfnmfnihgocheaaDoorShI
import Derived.Deep.RegionHeld3
import Derived.Deep.MidRow
namespace Go.Proofs.YtfnmfnihgocheaaDoor
open Go.RowKit
set_option linter.unusedVariables false
set_option linter.unusedSimpArgs false

theorem part_u32 (w : World) (l : List Int) (i : Nat) (hi : i < l.length) : (part 28 (l.map uc32).toArray i).run Tryd.prog w = .ok (.int .u32 l[i]) w := by
  simp [part, go_sem, uc32, hi]
theorem equal_u32 (w : World) (d : Nat) (a : Int) : (Op.equalIn (d + 1) 28 (.int .u32 a) (.int .u32 a)).run Tryd.prog w = .ok true w := by
  simp only [Op.equalIn, Sem.run_bind, run_underlying Tryd.underlying28, Result.andThen_ok]
  simp [go_sem]
theorem eqItems_u32 (w : World) (d : Nat) (l : List Int) : ∀ is : List Nat, (∀ i ∈ is, i < l.length) → (Op.eqItems (d + 1) 28 1 (l.map uc32).toArray (l.map uc32).toArray is).run Tryd.prog w = .ok true w
  | [], _ => by simp [Op.eqItems]
  | i :: is, h => by
    have hi := h i (List.mem_cons_self ..)
    have ih := eqItems_u32 w d l is (fun j hj => h j (List.mem_cons_of_mem _ hj))
    simp only [Op.eqItems, Sem.run_bind, Nat.mul_one, part_u32 w l i hi, Result.andThen_ok, equal_u32]
    rw [← ih]
    simp
theorem infoU32 : (Tryd.prog.info? 28).isSome = true := by kernel_rfl
theorem equal_8 (w : World) (q : S8) : (Op.equalIn 10000 29 (.agg q.cs) (.agg q.cs)).run Tryd.prog w = .ok true w := by
  obtain ⟨i, hi⟩ := Option.isSome_iff_exists.1 infoU32
  rw [S8.cs_l, show (10000 : Nat) = 9998 + 1 + 1 from rfl, run_equalIn_array (P := Tryd.prog) (w := w) _ _ _ Tryd.underlying29 hi, show Tryd.prog.cellsOf 28 = 1 from by kernel_rfl]
  exact eqItems_u32 w _ q.l _ (fun i hi => by have := List.mem_range.1 hi; exact this)

set_option maxHeartbeats 4000000 in
set_option maxRecDepth 100000 in
theorem walkShaBlocks (w : World) (p0 p1 p2 p3 p4 p5 p6 p7 : Int) (l : List UInt8) (hl : l.length = 64) (hK : Tabs w) :
    Calls Tryd.prog 4 #[.agg (a8 p0 p1 p2 p3 p4 p5 p6 p7), .agg (l.map bc).toArray] w fun e w' => e = .returned (.bool true) ∧ Below w.heap.size w w' := by
  unfold a8
  go_enter Tryd.func4, Tryd.ntmps4
  go_wp2_with fail
  refine Calls.mono (wakes03 _ (hK.ext (((Ext.refl _).alloc _).alloc _))) ?_
  rintro e w1 ⟨rfl, x1⟩
  have b0 := x1.keeps (blk_old (blk_new (b := w.heap.size) rfl))
  have b1 := x1.keeps (blk_new (b := w.heap.size + 1) (by simp))
  have X1 : Ext w w1 := (((Ext.refl w).alloc _).alloc _).trans x1
  have hB : IsB w1 (.slice (some ⟨w.heap.size + 1, 0, none⟩) 64 64) l := (IsB.new (b := w.heap.size + 1) l (by simp) hl rfl (by omega)).ext x1
  generalize hG : w.heap.size = G at *
  obtain ⟨d0, d1, d2, d3, d4, d5, d6, d7⟩ := c8 b0
  have hr0 : w1.rangeAt (G + 1) 0 (l.map bc) := by
    intro j v hj
    rw [Nat.zero_add, block_cell b1]
    rw [← hj]
    simp
  have hu := Tryd.underlying30
  have hi : (Tryd.prog.info? 30).map (·.size) = some (l.map bc).length := by rw [List.length_map, hl]; kernel_rfl
  have hl64 : (l.map bc).length = 64 := by rw [List.length_map, hl]
  have h1c := bc_one l
  have hKr := hK.ext X1
  have heq8 : ∀ W, (Op.equalIn 10000 29 (.agg (blockS ⟨p0, p1, p2, p3, p4, p5, p6, p7⟩ l).cs) (.agg (blockS ⟨p0, p1, p2, p3, p4, p5, p6, p7⟩ l).cs)).run Tryd.prog W = .ok true W := fun W => equal_8 W _
  have HB0 := Lib.hid b0
  have HR0 := Lib.hid hr0
  have HB := Lib.hid hB
  clear b0 b1 hB
  go_wp2_with fail
  go_region_held3 (fun w' => w'.rangeAt (G + 1) 0 (l.map bc) ∧ w'.cell? ⟨G, 0, none⟩ = some (.int .u32 p0) ∧ w'.cell? ⟨G, 1, none⟩ = some (.int .u32 p1) ∧ w'.cell? ⟨G, 2, none⟩ = some (.int .u32 p2) ∧ w'.cell? ⟨G, 3, none⟩ = some (.int .u32 p3) ∧ w'.cell? ⟨G, 4, none⟩ = some (.int .u32 p4) ∧ w'.cell? ⟨G, 5, none⟩ = some (.int .u32 p5) ∧ w'.cell? ⟨G, 6, none⟩ = some (.int .u32 p6) ∧ w'.cell? ⟨G, 7, none⟩ = some (.int .u32 p7)) (first | (exact ⟨by assumption, by assumption, by assumption, by assumption, by assumption, by assumption, by assumption, by assumption, by assumption⟩) | go_keep_ranges)
    (first
      | (go_at_call 12; refine Calls.mono (shaBlock _ p0 p1 p2 p3 p4 p5 p6 p7 l hl ⟨fun i hi => hKr.k i hi, fun i hi => hKr.s i hi⟩) ?_; rintro e w5 ⟨rfl, x5⟩; have hh5 := x5.keeps HB0.out; obtain ⟨e0, e1, e2, e3, e4, e5, e6, e7⟩ := c8 hh5; have hr5 : w5.rangeAt (G + 1) 0 (l.map bc) := (fun j v hj => x5.cell (HR0.out j v hj)))
      | (go_at_call 14; refine Calls.mono (refTable _) ?_; rintro e w6 ⟨rfl, x6⟩; have hh6 := (x5.trans x6).keeps HB0.out; obtain ⟨g0, g1, g2, g3, g4, g5, g6, g7⟩ := c8 hh6; have hr6 : w6.rangeAt (G + 1) 0 (l.map bc) := (fun j v hj => (x5.trans x6).cell (HR0.out j v hj)))
      | (go_at_call 13; refine Calls.mono (refBlock _ p0 p1 p2 p3 p4 p5 p6 p7 _ l hl (HB.out.ext (((Ext.refl w1).drew.trans x5).trans x6))) ?_; rintro e w7 ⟨rfl, x7⟩; have hh7 := ((x5.trans x6).trans x7).keeps HB0.out; obtain ⟨g0, g1, g2, g3, g4, g5, g6, g7⟩ := c8 hh7; have hr7 : w7.rangeAt (G + 1) 0 (l.map bc) := (fun j v hj => ((x5.trans x6).trans x7).cell (HR0.out j v hj))))
  go_wp2
  go_ret
  exact ⟨rfl, ((X1.drew.trans x5).trans x6).trans x7⟩
end Go.Proofs.YtfnmfnihgocheaaDoor
