/- Backup: follow$1. -/
import Derived.Test.YtkcddcomjbihgaaDoorBkN
namespace Go.Proofs.YtkcddcomjbihgaaDoor
open Go.RowKit
set_option linter.unusedVariables false
set_option linter.unusedSimpArgs false

set_option maxHeartbeats 2000000 in
set_option maxRecDepth 100000 in
theorem bkAck (w : World) (vl : Value) (p : Pr) (m : Mk) (B BQ : Nat) (t : TypeId) (hB : w.heap[B]? = some (.cells #[.pointer (some ⟨BQ, 0, none⟩)] t (0, 0))) (hQ : w.heap[BQ]? = some (.cells #[.int .i64 p.me, .int .u32 (p.v.n : Int), .int .i64 p.v.p, .int .i64 p.v.b, .int .u32 (p.base.1 : Int), .int .u32 (p.base.2 : Int), vl, .bool p.known, .bool p.joined, .bool p.instep, .int .u32 (p.acked : Int)] 47 (0, 0))) (hp : PrOk p) (hm : mkOk m) (hK : Tabs w) :
    Calls Tryd.prog 92 #[.agg #[.int .u32 (m.1 : Int), .int .u32 (m.2 : Int)], .pointer (some ⟨B, 0, none⟩)] w (LtPost w [⟨otherI p, encN ⟨5, p.v.n, m, m0, []⟩⟩]) := by
  go_enter Tryd.func92, Tryd.ntmps92
  go_upto_region 1 with fail
  refine wp_forget (fun W => Tabs W ∧ Ext w W ∧ W.heap[B]? = some (.cells #[.pointer (some ⟨BQ, 0, none⟩)] t (0, 0)) ∧ W.heap[BQ]? = some (.cells #[.int .i64 p.me, .int .u32 (p.v.n : Int), .int .i64 p.v.p, .int .i64 p.v.b, .int .u32 (p.base.1 : Int), .int .u32 (p.base.2 : Int), vl, .bool p.known, .bool p.joined, .bool p.instep, .int .u32 (p.acked : Int)] 47 (0, 0)) ∧ W.heap[w.heap.size]? = some (.cells #[.int .u32 (m.1 : Int), .int .u32 (m.2 : Int)] 27 (0, 0))) ⟨hK.ext ((Ext.refl w).alloc _), (Ext.refl w).alloc _, blk_old hB, blk_old hQ, heap_alloc_new w _⟩ ?_
  rintro W ⟨hK, X, b1, bP, bM⟩
  have K1 := fun v (h : Ext W v) => block_all (h.keeps b1)
  have KP := fun v (h : Ext W v) => block_all (h.keeps bP)
  have KM := fun v (h : Ext W v) => block_all (h.keeps bM)
  have HK := Lib.hid hK
  have HX := Lib.hid X
  have hXz := X.size
  clear hK X b1 bP bM hB hQ
  refine wp_region_G 7 (fun v => Ext W v) (by kernel_rfl) fun wd hqd hHeld => ?_
  refine G_take (i := 0) (u := ?va0) rfl (by kernel_rfl) (by kernel_rfl) (by kernel_rfl) (fun _ _ _ h => h) rfl (by kernel_rfl) (by decide) (by rfl) (Or.inl ⟨by rfl, ?hya0⟩) hHeld ?_
  case hya0 => (intro w hSw; go_simp; try with_reducible rfl)
  simp only [Act.put, List.setIfInBounds_toArray, List.set_cons_zero, List.set_cons_succ, List.getElem_toArray, List.getElem_cons_zero, List.getElem_cons_succ]
  refine G_pure (i := 1) (u := ?va1) rfl (by kernel_rfl) (by kernel_rfl) (by kernel_rfl) (fun _ _ _ h => h) (by decide) (Or.inl ⟨by rfl, ?hya1⟩) hHeld ?_
  case hya1 => (intro w hSw; go_simp; try with_reducible rfl)
  simp only [Act.put, List.setIfInBounds_toArray, List.set_cons_zero, List.set_cons_succ, List.getElem_toArray, List.getElem_cons_zero, List.getElem_cons_succ]
  refine G_take (i := 2) (u := ?va2) rfl (by kernel_rfl) (by kernel_rfl) (by kernel_rfl) (fun _ _ _ h => h) rfl (by kernel_rfl) (by decide) (by rfl) (Or.inl ⟨by rfl, ?hya2⟩) hHeld ?_
  case hya2 => (intro w hSw; go_simp; try with_reducible rfl)
  simp only [Act.put, List.setIfInBounds_toArray, List.set_cons_zero, List.set_cons_succ, List.getElem_toArray, List.getElem_cons_zero, List.getElem_cons_succ]
  refine G_take (i := 3) (u := ?va3) rfl (by kernel_rfl) (by kernel_rfl) (by kernel_rfl) (fun _ _ _ h => h) rfl (by kernel_rfl) (by decide) (by rfl) (Or.inl ⟨by rfl, ?hya3⟩) hHeld ?_
  case hya3 => (intro w hSw; go_simp; try with_reducible rfl)
  simp only [Act.put, List.setIfInBounds_toArray, List.set_cons_zero, List.set_cons_succ, List.getElem_toArray, List.getElem_cons_zero, List.getElem_cons_succ]
  refine G_pure (i := 4) (u := ?va4) rfl (by kernel_rfl) (by kernel_rfl) (by kernel_rfl) (fun _ _ _ h => h) (by decide) (Or.inl ⟨by rfl, ?hya4⟩) hHeld ?_
  case hya4 => (intro w hSw; go_simp; try with_reducible rfl)
  simp only [Act.put, List.setIfInBounds_toArray, List.set_cons_zero, List.set_cons_succ, List.getElem_toArray, List.getElem_cons_zero, List.getElem_cons_succ]
  refine G_all (rs := [5]) (by kernel_rfl) (by simp) ?_
  intro i hi; obtain rfl : i = 5 := by simpa using hi
  refine wpOp_run rfl (by rfl) ?_
  go_simp
  refine Calls.mono (bkLetter _ _ (.slice none 0 0) p ⟨5, 0, m, m0, []⟩ (IsB.nil _) hp ⟨(by show i64Ok 5; constructor <;> decide), (by show (0:Nat) < _; omega), hm, m0Ok⟩ (by show (0:Nat) ≤ _; omega) (HK.out.ext hHeld)) ?_
  rintro e w5 ⟨v5, rfl, own5, x5⟩
  have own5 := ownsRow_base own5 (Nat.le_trans hXz hHeld.size)
  obtain ⟨a5, c5, rfl⟩ := own_shape own5
  have hHeld := hHeld.trans x5
  first | refine ⟨fun _ => hHeld, ?_⟩ | refine ⟨hHeld, ?_⟩
  try simp only [Act.put, List.setIfInBounds_toArray, List.set_cons_zero, List.set_cons_succ, List.getElem_toArray, List.getElem_cons_zero, List.getElem_cons_succ]
  refine G_all (rs := [6]) (by kernel_rfl) (by simp) ?_
  intro i hi; obtain rfl : i = 6 := by simpa using hi
  refine wpOp_run rfl (by rfl) ?_
  refine wp_buildOne 49 (.tmp 9) rfl (ltV ⟨otherI p, encN ⟨5, p.v.n, m, m0, []⟩⟩ (a5, c5)) (by rfl) (build_one _ 49 88 2 Tryd.underlying49 infoLt2 (by omega) (by omega) _ rfl) ?_
  have xb : Ext w5 (w5.alloc (.cells (ltV ⟨otherI p, encN ⟨5, p.v.n, m, m0, []⟩⟩ (a5, c5)).toArray 88)) := (Ext.refl w5).alloc _
  have LO := lt_one (Nat.le_trans hXz hHeld.size) (e := ⟨otherI p, encN ⟨5, p.v.n, m, m0, []⟩⟩) (u := (a5, c5)) own5
  have hHeld := hHeld.trans xb
  first | refine ⟨fun _ => hHeld, ?_⟩ | refine ⟨hHeld, ?_⟩
  try simp only [Act.put, List.setIfInBounds_toArray, List.set_cons_zero, List.set_cons_succ, List.getElem_toArray, List.getElem_cons_zero, List.getElem_cons_succ]
  refine G_all (rs := [7]) (by kernel_rfl) (by simp) ?_
  intro i hi; obtain rfl : i = 7 := by simpa using hi
  refine wpOp_run rfl (by rfl) ?_
  go_simp
  try refine ⟨fun e => absurd e (by decide), ?_⟩
  refine G_free _ _ _ _ (by kernel_rfl) ?_
  try simp only [Act.put, List.setIfInBounds_toArray, List.set_cons_zero, List.set_cons_succ, List.getElem_toArray, List.getElem_cons_zero, List.getElem_cons_succ]
  refine wpAny_done (by kernel_rfl) ?_ _
  refine NoPanic.normal ?_
  go_wp2_with fail
  go_ret
  exact ⟨.slice (some ⟨w5.heap.size, 0, none⟩) 1 1, [(a5, c5)], rfl, LO, HX.out.trans hHeld⟩
end Go.Proofs.YtkcddcomjbihgaaDoor
