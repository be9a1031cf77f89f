/- The walks of the law's whole and wakes. -/
import Derived.Test.YtgcbkhmaabmdjaaDoorEdJ
import Derived.Test.YtgcbkhmaabmdjaaDoorEdB
import Derived.Test.YtgcbkhmaabmdjaaDoorEdC
namespace Go.Proofs.YtgcbkhmaabmdjaaDoor
open Go.RowKit
set_option linter.unusedVariables false

set_option maxHeartbeats 4000000 in
set_option maxRecDepth 100000 in
theorem whole (w : World) (v1 v2 : Value) (l1 l2 : List Ed) (h1 : IsFew w v1 l1) (h2 : IsE w v2 l2) :
    Calls Tryd.prog 12 #[v1, v2] w fun e w' => e = .returned (.bool (decide (l1 = l2))) ∧ Ext w w' := by
  have hE := h1.isE
  obtain ⟨g, c, rfl, hb, hc, ho, hl⟩ := h1
  have hat := (cells_at hc l1.length (by simp)).2.1
  rw [get_mid l1 [ed0] ed77 _ rfl] at hat
  have q1 : w.cell? ⟨g, l1.length * 4 + 1, none⟩ = some (.int .i64 77) := by rw [block_cell hb]; exact hat
  clear hat
  have h2' := h2
  obtain ⟨ao, cap, rfl, b1, m1, z1, g1⟩ := h2.opened
  clear z1 g1 ho hc
  generalize hd : decide (l1 = l2) = d
  have HD := Lib.hid hd
  have hln : ((l1.length : Int) + 1 ≤ (l1.length : Int) + 2) := by omega
  have hc := refSameE w _ _ l1 l2 hE h2'
  rw [hd] at hc
  clear hd
  go_enter Tryd.func12, Tryd.ntmps12
  cases d
  · go_wp2_with fail
    refine Calls.mono hc ?_
    rintro e w' ⟨rfl, x1⟩
    have x1 := toExt x1
    have q1 := x1.cell q1
    go_wp2
    go_ret
    exact ⟨rfl, x1⟩
  · go_wp2_with fail
    refine Calls.mono hc ?_
    rintro e w' ⟨rfl, x1⟩
    have x1 := toExt x1
    have q1 := x1.cell q1
    go_wp2
    go_ret
    exact ⟨rfl, x1⟩

def wk1 : Ed := ⟨⟨#[102]⟩, 1, 2, ⟨#[88, 89, 90]⟩⟩
def wk2 : Ed := ⟨⟨#[102]⟩, 4, 0, ⟨#[45]⟩⟩
def wkL : List Ed := [wk1, wk2]
theorem wk_one : oneL ⟨#[97, 98, 99, 100, 101, 102]⟩ ⟨#[102]⟩ wkL = (⟨#[97, 88, 89, 90, 100, 45, 101, 102]⟩, 0) := by
  unfold oneL chk okOne okNext ofL fitsL
  simp only [ByteArray.toList_eq]
  decide +kernel
theorem wk_m1 : movesR wkL ⟨#[102]⟩ 4 = some 6 := by
  unfold movesR chk okOne okNext ofL
  simp only [ByteArray.toList_eq]
  decide +kernel
theorem wk_m2 : movesR wkL ⟨#[102]⟩ 1 = none := by
  unfold movesR chk okOne okNext ofL
  simp only [ByteArray.toList_eq]
  decide +kernel
theorem wk_c : chk [wk1] = true := by
  unfold chk okOne okNext
  simp only [ByteArray.toList_eq]
  decide +kernel
theorem wk_ok : ∀ e ∈ wkL, edOk e := by
  intro e he
  simp only [wkL, List.mem_cons, List.not_mem_nil, or_false] at he
  rcases he with rfl | rfl
  · exact ⟨by decide, ⟨by decide, by decide⟩, ⟨by decide, by decide⟩, by decide⟩
  · exact ⟨by decide, ⟨by decide, by decide⟩, ⟨by decide, by decide⟩, by decide⟩
theorem wk_is (w : World) : IsE (w.alloc (.cells #[.string ⟨#[102]⟩, .int .i64 1, .int .i64 2, .string ⟨#[88, 89, 90]⟩, .string ⟨#[102]⟩, .int .i64 4, .int .i64 0, .string ⟨#[45]⟩] 40)) (.slice (some ⟨w.heap.size, 0, none⟩) 2 2) wkL := by
  refine ⟨⟨rfl, _, _, rfl, by decide, by decide, (fun h => by cases h), fun i hi => ⟨_, 0, rfl, ?_⟩⟩, wk_ok⟩
  rw [Nat.zero_add, World.cell?_alloc_new, ← Array.getElem?_toList]
  rfl
theorem wk_is1 {w : World} {b : Nat} (h : IsE w (.slice (some ⟨b, 0, none⟩) 2 2) wkL) : IsE w (.slice (some ⟨b, 0, none⟩) 1 2) [wk1] := by
  have := h.cut 0 1 2 (by decide) (by decide) (by decide) (by decide)
  simpa [wkL, Addr.add_lit] using this

set_option maxHeartbeats 4000000 in
set_option maxRecDepth 100000 in
theorem wakes (w : World) : Calls Tryd.prog 7 #[] w fun e w' => e = .returned (.bool true) ∧ Ext w w' := by
  have h0 := wk_is w
  have x0 := (Ext.refl w).alloc (.cells #[.string ⟨#[102]⟩, .int .i64 1, .int .i64 2, .string ⟨#[88, 89, 90]⟩, .string ⟨#[102]⟩, .int .i64 4, .int .i64 0, .string ⟨#[45]⟩] 40)
  go_enter Tryd.func7, Tryd.ntmps7
  go_wp2_with fail
  refine Calls.mono (editOne _ _ wkL _ _ h0 (by decide) (by decide)) ?_
  rintro e w1 ⟨rfl, x1⟩
  simp only [wk_one]
  have h1 := h0.ext x1
  have X1 := x0.trans x1
  clear h0 x0 x1
  go_wp2_with fail
  refine Calls.mono (editMoves _ _ wkL _ _ h1 (by decide)) ?_
  rintro e w2 ⟨rfl, x2⟩
  simp only [wk_m1, mvV, Option.getD_some, Option.isSome_some]
  have h2 := h1.ext x2
  have X2 := X1.trans x2
  clear h1 X1 x2
  go_wp2_with fail
  refine Calls.mono (editMoves _ _ wkL _ _ h2 (by decide)) ?_
  rintro e w3 ⟨rfl, x3⟩
  simp only [wk_m2, mvV, Option.getD_none, Option.isSome_none]
  have h3 := wk_is1 (h2.ext x3)
  have X3 := X2.trans x3
  clear h2 X2 x3
  go_wp2_with fail
  refine Calls.mono (editCheck _ _ [wk1] h3) ?_
  rintro e w4 ⟨rfl, x4⟩
  simp only [wk_c, show errE true = 0 from rfl]
  go_wp2
  go_ret
  exact ⟨rfl, X3.trans x4⟩
end Go.Proofs.YtgcbkhmaabmdjaaDoor
