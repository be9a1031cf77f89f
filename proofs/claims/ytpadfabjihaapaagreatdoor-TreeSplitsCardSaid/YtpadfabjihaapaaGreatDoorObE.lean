/- The walks of object.Same and of the reference's Same. -/
import Derived.Test.YtpadfabjihaapaaGreatDoorObD
namespace Go.Proofs.YtpadfabjihaapaaGreatDoor
open Go.RowKit
set_option linter.unusedVariables false
set_option linter.unusedSimpArgs false

/-- Are two objects the same? -/
def sameB (a b : ObjL) : Bool := (a.kind == b.kind) && ((a.bytes == b.bytes) && (listEq entEq a.ents b.ents && (decide (a.tree = b.tree) && (listEq idEq a.pars b.pars && (((a.num : Int) == (b.num : Int)) && (a.note.toList == b.note.toList))))))

set_option maxHeartbeats 8000000 in
set_option maxRecDepth 100000 in
theorem objSame (w : World) (QA QB : Array Value) (va1 va2 va3 vb1 vb2 vb3 : Value) (a b : ObjL) (ha : IsObj w QA va1 va2 va3 a) (hb : IsObj w QB vb1 vb2 vb3 b) :
    Calls Tryz.prog 74 #[.agg QA, .agg QB] w fun e w' => e = .returned (.bool (sameB a b)) ∧ Ext w w' := by
  have X : Ext w ((w.alloc (.cells QA 45)).alloc (.cells QB 45)) := ((Ext.refl w).alloc _).alloc _
  have hA := obj_at (blk_old (o := .cells QB 45) (heap_alloc_new w (.cells QA 45))) ha.eq ha.ok
  have hB := obj_at (blk_new (w := w.alloc (.cells QA 45)) (b := w.heap.size + 1) (o := .cells QB 45) (by simp)) hb.eq hb.ok
  have ha := ha.ext X
  have hb := hb.ext X
  obtain ⟨R, hR⟩ : ∃ R, R = sameB a b := ⟨_, rfl⟩
  rw [← hR]
  unfold sameB at hR
  have HR := Lib.hid hR
  have hti := fun w => eql_id w a.tree b.tree ha.ok.tree hb.ok.tree
  have hia := id_info ha.ok.tree
  have hib := id_info hb.ok.tree
  clear hR
  go_enter Tryz.func74, Tryz.ntmps74
  have a0 := hA.c0
  have a1 := hA.c1
  have a2 := hA.c2
  have a4 := hA.c4
  have a5 := hA.c5
  have a6 := hA.c6
  have b0 := hB.c0
  have b1 := hB.c1
  have b2 := hB.c2
  have b4 := hB.c4
  have b5 := hB.c5
  have b6 := hB.c6
  have HA := Lib.hid ha
  have HB := Lib.hid hb
  clear ha hb
  generalize hG : w.heap.size = G at *
  go_wp2_with (first
    | ((with_reducible refine at_load 31 (.tmp 25) ?_); refine wpl_mid (by rfl) 31 (.tmp 25) rfl G 3 (by rfl) (a.tree.map bc) _ hA.c3 Tryz.underlying31 rfl hia ?_)
    | ((with_reducible refine at_load 31 (.tmp 27) ?_); refine wpl_mid (by rfl) 31 (.tmp 27) rfl (G + 1) 3 (by rfl) (b.tree.map bc) _ hB.c3 Tryz.underlying31 rfl hib ?_)
    | (go_at_call 111; refine Calls.mono (octetEqual _ _ _ a.bytes b.bytes HA.out.vb HB.out.vb) ?_; rintro e w2 ⟨rfl, x⟩; have X := X.trans (toExt x); have HA := Lib.hid (HA.out.ext (toExt x)); have HB := Lib.hid (HB.out.ext (toExt x)); have hA := hA.ext (toExt x); have hB := hB.ext (toExt x); clear x; have a2 := hA.c2; have b2 := hB.c2; have a4 := hA.c4; have b4 := hB.c4; have a5 := hA.c5; have b5 := hB.c5; have a6 := hA.c6; have b6 := hB.c6)
    | (go_at_call 112; refine Calls.mono (slEqEnt _ _ _ a.ents b.ents HA.out.ve HB.out.ve HA.out.ok.ents HB.out.ok.ents) ?_; rintro e w2 ⟨rfl, x⟩; have X := X.trans x; have HA := Lib.hid (HA.out.ext x); have HB := Lib.hid (HB.out.ext x); have hA := hA.ext x; have hB := hB.ext x; clear x; have a4 := hA.c4; have b4 := hB.c4; have a5 := hA.c5; have b5 := hB.c5; have a6 := hA.c6; have b6 := hB.c6)
    | (go_at_call 113; refine Calls.mono (slEqId _ _ _ a.pars b.pars HA.out.vp HB.out.vp HA.out.ok.pars HB.out.ok.pars) ?_; rintro e w2 ⟨rfl, x⟩; have X := X.trans x; have HA := Lib.hid (HA.out.ext x); have HB := Lib.hid (HB.out.ext x); have hA := hA.ext x; have hB := hB.ext x; clear x; have a5 := hA.c5; have b5 := hB.c5; have a6 := hA.c6; have b6 := hB.c6))
  all_goals
    go_ret
    refine ⟨ret_bool ?_, X⟩
    rw [HR.out]
    simp [*]
end Go.Proofs.YtpadfabjihaapaaGreatDoor
