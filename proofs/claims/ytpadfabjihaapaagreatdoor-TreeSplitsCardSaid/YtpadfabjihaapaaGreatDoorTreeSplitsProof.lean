/- The tied card of TreeSplits: for every input the law returns true and leaves its arguments as they were; the tables of the packages sha and unicode/utf8 hold what their initialisers lay. Conditions: none beyond the card's own. -/
import Derived.Test.YtpadfabjihaapaaGreatDoorCards
import Derived.Test.YtpadfabjihaapaaGreatDoorTie
import Derived.Test.YtpadfabjihaapaaGreatDoorRpE
import Derived.Test.YtpadfabjihaapaaGreatDoorOpen
import Derived.Test.YtpadfabjihaapaaGreatDoorOpn
import Derived.Test.YtpadfabjihaapaaGreatDoorWtB
import Derived.WalkKit
import Derived.ProofKit
import Derived.OpenShut
import Derived.ShutString
import Derived.ChangeOld
import Derived.Below
import Derived.SizedLaws
import Derived.Carry
import Derived.Deep.DeepHandedRow
import Derived.Lib.LaidTab
import Derived.Lib.LaidIn
import Derived.Lib.LaidSlice
namespace Go.Proofs.YtpadfabjihaapaaGreatDoor.treeSplits
open Go.ChangeShapes Go.WideShapes Go.ChangeAt Go.RowKit Go.Proofs.YtpadfabjihaapaaGreatDoor
open Go.ChangeMaps (open_string shut_string)
set_option linter.unusedVariables false

theorem own : ownKnob Tryz.prog.godebug = none := by kernel_rfl
theorem laidOut : laidOutB Tryz.prog = true := by kernel_rfl
theorem gK : Tryz.prog.globalNamed "shipwright/sha.constants" = some 2 := by kernel_rfl
theorem gS : Tryz.prog.globalNamed "shipwright/sha.start" = some 1 := by kernel_rfl
theorem tK : (Tryz.prog.globals[2]?).map (·.type) = some 156 := by kernel_rfl
theorem tS : (Tryz.prog.globals[1]?).map (·.type) = some 158 := by kernel_rfl
theorem cell32 : Tryz.prog.cellsOf 43 = 1 := by kernel_rfl
theorem cell64 : Tryz.prog.cellsOf 156 = 64 := by kernel_rfl
theorem cell8 : Tryz.prog.cellsOf 158 = 8 := by kernel_rfl

def layK : Obj → Obj
  | .cells _ t fz => .cells (kTab.map uc32).toArray t fz
  | o => o
def layS : Obj → Obj
  | .cells _ t fz => .cells startS.cs t fz
  | o => o
def put (cs : Array Value) : Obj → Obj
  | .cells _ t fz => .cells cs t fz
  | o => o
/-- A world for the witness: the settled one, the tables holding what their initialisers lay. -/
noncomputable def laidWorld (os : Os) : World :=
  { World.holding Tryz.prog os ⟨#[], #[], []⟩ with heap := ((((World.holding Tryz.prog os ⟨#[], #[], []⟩).heap.modify 2 layK).modify 1 layS).modify 3 (put (Lib.firstTab.map fun z => Value.int .u8 z).toArray)).modify 4 (put ((List.range 16).flatMap fun i => [Value.int .u8 (Lib.accLo i), Value.int .u8 (Lib.accHi i)]).toArray) }
theorem tabs {W : World} (h : laidMetH Tryz.prog Rows.treeSplitsRow.laid W) : Tabs W := by
  obtain ⟨ps, ⟨g1, t1, c1, f1, p1, q1, _, _, _, _, ⟨g2, t2, c2, f2, p2, q2, hg2, ht2, v2, d2, ⟨g3, t3, c3, f3, p3, q3, hg3, ht3, v3, d3, _, _⟩, _⟩, _⟩, _⟩ := h
  have hk : Lib.TabIs Tryz.prog W "shipwright/sha.constants" .u32 kTab := by
    obtain rfl := Option.some.inj (gK.symm.trans hg2)
    obtain rfl := Option.some.inj (tK.symm.trans ht2)
    unfold Lib.TabIs
    rw [v2, ← Lib.cells_of_tab Tryz.underlying156 Tryz.underlying43 cell32 cell64 (show DataW.trod _ _ _ _ _ _ _ _ _ = some (Lib.tabData .u32 kTab, _) from d2)]
  have hs : Lib.TabIs Tryz.prog W "shipwright/sha.start" .u32 startS.l := by
    obtain rfl := Option.some.inj (gS.symm.trans hg3)
    obtain rfl := Option.some.inj (tS.symm.trans ht3)
    unfold Lib.TabIs
    rw [v3, ← Lib.cells_of_tab Tryz.underlying158 Tryz.underlying43 cell32 cell8 (show DataW.trod _ _ _ _ _ _ _ _ _ = some (Lib.tabData .u32 startS.l, _) from d3)]
  exact ⟨fun i hi => hk.cell gK i hi, fun i hi => hs.cell gS i hi⟩
set_option maxRecDepth 100000 in
theorem laid_met (os : Os) : laidMet Tryz.prog Rows.treeSplitsRow.laid ((laidWorld os).forCall (fun _ _ => 0) ⟨#[], #[Value.agg #[.slice none 0 0]], []⟩).memory :=
  laidMet_of_run' 8 (by kernel_rfl) (by kernel_rfl)
theorem reads (os : Os) {H : Type} (enc : TypeId × Value → H) : ∃ places, DataW.whole enc Tryz.prog ((laidWorld os).forCall (fun _ _ => 0) ⟨#[], #[Value.agg #[.slice none 0 0]], []⟩).memory Tryz.f3.params.toList Rows.treeSplitsSpec.vars false #[Value.agg #[.slice none 0 0]].toList 8 = some ([.agg [.nil]], [], places) :=
  ⟨[], by kernel_rfl⟩

set_option maxRecDepth 100000 in
theorem contract (H : Type) (enc : TypeId × Value → H) (W : World) (base : Nat) (args : Array Value) (ds gs : List (DataW H)) (before : List MemPlace)
    (hval : ∀ (j : Nat) t v, Tryz.f3.params[j]? = some t → args[j]? = some v → Value.okWide Tryz.prog W .any base t v)
    (hW : DataW.Whole enc Tryz.prog Tryz.f3.params.toList Rows.treeSplitsSpec.vars false W args.toList ds gs before)
    (hsz0 : (DataW.weightsEach Tryz.prog (Tryz.f3.params.toList ++ Rows.treeSplitsSpec.plain.varTypes Tryz.prog) (ds ++ gs)).all (· ≤ reachBytes) = true)
    (hL : laidMetH Tryz.prog Rows.treeSplitsRow.laid W) :
    Calls Tryz.prog 3 args W fun e W' => ∃ v, e = .returned v ∧ Rows.treeSplitsSpec.post enc Tryz.prog Tryz.f3 false true false false W args v W' := by
  have hT := tabs hL
  have hW' := hW
  obtain ⟨p, q, hA0, hV, rfl, hfz, hnd⟩ := hW
  have hA : DataW.TrodAll enc Tryz.prog W 0 (fun _ => true) true Tryz.f3.params.toList args.toList ds p := hA0
  rw [Tryz.params3] at hA hval
  have hsz := hsz0
  rw [Tryz.params3] at hsz
  obtain ⟨v0, vs0, d0, ds0, p0, q0, hargs, rfl, rfl, h0, r0⟩ := trodAll_cons hA
  obtain ⟨rfl, rfl, rfl⟩ := trodAll_nil r0
  obtain rfl : args = #[v0] := by cases args; simp_all
  obtain ⟨rfl, rfl⟩ := trodVars_none hV
  have k0 := h0
  have lt0 : ∀ x ∈ p0, x.block < W.heap.size := by obtain ⟨m, hm⟩ := k0; exact DataW.trod_lt m _ _ _ hm
  obtain ⟨l0, w0⟩ := open_repo (hval 0 24 v0 rfl rfl) h0 (light_of hsz 0 rfl rfl)
  clear hA0
  refine (walkTreeSplits W _ l0 w0 hT).mono fun e W' ⟨he, bel⟩ => ?_
  subst he
  exact ⟨_, rfl, _, _, _, [], _, [], hW', trodAll_mk1 (shut_bool Tryz.underlying4 _), (trodAll_cons_mk (Below.trod laidOut (by kernel_rfl) (of_decide_eq_true (by kernel_rfl)) k0 bel lt0) trodAll_mk0), rfl, bel.frame _, fun h => by cases h⟩

set_option maxRecDepth 100000 in
theorem lifted (os : Os) (started : os.Started) (H : Type) (enc : TypeId × Value → H) (F : Stop.Interp) :
    ReturnsInHanded {} Tryz.checked os 3 .any ((OpenSpec.ofChange Rows.treeSplitsSpec).preRow enc Tryz.prog Tryz.f3 Rows.treeSplitsRow.domain false Rows.treeSplitsRow.laid) (((OpenSpec.ofChange Rows.treeSplitsSpec).at F).post enc Tryz.prog Tryz.f3 false true false false) := by
  obtain ⟨places, hx⟩ := reads os enc
  refine returnsInHanded_of_row (C := Tryz.checked) (s := OpenSpec.ofChange Rows.treeSplitsSpec) own started (by kernel_rfl) Tryz.func3
    (witness_row_at (enc := enc) (C := Tryz.checked) false (laidWorld os) #[Value.agg #[.slice none 0 0]] rfl (by kernel_rfl) (by kernel_rfl) (by kernel_rfl)
      (OpenSpec.preRow_of_cond 8 hx (by kernel_rfl) (fun k hk => by cases hk) (by kernel_rfl) (laid_met os))) ?_
  intro W base args ds gs before hval hW _ _ hsz hL _ _
  exact contract H enc W base args ds gs before hval hW hsz hL

theorem said : Rows.TreeSplitsSaid :=
  OpenClaim.holds_of_cond 3 Tryz.f3 rfl rfl rfl rfl rfl rfl rfl ⟨rfl, rfl, rfl, rfl, rfl⟩ rfl rfl rfl rfl rfl (by kernel_rfl) Tryz.func3 (by kernel_rfl)
    (of_decide_eq_true (by kernel_rfl)) (by unfold Func.isWrapper; first | (rw [if_pos (by decide +kernel)]; kernel_rfl) | (rw [if_neg (by decide +kernel)]; exact ⟨rfl, rfl⟩))
    (fun os started H enc _ F => by rw [OpenClaim.pre_eq_preRow]; exact lifted os started H enc F)

theorem plain (f : FuncId) (fn : Func) (hf : Tryz.pinned.checked.prog.funcNamed "shipwright/shipwrightlaw07.TreeSplits" = some f) (hfn : Tryz.pinned.checked.prog.funcs[f]? = some fn) :
    false = Tryz.pinned.checked.prog.looks [] ∧ ∀ (j : Nat) t, fn.params[j]? = some t → Tryz.pinned.checked.prog.wantsStandIn t = false := by
  obtain rfl : f = 3 := Option.some.inj ((show Tryz.prog.funcNamed "shipwright/shipwrightlaw07.TreeSplits" = some 3 by kernel_rfl).symm.trans hf) |>.symm
  obtain rfl : fn = Tryz.f3 := (Option.some.inj (Tryz.func3.symm.trans hfn)).symm
  refine ⟨by kernel_rfl, fun j t ht => ?_⟩
  rw [Tryz.params3] at ht
  have hm : t ∈ [24] := by simpa using Array.mem_of_getElem? ht
  have hall : ([24].all fun u => !Tryz.prog.wantsStandIn u) = true := by kernel_rfl
  exact (show Tryz.prog.wantsStandIn t = false by simpa using List.all_eq_true.1 hall t hm)

theorem proved : Rows.TreeSplitsCardSaid :=
  Claim7.holds_tied_plain_at .later [] _ _ _ _ said (fun _ h => by cases h) (by kernel_rfl) (fun _ h => by cases h) treeSplits_row_tie rfl ⟨rfl, rfl⟩ (by kernel_rfl) rfl plain (by kernel_rfl)
end Go.Proofs.YtpadfabjihaapaaGreatDoor.treeSplits
