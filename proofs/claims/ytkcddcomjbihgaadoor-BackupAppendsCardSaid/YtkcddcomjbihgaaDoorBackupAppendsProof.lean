/- The tied card of BackupAppends: for every input the law returns true and leaves its arguments as they were; the two tables of package sha hold what their initialisers lay. Conditions: none beyond the card's own. -/
import Derived.Test.YtkcddcomjbihgaaDoorCards
import Derived.Test.YtkcddcomjbihgaaDoorTie
import Derived.Test.YtkcddcomjbihgaaDoorBkAx
import Derived.Test.YtkcddcomjbihgaaDoorOpen
import Derived.Test.YtkcddcomjbihgaaDoorOpn
import Derived.WalkKit
import Derived.ProofKit
import Derived.OpenShut
import Derived.ShutString
import Derived.ChangeOld
import Derived.Below
import Derived.SizedLaws
import Derived.Carry
import Derived.Deep.DeepHandedRow
import Derived.Lib.LaidTab
namespace Go.Proofs.YtkcddcomjbihgaaDoor.backupAppends
open Go.ChangeShapes Go.WideShapes Go.ChangeAt Go.RowKit Go.Proofs.YtkcddcomjbihgaaDoor
open Go.ChangeMaps (open_string shut_string)
set_option linter.unusedVariables false

theorem own : ownKnob Tryd.prog.godebug = none := by kernel_rfl
theorem laidOut : laidOutB Tryd.prog = true := by kernel_rfl
theorem gK : Tryd.prog.globalNamed "shipwright/sha.constants" = some 1 := by kernel_rfl
theorem gS : Tryd.prog.globalNamed "shipwright/sha.start" = some 0 := by kernel_rfl
theorem tK : (Tryd.prog.globals[1]?).map (·.type) = some 131 := by kernel_rfl
theorem tS : (Tryd.prog.globals[0]?).map (·.type) = some 133 := by kernel_rfl
theorem cell32 : Tryd.prog.cellsOf 25 = 1 := by kernel_rfl
theorem cell64 : Tryd.prog.cellsOf 131 = 64 := by kernel_rfl
theorem cell8 : Tryd.prog.cellsOf 133 = 8 := by kernel_rfl

def layK : Obj → Obj
  | .cells _ t fz => .cells (kTab.map uc32).toArray t fz
  | o => o
def layS : Obj → Obj
  | .cells _ t fz => .cells startS.cs t fz
  | o => o
/-- A world for the witness: the settled one, the two tables holding what their initialisers lay. -/
noncomputable def laidWorld (os : Os) : World :=
  { World.holding Tryd.prog os ⟨#[], #[], []⟩ with heap := ((World.holding Tryd.prog os ⟨#[], #[], []⟩).heap.modify 1 layK).modify 0 layS }
theorem tabs {W : World} (h : laidMetH Tryd.prog Rows.backupAppendsRow.laid W) : Tabs W := by
  have hk : Lib.TabIs Tryd.prog W "shipwright/sha.constants" .u32 kTab := Lib.tabIs_of_head gK tK Tryd.underlying131 Tryd.underlying25 cell32 cell64 h
  have hs : Lib.TabIs Tryd.prog W "shipwright/sha.start" .u32 startS.l := by
    obtain ⟨ps, ⟨g0, t0, c0, f0, p0, q0, _, _, _, _, ⟨g', t', cs, fuel, p, q, hg', ht', hvar, hd, _, _⟩, _⟩, _⟩ := h
    obtain rfl := Option.some.inj (gS.symm.trans hg')
    obtain rfl := Option.some.inj (tS.symm.trans ht')
    unfold Lib.TabIs
    rw [hvar, ← Lib.cells_of_tab Tryd.underlying133 Tryd.underlying25 cell32 cell8 (show DataW.trod _ _ _ _ _ _ _ _ _ = some (Lib.tabData .u32 startS.l, _) from hd)]
  exact ⟨fun i hi => hk.cell gK i hi, fun i hi => hs.cell gS i hi⟩
set_option maxRecDepth 100000 in
theorem laid_met (os : Os) : laidMet Tryd.prog Rows.backupAppendsRow.laid ((laidWorld os).forCall (fun _ _ => 0) ⟨#[], #[wPeer, Value.slice none 0 0, wView], []⟩).memory :=
  laidMet_of_run' 8 (by kernel_rfl) (by kernel_rfl)
theorem reads (os : Os) {H : Type} (enc : TypeId × Value → H) : ∃ places, DataW.whole enc Tryd.prog ((laidWorld os).forCall (fun _ _ => 0) ⟨#[], #[wPeer, Value.slice none 0 0, wView], []⟩).memory Tryd.f5.params.toList Rows.backupAppendsSpec.vars false #[wPeer, Value.slice none 0 0, wView].toList 8 = some ([.agg [.lit (.int .i64 0), .agg [.lit (.int .u32 0), .lit (.int .i64 0), .lit (.int .i64 0)], .agg [.lit (.int .u32 0), .lit (.int .u32 0)], .nil, .lit (.bool false), .lit (.bool false), .lit (.bool false), .lit (.int .u32 0)], .nil, .agg [.lit (.int .u32 0), .lit (.int .i64 0), .lit (.int .i64 0)]], [], places) :=
  ⟨[], by kernel_rfl⟩

set_option maxRecDepth 100000 in
theorem open_bs {H : Type} {enc : TypeId × Value → H} {w : World} {v : Value} {d : DataW H} {p : List MemPlace} {r : Reach} {b0 : Nat}
    (hv : Value.okWide Tryd.prog w r b0 28 v) (h : DataW.Trod enc Tryd.prog w 0 (fun _ => true) true 28 v d p) : ∃ l : List UInt8, IsB w v l := by
  obtain ⟨xs, h1, _, _⟩ := open_sl Tryd.underlying28 (k := 1) (by kernel_rfl) (by omega) (fun x : UInt8 => [bc x]) (fun _ => True) (fun n cs y h => by
    obtain ⟨z, rfl, _, hw⟩ := DataW.trod_int Tryd.underlying5 h
    have hz : 0 ≤ z ∧ z ≤ 255 := by simpa [Lit.wf, IntKind.min, IntKind.max, IntKind.signed, IntKind.bits] using hw
    refine ⟨UInt8.ofNat z.toNat, ?_, rfl, trivial⟩
    rw [bc_ofNat, show ((z.toNat : Int)) % 256 = z from by omega]) hv h
  refine ⟨xs, ?_⟩
  have e : ∀ xs : List UInt8, xs.flatMap (fun x : UInt8 => [bc x]) = xs.map bc := by
    intro xs
    induction xs with
    | nil => rfl
    | cons x xs ih => rw [List.flatMap_cons, ih]; rfl
  rw [e] at h1
  exact h1

set_option maxRecDepth 100000 in
theorem contract (H : Type) (enc : TypeId × Value → H) (W : World) (base : Nat) (args : Array Value) (ds gs : List (DataW H)) (before : List MemPlace)
    (hval : ∀ (j : Nat) t v, Tryd.f5.params[j]? = some t → args[j]? = some v → Value.okWide Tryd.prog W .any base t v)
    (hW : DataW.Whole enc Tryd.prog Tryd.f5.params.toList Rows.backupAppendsSpec.vars false W args.toList ds gs before)
    (hsz0 : (DataW.weightsEach Tryd.prog (Tryd.f5.params.toList ++ Rows.backupAppendsSpec.plain.varTypes Tryd.prog) (ds ++ gs)).all (· ≤ reachBytes) = true)
    (hL : laidMetH Tryd.prog Rows.backupAppendsRow.laid W) :
    Calls Tryd.prog 5 args W fun e W' => ∃ v, e = .returned v ∧ Rows.backupAppendsSpec.post enc Tryd.prog Tryd.f5 false true false false W args v W' := by
  have hT := tabs hL
  have hW' := hW
  obtain ⟨p, q, hA0, hV, rfl, hfz, hnd⟩ := hW
  have hA : DataW.TrodAll enc Tryd.prog W 0 (fun _ => true) true Tryd.f5.params.toList args.toList ds p := hA0
  rw [Tryd.params5] at hA hval
  have hsz := hsz0
  rw [Tryd.params5] at hsz
  obtain ⟨v0, vs0, d0, ds0, p0, q0, hargs, rfl, rfl, h0, r0⟩ := trodAll_cons hA
  obtain ⟨v1, vs1, d1, ds1, p1, q1, rfl, rfl, rfl, h1, r1⟩ := trodAll_cons r0
  obtain ⟨v2, vs2, d2, ds2, p2, q2, rfl, rfl, rfl, h2, r2⟩ := trodAll_cons r1
  obtain ⟨rfl, rfl, rfl⟩ := trodAll_nil r2
  obtain rfl : args = #[v0, v1, v2] := by cases args; simp_all
  obtain ⟨rfl, rfl⟩ := trodVars_none hV
  have k0 := h0
  have lt0 : ∀ x ∈ p0, x.block < W.heap.size := by obtain ⟨m, hm⟩ := k0; exact DataW.trod_lt m _ _ _ hm
  have k1 := h1
  have lt1 : ∀ x ∈ p1, x.block < W.heap.size := by obtain ⟨m, hm⟩ := k1; exact DataW.trod_lt m _ _ _ hm
  have k2 := h2
  have lt2 : ∀ x ∈ p2, x.block < W.heap.size := by obtain ⟨m, hm⟩ := k2; exact DataW.trod_lt m _ _ _ hm
  obtain ⟨l0, w0⟩ := open_peer (hval 0 47 v0 rfl rfl) h0 (light_of hsz 0 rfl rfl)
  obtain ⟨l1, w1⟩ := open_bs (hval 1 28 v1 rfl rfl) h1
  obtain ⟨l2, w2⟩ := open_view (hval 2 44 v2 rfl rfl) h2 (light_of hsz 2 rfl rfl)
  clear hA0
  refine (walkBackupAppends W _ l0 w0 _ l1 w1 _ l2 w2 hT).mono fun e W' ⟨he, bel⟩ => ?_
  subst he
  exact ⟨_, rfl, _, _, _, [], _, [], hW', trodAll_mk1 (shut_bool Tryd.underlying4 _), (trodAll_cons_mk (Below.trod laidOut (by kernel_rfl) (of_decide_eq_true (by kernel_rfl)) k0 bel lt0) (trodAll_cons_mk (Below.trod laidOut (by kernel_rfl) (of_decide_eq_true (by kernel_rfl)) k1 bel lt1) (trodAll_cons_mk (Below.trod laidOut (by kernel_rfl) (of_decide_eq_true (by kernel_rfl)) k2 bel lt2) trodAll_mk0))), rfl, bel.frame _, fun h => by cases h⟩

set_option maxRecDepth 100000 in
theorem lifted (os : Os) (started : os.Started) (H : Type) (enc : TypeId × Value → H) (F : Stop.Interp) :
    ReturnsInHanded {} Tryd.checked os 5 .any ((OpenSpec.ofChange Rows.backupAppendsSpec).preRow enc Tryd.prog Tryd.f5 Rows.backupAppendsRow.domain false Rows.backupAppendsRow.laid) (((OpenSpec.ofChange Rows.backupAppendsSpec).at F).post enc Tryd.prog Tryd.f5 false true false false) := by
  obtain ⟨places, hx⟩ := reads os enc
  refine returnsInHanded_of_row (C := Tryd.checked) (s := OpenSpec.ofChange Rows.backupAppendsSpec) own started (by kernel_rfl) Tryd.func5
    (witness_row_at (enc := enc) (C := Tryd.checked) false (laidWorld os) #[wPeer, Value.slice none 0 0, wView] rfl (by kernel_rfl) (by kernel_rfl) (by kernel_rfl)
      (OpenSpec.preRow_of_cond 8 hx (by kernel_rfl) (fun k hk => by cases hk) (by kernel_rfl) (laid_met os))) ?_
  intro W base args ds gs before hval hW _ _ hsz hL _ _
  exact contract H enc W base args ds gs before hval hW hsz hL

theorem said : Rows.BackupAppendsSaid :=
  OpenClaim.holds_of_cond 5 Tryd.f5 rfl rfl rfl rfl rfl rfl rfl ⟨rfl, rfl, rfl, rfl, rfl⟩ rfl rfl rfl rfl rfl (by kernel_rfl) Tryd.func5 (by kernel_rfl)
    (of_decide_eq_true (by kernel_rfl)) (by unfold Func.isWrapper; first | (rw [if_pos (by decide +kernel)]; kernel_rfl) | (rw [if_neg (by decide +kernel)]; exact ⟨rfl, rfl⟩))
    (fun os started H enc _ F => by rw [OpenClaim.pre_eq_preRow]; exact lifted os started H enc F)

theorem plain (f : FuncId) (fn : Func) (hf : Tryd.pinned.checked.prog.funcNamed "shipwright/shipwrightlaw26.BackupAppends" = some f) (hfn : Tryd.pinned.checked.prog.funcs[f]? = some fn) :
    false = Tryd.pinned.checked.prog.looks [] ∧ ∀ (j : Nat) t, fn.params[j]? = some t → Tryd.pinned.checked.prog.wantsStandIn t = false := by
  obtain rfl : f = 5 := Option.some.inj ((show Tryd.prog.funcNamed "shipwright/shipwrightlaw26.BackupAppends" = some 5 by kernel_rfl).symm.trans hf) |>.symm
  obtain rfl : fn = Tryd.f5 := (Option.some.inj (Tryd.func5.symm.trans hfn)).symm
  refine ⟨by kernel_rfl, fun j t ht => ?_⟩
  rw [Tryd.params5] at ht
  have hm : t ∈ [47, 28, 44] := by simpa using Array.mem_of_getElem? ht
  have hall : ([47, 28, 44].all fun u => !Tryd.prog.wantsStandIn u) = true := by kernel_rfl
  exact (show Tryd.prog.wantsStandIn t = false by simpa using List.all_eq_true.1 hall t hm)

theorem proved : Rows.BackupAppendsCardSaid :=
  Claim7.holds_tied_plain_at .later [] _ _ _ _ said (fun _ h => by cases h) (by kernel_rfl) (fun _ h => by cases h) backupAppends_row_tie rfl ⟨rfl, rfl⟩ (by kernel_rfl) rfl plain (by kernel_rfl)
end Go.Proofs.YtkcddcomjbihgaaDoor.backupAppends
