/- The tied card of ShaTexts: for every input the law returns true and leaves its arguments as they were; the two tables of package sha hold what their initialisers lay. Conditions: none beyond the card's own. -/
import Derived.Test.YtfnmfnihgocheaaDoorCards
import Derived.Test.YtfnmfnihgocheaaDoorTie
import Derived.Test.YtfnmfnihgocheaaDoorShQ
import Derived.Test.YtfnmfnihgocheaaDoorOpen
import Derived.WalkKit
import Derived.ProofKit
import Derived.OpenShut
import Derived.ShutString
import Derived.ChangeOld
import Derived.Below
import Derived.SizedLaws
import Derived.Carry
import Derived.Deep.DeepHandedRow
import Derived.Lib.LaidTab
namespace Go.Proofs.YtfnmfnihgocheaaDoor.shaTexts
open Go.ChangeShapes Go.WideShapes Go.ChangeAt Go.RowKit Go.Proofs.YtfnmfnihgocheaaDoor
open Go.ChangeMaps (open_string shut_string)
set_option linter.unusedVariables false

theorem own : ownKnob Tryd.prog.godebug = none := by kernel_rfl
theorem laidOut : laidOutB Tryd.prog = true := by kernel_rfl
theorem gK : Tryd.prog.globalNamed "shipwright/sha.constants" = some 0 := by kernel_rfl
theorem gS : Tryd.prog.globalNamed "shipwright/sha.start" = some 1 := by kernel_rfl
theorem tK : (Tryd.prog.globals[0]?).map (·.type) = some 33 := by kernel_rfl
theorem tS : (Tryd.prog.globals[1]?).map (·.type) = some 29 := by kernel_rfl
theorem cell32 : Tryd.prog.cellsOf 28 = 1 := by kernel_rfl
theorem cell64 : Tryd.prog.cellsOf 33 = 64 := by kernel_rfl
theorem cell8 : Tryd.prog.cellsOf 29 = 8 := by kernel_rfl

def layK : Obj → Obj
  | .cells _ t fz => .cells (kTab.map uc32).toArray t fz
  | o => o
def layS : Obj → Obj
  | .cells _ t fz => .cells startS.cs t fz
  | o => o
/-- A world for the witness: the settled one, the two tables holding what their initialisers lay. -/
noncomputable def laidWorld (os : Os) : World :=
  { World.holding Tryd.prog os ⟨#[], #[], []⟩ with heap := ((World.holding Tryd.prog os ⟨#[], #[], []⟩).heap.modify 0 layK).modify 1 layS }
theorem tabs {W : World} (h : laidMetH Tryd.prog Rows.shaTextsRow.laid W) : Tabs W := by
  have hk : Lib.TabIs Tryd.prog W "shipwright/sha.constants" .u32 kTab := Lib.tabIs_of_head gK tK Tryd.underlying33 Tryd.underlying28 cell32 cell64 h
  have hs : Lib.TabIs Tryd.prog W "shipwright/sha.start" .u32 startS.l := by
    obtain ⟨ps, ⟨g0, t0, c0, f0, p0, q0, _, _, _, _, ⟨g', t', cs, fuel, p, q, hg', ht', hvar, hd, _, _⟩, _⟩, _⟩ := h
    obtain rfl := Option.some.inj (gS.symm.trans hg')
    obtain rfl := Option.some.inj (tS.symm.trans ht')
    unfold Lib.TabIs
    rw [hvar, ← Lib.cells_of_tab Tryd.underlying29 Tryd.underlying28 cell32 cell8 (show DataW.trod _ _ _ _ _ _ _ _ _ = some (Lib.tabData .u32 startS.l, _) from hd)]
  exact ⟨fun i hi => hk.cell gK i hi, fun i hi => hs.cell gS i hi⟩
set_option maxRecDepth 100000 in
theorem laid_met (os : Os) : laidMet Tryd.prog Rows.shaTextsRow.laid ((laidWorld os).forCall (fun _ _ => 0) ⟨#[], #[Value.agg ((List.replicate 32 (0 : UInt8)).map bc).toArray, Value.agg ((List.replicate 32 (0 : UInt8)).map bc).toArray, Value.string ByteArray.empty], []⟩).memory :=
  laidMet_of_run' 8 (by kernel_rfl) (by kernel_rfl)
theorem reads (os : Os) {H : Type} (enc : TypeId × Value → H) : ∃ places, DataW.whole enc Tryd.prog ((laidWorld os).forCall (fun _ _ => 0) ⟨#[], #[Value.agg ((List.replicate 32 (0 : UInt8)).map bc).toArray, Value.agg ((List.replicate 32 (0 : UInt8)).map bc).toArray, Value.string ByteArray.empty], []⟩).memory Tryd.f8.params.toList Rows.shaTextsSpec.vars false #[Value.agg ((List.replicate 32 (0 : UInt8)).map bc).toArray, Value.agg ((List.replicate 32 (0 : UInt8)).map bc).toArray, Value.string ByteArray.empty].toList 8 = some ([.agg (List.replicate 32 (.lit (.int .u8 0))), .agg (List.replicate 32 (.lit (.int .u8 0))), .lit (.string [])], [], places) :=
  ⟨[], by kernel_rfl⟩

section
variable {H : Type} {enc : TypeId × Value → H} {w : World}
theorem open_arr1 {t e : TypeId} {n : Nat} (ht : Tryd.prog.underlying t = some (.array n e)) (hce : Tryd.prog.cellsOf e = 1) (hct : Tryd.prog.cellsOf t = n) {v : Value} {d : DataW H} {p : List MemPlace} {r : Reach} {b0 : Nat}
    (hv : Value.okWide Tryd.prog w r b0 t v) (h : DataW.Trod enc Tryd.prog w 0 (fun _ => true) true t v d p) : ∃ cs : List Value, v = .agg cs.toArray ∧ cs.length = n ∧ ∀ i, i < n → ∃ m y, DataW.trod enc Tryd.prog w 0 (fun _ => true) true m e ((cs.drop i).take 1) = some y := by
  have hv2 : ∃ cs : Array Value, v = .agg cs ∧ cs.size = Tryd.prog.cellsOf t := by
    simp only [Value.okWide, ht] at hv
    obtain ⟨cs, h1, h2, _⟩ := hv
    exact ⟨cs, h1, h2⟩
  obtain ⟨⟨cs⟩, rfl, hs⟩ := hv2
  obtain ⟨fuel, hf⟩ := h
  obtain ⟨xs, m, h1, h2, h3, h4, h5⟩ := DataW.trod_array ht hf
  simp only [Value.cells] at h3 h5
  refine ⟨cs, rfl, by rw [← hct]; simpa using h3, fun i hi => ?_⟩
  have h6 := h5 i hi
  rw [hce, Nat.mul_one] at h6
  rw [List.getElem?_eq_getElem (by omega)] at h6
  exact ⟨m, _, h6⟩
theorem open_arr_int {t e : TypeId} {n : Nat} {k : IntKind} (ht : Tryd.prog.underlying t = some (.array n e)) (he : Tryd.prog.underlying e = some (.int k)) (hce : Tryd.prog.cellsOf e = 1) (hct : Tryd.prog.cellsOf t = n) {v : Value} {d : DataW H} {p : List MemPlace} {r : Reach} {b0 : Nat}
    (hv : Value.okWide Tryd.prog w r b0 t v) (h : DataW.Trod enc Tryd.prog w 0 (fun _ => true) true t v d p) : ∃ cs : List Value, v = .agg cs.toArray ∧ cs.length = n ∧ ∀ i, i < n → ∃ z, cs[i]? = some (.int k z) ∧ (Lit.int k z).wf = true := by
  obtain ⟨cs, rfl, hl, hc⟩ := open_arr1 ht hce hct hv h
  refine ⟨cs, rfl, hl, fun i hi => ?_⟩
  obtain ⟨m, y, hy⟩ := hc i hi
  obtain ⟨z, e1, _, hw⟩ := DataW.trod_int he hy
  refine ⟨z, ?_, hw⟩
  have := congrArg (fun q => q[0]?) e1
  simpa [List.getElem?_take, List.getElem?_drop] using this
theorem open_id {v : Value} {d : DataW H} {p : List MemPlace} {r : Reach} {b0 : Nat}
    (hv : Value.okWide Tryd.prog w r b0 25 v) (h : DataW.Trod enc Tryd.prog w 0 (fun _ => true) true 25 v d p) : ∃ l : List UInt8, l.length = 32 ∧ v = .agg (l.map bc).toArray := by
  obtain ⟨cs, rfl, hl, hc⟩ := open_arr_int Tryd.underlying25 Tryd.underlying5 (by kernel_rfl) (by kernel_rfl) hv h
  refine ⟨cs.map fun v => match v with | .int _ z => UInt8.ofNat z.toNat | _ => 0, by simpa using hl, ?_⟩
  congr 2
  apply List.ext_getElem?
  intro i
  by_cases hi : i < 32
  · obtain ⟨z, e1, hw⟩ := hc i hi
    have hz : 0 ≤ z ∧ z ≤ 255 := by simpa [Lit.wf, IntKind.min, IntKind.max, IntKind.signed, IntKind.bits] using hw
    simp only [List.getElem?_map, e1, Option.map_some]
    rw [bc_ofNat, show ((z.toNat : Int)) % 256 = z from by omega]
  · rw [List.getElem?_eq_none (by omega), List.getElem?_eq_none (by simp; omega)]
end

theorem contract (H : Type) (enc : TypeId × Value → H) (W : World) (base : Nat) (args : Array Value) (ds gs : List (DataW H)) (before : List MemPlace)
    (hval : ∀ (j : Nat) t v, Tryd.f8.params[j]? = some t → args[j]? = some v → Value.okWide Tryd.prog W .any base t v)
    (hW : DataW.Whole enc Tryd.prog Tryd.f8.params.toList Rows.shaTextsSpec.vars false W args.toList ds gs before)
    (hsz0 : (DataW.weightsEach Tryd.prog (Tryd.f8.params.toList ++ Rows.shaTextsSpec.plain.varTypes Tryd.prog) (ds ++ gs)).all (· ≤ reachBytes) = true)
    (hL : laidMetH Tryd.prog Rows.shaTextsRow.laid W) :
    Calls Tryd.prog 8 args W fun e W' => ∃ v, e = .returned v ∧ Rows.shaTextsSpec.post enc Tryd.prog Tryd.f8 false true false false W args v W' := by
  have hT := tabs hL
  have hW' := hW
  obtain ⟨p, q, hA0, hV, rfl, hfz, hnd⟩ := hW
  have hA : DataW.TrodAll enc Tryd.prog W 0 (fun _ => true) true Tryd.f8.params.toList args.toList ds p := hA0
  rw [Tryd.params8] at hA hval
  have hsz := hsz0
  rw [Tryd.params8] at hsz
  obtain ⟨v0, vs0, d0, ds0, p0, q0, hargs, rfl, rfl, h0, r0⟩ := trodAll_cons hA
  obtain ⟨v1, vs1, d1, ds1, p1, q1, rfl, rfl, rfl, h1, r1⟩ := trodAll_cons r0
  obtain ⟨v2, vs2, d2, ds2, p2, q2, rfl, rfl, rfl, h2, r2⟩ := trodAll_cons r1
  obtain ⟨rfl, rfl, rfl⟩ := trodAll_nil r2
  obtain rfl : args = #[v0, v1, v2] := by cases args; simp_all
  obtain ⟨rfl, rfl⟩ := trodVars_none hV
  have k0 := h0
  have lt0 : ∀ x ∈ p0, x.block < W.heap.size := by obtain ⟨m, hm⟩ := k0; exact DataW.trod_lt m _ _ _ hm
  have k1 := h1
  have lt1 : ∀ x ∈ p1, x.block < W.heap.size := by obtain ⟨m, hm⟩ := k1; exact DataW.trod_lt m _ _ _ hm
  have k2 := h2
  have lt2 : ∀ x ∈ p2, x.block < W.heap.size := by obtain ⟨m, hm⟩ := k2; exact DataW.trod_lt m _ _ _ hm
  obtain ⟨l0, w0, rfl⟩ := open_id (hval 0 25 v0 rfl rfl) h0
  obtain ⟨l1, w1, rfl⟩ := open_id (hval 1 25 v1 rfl rfl) h1
  obtain ⟨s2, rfl, rfl, rfl, z2⟩ := open_string Tryd.underlying9 (hval 2 9 v2 rfl rfl) h2
  have y2 : s2.size ≤ 9223372036854775807 := by have := sized_string hsz (j := 2) (t := 9) rfl rfl; simp [reachBytes] at this; omega
  clear hA0
  refine (walkShaTexts W l0 w0 l1 w1 s2 y2 hT).mono fun e W' ⟨he, bel⟩ => ?_
  subst he
  exact ⟨_, rfl, _, _, _, [], _, [], hW', trodAll_mk1 (shut_bool Tryd.underlying4 _), (trodAll_cons_mk (Below.trod laidOut (by kernel_rfl) (of_decide_eq_true (by kernel_rfl)) k0 bel lt0) (trodAll_cons_mk (Below.trod laidOut (by kernel_rfl) (of_decide_eq_true (by kernel_rfl)) k1 bel lt1) (trodAll_cons_mk (Below.trod laidOut (by kernel_rfl) (of_decide_eq_true (by kernel_rfl)) k2 bel lt2) trodAll_mk0))), rfl, bel.frame _, fun h => by cases h⟩

set_option maxRecDepth 100000 in
theorem lifted (os : Os) (started : os.Started) (H : Type) (enc : TypeId × Value → H) (F : Stop.Interp) :
    ReturnsInHanded {} Tryd.checked os 8 .any ((OpenSpec.ofChange Rows.shaTextsSpec).preRow enc Tryd.prog Tryd.f8 Rows.shaTextsRow.domain false Rows.shaTextsRow.laid) (((OpenSpec.ofChange Rows.shaTextsSpec).at F).post enc Tryd.prog Tryd.f8 false true false false) := by
  obtain ⟨places, hx⟩ := reads os enc
  refine returnsInHanded_of_row (C := Tryd.checked) (s := OpenSpec.ofChange Rows.shaTextsSpec) own started (by kernel_rfl) Tryd.func8
    (witness_row_at (enc := enc) (C := Tryd.checked) false (laidWorld os) #[Value.agg ((List.replicate 32 (0 : UInt8)).map bc).toArray, Value.agg ((List.replicate 32 (0 : UInt8)).map bc).toArray, Value.string ByteArray.empty] rfl (by kernel_rfl) (by kernel_rfl) (by kernel_rfl)
      (OpenSpec.preRow_of_cond 8 hx (by kernel_rfl) (fun k hk => by cases hk) (by kernel_rfl) (laid_met os))) ?_
  intro W base args ds gs before hval hW _ _ hsz hL _ _
  exact contract H enc W base args ds gs before hval hW hsz hL

theorem said : Rows.ShaTextsSaid :=
  OpenClaim.holds_of_cond 8 Tryd.f8 rfl rfl rfl rfl rfl rfl rfl ⟨rfl, rfl, rfl, rfl, rfl⟩ rfl rfl rfl rfl rfl (by kernel_rfl) Tryd.func8 (by kernel_rfl)
    (of_decide_eq_true (by kernel_rfl)) (by unfold Func.isWrapper; first | (rw [if_pos (by decide +kernel)]; kernel_rfl) | (rw [if_neg (by decide +kernel)]; exact ⟨rfl, rfl⟩))
    (fun os started H enc _ F => by rw [OpenClaim.pre_eq_preRow]; exact lifted os started H enc F)

theorem plain (f : FuncId) (fn : Func) (hf : Tryd.pinned.checked.prog.funcNamed "shipwright/shipwrightlaw03.ShaTexts" = some f) (hfn : Tryd.pinned.checked.prog.funcs[f]? = some fn) :
    false = Tryd.pinned.checked.prog.looks [] ∧ ∀ (j : Nat) t, fn.params[j]? = some t → Tryd.pinned.checked.prog.wantsStandIn t = false := by
  obtain rfl : f = 8 := Option.some.inj ((show Tryd.prog.funcNamed "shipwright/shipwrightlaw03.ShaTexts" = some 8 by kernel_rfl).symm.trans hf) |>.symm
  obtain rfl : fn = Tryd.f8 := (Option.some.inj (Tryd.func8.symm.trans hfn)).symm
  refine ⟨by kernel_rfl, fun j t ht => ?_⟩
  rw [Tryd.params8] at ht
  have hm : t ∈ [25, 25, 9] := by simpa using Array.mem_of_getElem? ht
  have hall : ([25, 25, 9].all fun u => !Tryd.prog.wantsStandIn u) = true := by kernel_rfl
  exact (show Tryd.prog.wantsStandIn t = false by simpa using List.all_eq_true.1 hall t hm)

theorem proved : Rows.ShaTextsCardSaid :=
  Claim7.holds_tied_plain_at .later [] _ _ _ _ said (fun _ h => by cases h) (by kernel_rfl) (fun _ h => by cases h) shaTexts_row_tie rfl ⟨rfl, rfl⟩ (by kernel_rfl) rfl plain (by kernel_rfl)
end Go.Proofs.YtfnmfnihgocheaaDoor.shaTexts
