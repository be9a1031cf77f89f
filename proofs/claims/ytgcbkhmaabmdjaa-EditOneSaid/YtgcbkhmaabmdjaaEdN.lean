/- How a []int that came in reads; the walk of the statement EditMoves. -/
import Derived.Test.YtgcbkhmaabmdjaaEdM
namespace Go.Proofs.Ytgcbkhmaabmdjaa
open Go.RowKit Go.Deep Go.ChangeShapes Go.WideShapes
set_option linter.unusedVariables false

def iC (z : Int) : List Value := [.int .i64 z]
/-- A slice of int. -/
structure IsI (w : World) (v : Value) (l : List Int) : Prop where
  sl : IsSl w v 1 l.length (l.flatMap iC)
  ok : ∀ z ∈ l, -9223372036854775808 ≤ z ∧ z ≤ 9223372036854775807
theorem IsI.opened {w : World} {v : Value} {l : List Int} (h : IsI w v l) :
    ∃ ao cap, v = .slice ao l.length cap ∧ l.length ≤ cap ∧ cap ≤ 9223372036854775807 ∧ (ao = none → cap = 0) ∧
      ∀ i (hi : i < l.length), ∃ b off, ao = some ⟨b, off, none⟩ ∧ w.cell? ⟨b, off + i, none⟩ = some (.int .i64 l[i]) := by
  obtain ⟨hl, ao, cap, e, h2, h3, h4, h5⟩ := h.sl
  refine ⟨ao, cap, e, h2, h3, h4, fun i hi => ?_⟩
  obtain ⟨b, off, e0, c0⟩ := h5 i (by rw [hl]; omega)
  have g := flat_get iC 1 l (fun _ _ => rfl) i hi 0 (by omega)
  exact ⟨b, off, e0, by rw [c0]; simpa [iC] using g⟩

section
variable {H : Type} {enc : TypeId × Value → H} {w : World}
theorem open_is {v : Value} {d : DataW H} {p : List MemPlace} {r : Reach} {b0 : Nat}
    (hv : Value.okWide Try.prog w r b0 36 v) (h : DataW.Trod enc Try.prog w 0 (fun _ => true) true 36 v d p) : ∃ l : List Int, IsI w v l ∧ True ∧ True := by
  obtain ⟨xs, h1, h2, _⟩ := open_sl Try.underlying36 (k := 1) (by kernel_rfl) (by omega) iC (fun z => -9223372036854775808 ≤ z ∧ z ≤ 9223372036854775807) (fun n cs y h => by
    obtain ⟨z, rfl, _, hw⟩ := DataW.trod_int Try.underlying3 h
    exact ⟨z, rfl, rfl, by simpa [Lit.wf, IntKind.min, IntKind.max, IntKind.signed, IntKind.bits] using hw⟩) hv h
  exact ⟨xs, ⟨h1, h2⟩, trivial, trivial⟩
end

set_option maxHeartbeats 4000000 in
set_option maxRecDepth 100000 in
theorem walkEditMoves (w : World) (v1 : Value) (l1 : List Ed) (h1 : IsE w v1 l1) (_ : True) (s : ByteArray) (hs : s.size ≤ 140737488351232) (v3 : Value) (zs : List Int) (h3 : IsI w v3 zs) (_ : True) :
    Calls Try.prog 4 #[v1, .string s, v3] w fun e w' => e = .returned (.bool true) ∧ Below w.heap.size w w' := by
  have h1' := h1
  obtain ⟨ao1, cap1, rfl, _, _, _, _⟩ := h1.opened
  obtain ⟨ao3, cap3, rfl, b3, m3, z3, g3⟩ := h3.opened
  have G3 := Lib.hid g3
  have HO := Lib.hid h3.ok
  clear g3 h3
  go_enter Try.func4, Try.ntmps4
  go_wp2_with fail
  refine Calls.mono (wakes _) ?_
  rintro e w1 ⟨rfl, x1⟩
  go_wp2_with fail
  refine Calls.mono (few' _ _ l1 (h1'.ext x1)) ?_
  rintro e w2 ⟨va, rfl, ha, x2⟩
  have HA := ha
  obtain ⟨ga, ca, rfl, ba, _⟩ := ha
  go_wp2_with fail
  refine Calls.mono (few' _ _ l1 (h1'.ext (x1.trans x2))) ?_
  rintro e w3 ⟨vb, rfl, hb, x3⟩
  have HB := hb
  obtain ⟨gb, cb, rfl, bb, _⟩ := hb
  have HA := HA.ext x3
  have hla : (fewL l1).length ≤ 1000000 := by unfold fewL; rw [List.length_map, List.length_take]; omega
  generalize fewL l1 = a at *
  have X3 := (x1.trans x2).trans x3
  clear ba bb h1 h1' x1 x2 x3
  go_wp2_with fail
  go_loopg [28] zs.length (fun g s28 wr => ∃ k : Nat, k ≤ zs.length ∧ zs.length - k ≤ g ∧ s28 = .int .i64 k ∧ Ext w3 wr)
  case atStart => exact ⟨0, Nat.zero_le _, by omega, rfl, Ext.refl _⟩
  case round =>
    obtain ⟨k, hk, hg, rfl, xr⟩ := hrel
    have XR := X3.trans xr
    have HA := HA.ext xr
    have HB := HB.ext xr
    by_cases hlt : k < zs.length
    · by_cases h60 : k = 60
      · obtain ⟨pb, o, rfl, e0⟩ := G3.out k hlt
        have e0 := XR.cell e0
        generalize zs[k] = z at *
        subst h60
        go_wp2_with fail
        refine Calls.mono (whole _ _ _ a a HA HB.isE) ?_
        rintro e w8 ⟨rfl, x8⟩
        have HA := HA.ext x8
        have HB := HB.ext x8
        rw [decide_eq_true (rfl : a = a)]
        go_wp2_with fail
        refine Calls.mono (editSame _ _ _ a a HA.isE HB.isE) ?_
        rintro e w9 ⟨rfl, x9⟩
        rw [decide_eq_true (rfl : a = a)]
        have x9 := toExt x9
        go_wp2
        go_ret
        exact ⟨rfl, (XR.trans x8).trans x9⟩
      · obtain ⟨pb, o, rfl, e0⟩ := G3.out k hlt
        have e0 := XR.cell e0
        obtain ⟨z1, z2⟩ := HO.out zs[k] (List.getElem_mem hlt)
        generalize zs[k] = z at *
        have h60' : ((k : Int) == 60) = false := by rw [beq_eq_false_iff_ne]; omega
        go_wp2_with fail
        refine Calls.mono (editMoves _ _ a _ z HA.isE hla) ?_
        rintro e w4 ⟨rfl, x4⟩
        have HA := HA.ext x4
        have HB := HB.ext x4
        cases hc : chk a
        · have hR : ∀ p, movesR a p z = none := by intro p; unfold movesR; rw [hc]; simp
          simp only [hR, mvV, Option.getD_none, Option.isSome_none]
          go_wp2_with fail
          refine Calls.mono (refRight _ _ a HB.isE) ?_
          rintro e w5 ⟨rfl, x5⟩
          rw [hc]
          go_wp2
          go_roundg (zs.length - (k + 1))
          case measure => omega
          case rel => exact ⟨k + 1, by omega, by omega, by go_num, (xr.trans x4).trans x5⟩
        · have RM := fun (W : World) (v : Value) (h : IsE W v a) => refMoves W v a (s.extract 0 (min (s.size : Int) 100).toNat) z h hla hc
          simp only [mvV] at RM ⊢
          generalize (movesR a (s.extract 0 (min (s.size : Int) 100).toNat) z).getD 0 = mv at *
          generalize (movesR a (s.extract 0 (min (s.size : Int) 100).toNat) z).isSome = ms at *
          go_wp2_with fail
          refine Calls.mono (refRight _ _ a HB.isE) ?_
          rintro e w5 ⟨rfl, x5⟩
          have HB := HB.ext x5
          rw [hc]
          have HC := Lib.hid hc
          clear hc
          go_wp2_with fail
          refine Calls.mono (RM _ _ HB.isE) ?_
          rintro e w6 ⟨rfl, x6⟩
          go_wp2
          go_roundg (zs.length - (k + 1))
          case measure => omega
          case rel => exact ⟨k + 1, by omega, by omega, by go_num, ((xr.trans x4).trans x5).trans x6⟩
    · have : k = zs.length := by omega
      subst this
      go_wp2_with fail
      refine Calls.mono (whole _ _ _ a a HA HB.isE) ?_
      rintro e w8 ⟨rfl, x8⟩
      have HA := HA.ext x8
      have HB := HB.ext x8
      rw [decide_eq_true (rfl : a = a)]
      go_wp2_with fail
      refine Calls.mono (editSame _ _ _ a a HA.isE HB.isE) ?_
      rintro e w9 ⟨rfl, x9⟩
      rw [decide_eq_true (rfl : a = a)]
      have x9 := toExt x9
      go_wp2
      go_ret
      exact ⟨rfl, (XR.trans x8).trans x9⟩
end Go.Proofs.Ytgcbkhmaabmdjaa
