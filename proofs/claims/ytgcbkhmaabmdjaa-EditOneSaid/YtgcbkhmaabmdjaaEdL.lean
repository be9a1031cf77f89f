/- How a []api.Edit that came in reads; the walk of the statement EditSame. -/
import Derived.Test.YtgcbkhmaabmdjaaEdK
namespace Go.Proofs.Ytgcbkhmaabmdjaa
open Go.RowKit Go.Deep Go.ChangeShapes Go.WideShapes
set_option linter.unusedVariables false

section
variable {H : Type} {enc : TypeId × Value → H} {w : World}
theorem ed_elem : ∀ n cs y, DataW.trod enc Try.prog w 0 (fun _ => true) true n 41 cs = some y → ∃ x : Ed, cs = edC x ∧ (edC x).length = 4 ∧ edOk x := by
  intro n cs y h
  obtain ⟨y0, y1, y2, y3, m, _, hl, h0, h1, h2, h3⟩ := Joins.trod_struct4 Try.underlying41 h
  rw [show Try.prog.cellsOf 41 = 4 from by kernel_rfl] at hl
  match cs, hl with
  | [c0, c1, c2, c3], _ =>
    obtain ⟨s0, e0, _, b0⟩ := DataW.trod_string Try.underlying9 h0
    obtain ⟨n1, e1, _, b1⟩ := DataW.trod_int Try.underlying3 h1
    obtain ⟨n2, e2, _, b2⟩ := DataW.trod_int Try.underlying3 h2
    obtain ⟨s3, e3, _, b3⟩ := DataW.trod_string Try.underlying9 h3
    simp only [show Try.prog.cellsOf 9 = 1 from by kernel_rfl, show Try.prog.cellsOf 3 = 1 from by kernel_rfl] at e0 e1 e2 e3
    simp at e0 e1 e2 e3
    subst e0 e1 e2 e3
    refine ⟨⟨s0, n1, n2, s3⟩, rfl, rfl, ?_⟩
    have k1 : -9223372036854775808 ≤ n1 ∧ n1 ≤ 9223372036854775807 := by simpa [Lit.wf, IntKind.min, IntKind.max, IntKind.signed, IntKind.bits] using b1
    have k2 : -9223372036854775808 ≤ n2 ∧ n2 ≤ 9223372036854775807 := by simpa [Lit.wf, IntKind.min, IntKind.max, IntKind.signed, IntKind.bits] using b2
    unfold maxLen at b0 b3
    exact ⟨by simpa using b0, k1, k2, by simpa using b3⟩
theorem open_eds {v : Value} {d : DataW H} {p : List MemPlace} {r : Reach} {b0 : Nat}
    (hv : Value.okWide Try.prog w r b0 24 v) (h : DataW.Trod enc Try.prog w 0 (fun _ => true) true 24 v d p) : ∃ l : List Ed, IsE w v l ∧ True ∧ True := by
  obtain ⟨xs, h1, h2, _⟩ := open_sl Try.underlying24 (by kernel_rfl) (by omega) edC edOk ed_elem hv h
  exact ⟨xs, ⟨h1, h2⟩, trivial, trivial⟩
end

theorem tyE : ETy Try.prog 24 41 (.agg #[.string ByteArray.empty, .int .i64 0, .int .i64 0, .string ByteArray.empty]) 4 48 := ⟨Try.underlying24, info_parts infoEdit, rfl, by decide⟩
theorem edC_one (l : List Ed) : ∀ u ∈ l.flatMap edC, u.oneCell' = true := by
  intro u hu
  obtain ⟨x, _, hx⟩ := List.mem_flatMap.1 hu
  simp only [edC, List.mem_cons, List.not_mem_nil, or_false] at hx
  rcases hx with rfl | rfl | rfl | rfl <;> rfl

set_option maxHeartbeats 4000000 in
set_option maxRecDepth 100000 in
theorem walkEditSame (w : World) (v1 : Value) (l1 : List Ed) (h1 : IsE w v1 l1) (_ : True) (v2 : Value) (l2 : List Ed) (h2 : IsE w v2 l2) (_ : True) :
    Calls Try.prog 5 #[v1, v2] w fun e w' => e = .returned (.bool true) ∧ Below w.heap.size w w' := by
  have h1' := h1
  have h2' := h2
  obtain ⟨ao1, cap1, rfl, _, _, _, _⟩ := h1.opened
  obtain ⟨ao2, cap2, rfl, _, _, _, _⟩ := h2.opened
  go_enter Try.func5, Try.ntmps5
  go_wp2_with fail
  refine Calls.mono (wakes _) ?_
  rintro e w1 ⟨rfl, x1⟩
  go_wp2_with fail
  refine Calls.mono (few' _ _ l1 (h1'.ext x1)) ?_
  rintro e w2 ⟨va, rfl, ha, x2⟩
  have HA := ha
  obtain ⟨ga, ca, rfl, ba, _⟩ := ha
  go_wp2_with fail
  refine Calls.mono (few' _ _ l2 (h2'.ext (x1.trans x2))) ?_
  rintro e w3 ⟨vb, rfl, hb, x3⟩
  have HB := hb
  obtain ⟨gb, cb, rfl, bb, _⟩ := hb
  have HA := HA.ext x3
  generalize fewL l1 = a at *
  generalize fewL l2 = b at *
  have X3 := (x1.trans x2).trans x3
  clear ba bb
  generalize hd : decide (a = b) = d
  have HD := Lib.hid hd
  have E1 := editSame w3 _ _ a b HA.isE HB.isE
  rw [hd] at E1
  go_wp2_with fail
  refine Calls.mono E1 ?_
  rintro e w4 ⟨rfl, x4⟩
  have x4 := toExt x4
  have HA := HA.ext x4
  have HB := HB.ext x4
  have E2 := refSameE w4 _ _ a b HA.isE HB.isE
  rw [hd] at E2
  clear hd E1
  go_wp2_with fail
  refine Calls.mono E2 ?_
  rintro e w5 ⟨rfl, x5⟩
  have x5 := toExt x5
  have HA := HA.ext x5
  clear E2
  have X5 := (X3.trans x4).trans x5
  obtain ⟨ga', ca', hv', _, _, hoka, hla⟩ := id HA
  have o0 := World.ownsRow_lit (base := w5.heap.size) (e := 41) (size := 4) w5 #[] 0 (Nat.le_refl _) (by decide) rfl
  go_wp2_with (at_builtin; go_must (refine wp_app tyE rfl _ _ rfl _ _ 0 [] o0 (by rfl) _ a.length (a.flatMap edC) (HA.isE.sl.ext ((Ext.refl _).alloc _)) (by rfl) (edC_one a) (by omega) (by omega) (by simp) ?_); intro v4 w4' hown4 hgrow4)
  have hx6 := X5.trans (((Ext.refl _).alloc (.cells #[] 41)).grown hgrow4 (fun k hk => (o0.lt k hk).1))
  have hIs : IsE w4' v4 a := ⟨by simpa using IsSl.of_owns hown4, hoka⟩
  have hA6 : IsE w4' (.slice (some ⟨ga, 0, none⟩) a.length (a.length + 2)) a := HA.isE.ext (((Ext.refl _).alloc (.cells #[] 41)).grown hgrow4 (fun k hk => (o0.lt k hk).1))
  have hIs' := hIs
  obtain ⟨ao4, c4, rfl, _, _, _, _⟩ := hIs.opened
  go_wp2_with fail
  refine Calls.mono (editSame _ _ _ a a hA6 hIs') ?_
  rintro e w7 ⟨rfl, x7⟩
  have x7 := toExt x7
  go_wp2
  go_ret
  exact ⟨ret_bool (by simp), hx6.trans x7⟩
end Go.Proofs.Ytgcbkhmaabmdjaa
