/- The walk of the reference's One, and of the statement EditOne. -/
import Derived.Test.YtgcbkhmaabmdjaaEdQ
namespace Go.Proofs.Ytgcbkhmaabmdjaa
open Go.RowKit Go.Deep Go.ChangeShapes Go.WideShapes
set_option linter.unusedVariables false

theorem fit_same (l : List Ed) (n : Int) (h : ∀ e ∈ l, okOne e = true) : fitsL l n = fitR l n := by
  unfold fitsL fitR
  induction l with
  | nil => rfl
  | cons e l ih =>
    have ho := okOne_all (h e (List.mem_cons_self ..))
    have ih := ih (fun x hx => h x (List.mem_cons_of_mem _ hx))
    rw [List.any_cons, List.all_cons, Bool.not_or, ih, IntWalk.wrap64_in _ (by omega)]
    congr 1
    rw [Bool.eq_iff_iff]
    simp

def refOneR (s : ByteArray) (m : List Ed) : ByteArray × Bool := if fitR m s.size = true then (⟨(doneFrom s.data.toList 0 m).toArray⟩, true) else (ByteArray.empty, false)

set_option maxHeartbeats 4000000 in
set_option maxRecDepth 100000 in
theorem refOne (w : World) (v : Value) (m : List Ed) (s : ByteArray) (h : IsE w v m) (hc : ∀ e ∈ m, okOne e = true) (hok : fitR m s.size = true → okFrom s.size 0 m) (hm : m.length ≤ 1000000) (hs : s.size ≤ 1099511627776) :
    Calls Try.prog 12 #[.string s, v] w fun e w' => e = .returned (.tuple #[.string (refOneR s m).1, .bool (refOneR s m).2]) ∧ Ext w w' := by
  have hL : refOneR s m = if fitR m s.size = true then (⟨(doneFrom s.data.toList 0 m).toArray⟩, true) else (ByteArray.empty, false) := rfl
  generalize refOneR s m = R at *
  have hx := h
  obtain ⟨ao, cap, rfl, b1, m1, z1, g1⟩ := h.opened
  clear z1 g1 h
  have HL := Lib.hid hL
  clear hL
  go_enter Try.func12, Try.ntmps12
  go_wp2_with fail
  refine Calls.mono (refFit _ _ m _ hx hc) ?_
  rintro e w1 ⟨rfl, x1⟩
  cases hf : fitR m s.size
  · have HR := Lib.hid (by rw [HL.out, hf]; rfl : R = (ByteArray.empty, false))
    clear HL hf hok
    go_wp2
    go_ret2
    exact ⟨by rw [HR.out]; rfl, x1⟩
  · have HR := Lib.hid (by rw [HL.out, hf]; rfl : R = (⟨(doneFrom s.data.toList 0 m).toArray⟩, true))
    have HOK := Lib.hid (hok hf)
    clear hok hf HL
    go_wp2_with fail
    refine Calls.mono (refPlain _ s hs) ?_
    rintro e w2 ⟨v2, rfl, o2, x2⟩
    have hY : IsY w2 v2 (plainN s.data.toList s.size) := by
      have := IsSl.of_owns o2
      unfold IsY
      rw [plainN_len]
      exact this
    go_wp2_with fail
    refine Calls.mono (refDo _ _ m _ _ (hx.ext (x1.trans x2)) hY (by rw [plainN_len]; exact HOK.out) hm (by rw [plainN_len]; exact hs)) ?_
    rintro e w3 ⟨v3, n, rfl, o3, hn, hn2, x3⟩
    rw [plainN_len] at hn2
    have hZ : IsY w3 v3 (doB (plainN s.data.toList s.size) 0 m) := by
      have := IsSl.of_owns o3
      unfold IsY
      rw [hn] at this
      exact this
    have hfst : (doB (plainN s.data.toList s.size) 0 m).map Prod.fst = doneFrom s.data.toList 0 m := by
      rw [doB_fst]
      congr 1
      have := plainN_fst s.data.toList
      simpa using this
    clear o2 o3 hY
    go_wp2_with fail
    refine Calls.mono (refText _ _ _ hZ (by omega)) ?_
    rintro e w4 ⟨rfl, x4⟩
    rw [hfst]
    clear hZ hn hfst
    go_wp2
    go_ret2
    exact ⟨by rw [HR.out]; rfl, ((x1.trans x2).trans x3).trans x4⟩

/-- Rows of edits that came in. -/
structure IsRE (w : World) (v : Value) (l : List (Value × List Ed)) : Prop where
  sl : IsSl w v 1 l.length (l.flatMap fun x => [x.1])
  ok : ∀ x ∈ l, IsE w x.1 x.2
theorem IsRE.opened {w : World} {v : Value} {l : List (Value × List Ed)} (h : IsRE w v l) :
    ∃ ao cap, v = .slice ao l.length cap ∧ l.length ≤ cap ∧ cap ≤ 9223372036854775807 ∧ (ao = none → cap = 0) ∧
      ∀ i (hi : i < l.length), ∃ b off, ao = some ⟨b, off, none⟩ ∧ w.cell? ⟨b, off + i, none⟩ = some l[i].1 := by
  obtain ⟨hl, ao, cap, e, h2, h3, h4, h5⟩ := h.sl
  refine ⟨ao, cap, e, h2, h3, h4, fun i hi => ?_⟩
  obtain ⟨b, off, e0, c0⟩ := h5 i (by rw [hl]; omega)
  have g := flat_get (fun x : Value × List Ed => [x.1]) 1 l (fun _ _ => rfl) i hi 0 (by omega)
  exact ⟨b, off, e0, by rw [c0]; simpa using g⟩

section
variable {H : Type} {enc : TypeId × Value → H} {w : World}
theorem open_rows {v : Value} {d : DataW H} {p : List MemPlace} {r : Reach} {b0 : Nat}
    (hv : Value.okWide Try.prog w r b0 22 v) (h : DataW.Trod enc Try.prog w 0 (fun _ => true) true 22 v d p) : ∃ l : List (Value × List Ed), IsRE w v l ∧ True ∧ True := by
  obtain ⟨xs, h1, h2, _⟩ := open_sl Try.underlying22 (k := 1) (by kernel_rfl) (by omega) (fun x : Value × List Ed => [x.1]) (fun x => IsE w x.1 x.2) (fun n cs y h => by
    obtain ⟨d, p⟩ := y
    obtain ⟨v, xs, rfl, h1, h2, _⟩ := open_sl_cs Try.underlying24 (by kernel_rfl) (by omega) edC edOk ed_elem h
    exact ⟨(v, xs), rfl, rfl, ⟨h1, h2⟩⟩) hv h
  exact ⟨xs, ⟨h1, h2⟩, trivial, trivial⟩
end

set_option maxHeartbeats 4000000 in
set_option maxRecDepth 100000 in
theorem walkEditOne (w : World) (s : ByteArray) (hs : s.size ≤ 140737488351232) (p : ByteArray) (hp : p.size ≤ 140737488351232) (v3 : Value) (rows : List (Value × List Ed)) (h3 : IsRE w v3 rows) (_ : True) :
    Calls Try.prog 3 #[.string s, .string p, v3] w fun e w' => e = .returned (.bool true) ∧ Below w.heap.size w w' := by
  obtain ⟨ao3, cap3, rfl, b3, m3, z3, g3⟩ := h3.opened
  have G3 := Lib.hid g3
  have HO := Lib.hid h3.ok
  clear g3 h3 z3
  go_enter Try.func3, Try.ntmps3
  go_wp2_with fail
  refine Calls.mono (wakes _) ?_
  rintro e w1 ⟨rfl, x1⟩
  go_wp2_with fail
  go_quiet (fail)
  go_wp2_with fail
  have ht : (s.extract 0 (min (s.size : Int) 8192).toNat).size ≤ 8192 := by rw [ByteArray.size_extract]; omega
  generalize s.extract 0 (min (s.size : Int) 8192).toNat = t at ht ⊢
  generalize p.extract 0 (min (p.size : Int) 100).toNat = q
  go_loopg [30] rows.length (fun g s30 wr => ∃ (k : Nat), k ≤ rows.length ∧ rows.length - k ≤ g ∧ s30 = .int .i64 k ∧ Ext w1 wr)
  case atStart => exact ⟨0, Nat.zero_le _, by omega, rfl, by first | exact Ext.refl _ | exact (Ext.refl _).drewN _⟩
  case round =>
    obtain ⟨k, hk, hg, rfl, xr⟩ := hrel
    have XR := x1.trans xr
    by_cases hlt : k < rows.length
    · by_cases h10 : k = 10
      · obtain ⟨pb, o, rfl, e0⟩ := G3.out k hlt
        have e0 := XR.cell e0
        generalize rows[k].1 = z at *
        subst h10
        go_wp2
        go_ret
        exact ⟨rfl, XR⟩
      · obtain ⟨pb, o, rfl, e0⟩ := G3.out k hlt
        have e0 := XR.cell e0
        have hI := (HO.out rows[k] (List.getElem_mem hlt)).ext XR
        generalize rows[k].1 = z at *
        generalize rows[k].2 = l at *
        have h10' : ((k : Int) == 10) = false := by rw [beq_eq_false_iff_ne]; omega
        go_wp2_with fail
        refine Calls.mono (few' _ _ l hI) ?_
        rintro e w2 ⟨va, rfl, ha, x2⟩
        have HA := ha
        obtain ⟨ga, ca, rfl, ba, _⟩ := ha
        go_wp2_with fail
        refine Calls.mono (few' _ _ l (hI.ext x2)) ?_
        rintro e w3 ⟨vb, rfl, hb, x3⟩
        have HB := hb
        obtain ⟨gb, cb, rfl, bb, _⟩ := hb
        have HA := HA.ext x3
        have hla : (fewL l).length ≤ 1000000 := by unfold fewL; rw [List.length_map, List.length_take]; omega
        generalize fewL l = a at *
        clear ba bb hI
        go_wp2_with fail
        refine Calls.mono (editOne _ _ a t q HA.isE hla (by omega)) ?_
        rintro e w4 ⟨rfl, x4⟩
        have HA := HA.ext x4
        have HB := HB.ext x4
        have XX := ((xr.trans x2).trans x3).trans x4
        clear x2 x3 x4
        cases hc : chk a
        · rw [show oneL t q a = (ByteArray.empty, 280) from by unfold oneL; rw [hc]; rfl]
          go_wp2_with fail
          refine Calls.mono (editCheck _ _ a HA.isE) ?_
          rintro e w5 ⟨rfl, x5⟩
          rw [hc]
          have HA := HA.ext x5
          have HB := HB.ext x5
          simp only [show errE false = 280 from rfl]
          go_wp2_with fail
          refine Calls.mono (whole _ _ _ a a HA HB.isE) ?_
          rintro e w6 ⟨rfl, x6⟩
          have HB := HB.ext x6
          rw [decide_eq_true (rfl : a = a)]
          go_wp2_with fail
          refine Calls.mono (refRight _ _ a HB.isE) ?_
          rintro e w7 ⟨rfl, x7⟩
          rw [hc]
          go_wp2
          go_roundg (rows.length - (k + 1))
          case measure => omega
          case rel => exact ⟨k + 1, by omega, by omega, by go_num, ((XX.trans x5).trans x6).trans x7⟩
        · have hone : oneL t q a = ((refOneR t (ofL a q)).1, if (refOneR t (ofL a q)).2 = true then 0 else 2) := by
            unfold oneL refOneR
            rw [if_pos hc, fit_same _ _ (chkR_mem (ofL_chk q hc))]
            cases fitR (ofL a q) t.size <;> rfl
          have hok : fitR (ofL a q) t.size = true → okFrom t.size 0 (ofL a q) := fun h => ok_of hc (by rw [fit_same _ _ (chkR_mem (ofL_chk q hc))]; exact h)
          rw [hone]
          have hml := ofL_len a q
          have RO := fun (W : World) (v : Value) (h : IsE W v (ofL a q)) => refOne W v (ofL a q) t h (chkR_mem (ofL_chk q hc)) hok (by omega) (by omega)
          have ROF := fun (W : World) (v : Value) (h : IsE W v a) => refOf W v a q h hla
          rw [ofF_chk q hc] at ROF
          generalize refOneR t (ofL a q) = R at *
          generalize ofL a q = m at *
          obtain ⟨R1, R2⟩ := R
          have HRO := Lib.hid RO
          have HROF := Lib.hid ROF
          clear RO ROF hone hok
          simp only
          cases R2
          all_goals (
            simp only [if_true, if_false, Bool.false_eq_true]
            go_wp2_with fail
            refine Calls.mono (editCheck _ _ a HA.isE) ?_
            rintro e w5 ⟨rfl, x5⟩
            rw [hc]
            have HA := HA.ext x5
            have HB := HB.ext x5
            simp only [show errE true = 0 from rfl]
            go_wp2_with fail
            refine Calls.mono (whole _ _ _ a a HA HB.isE) ?_
            rintro e w6 ⟨rfl, x6⟩
            have HB := HB.ext x6
            rw [decide_eq_true (rfl : a = a)]
            go_wp2_with fail
            refine Calls.mono (refRight _ _ a HB.isE) ?_
            rintro e w7 ⟨rfl, x7⟩
            have HB := HB.ext x7
            rw [hc]
            go_wp2_with fail
            refine Calls.mono (HROF.out _ _ HB.isE) ?_
            rintro e w8 ⟨v8, rfl, hm8, x8⟩
            go_wp2_with fail
            refine Calls.mono (HRO.out _ _ hm8) ?_
            rintro e w9 ⟨rfl, x9⟩
            go_wp2
            go_roundg (rows.length - (k + 1))
            case measure => omega
            case rel => exact ⟨k + 1, by omega, by omega, by go_num, ((((XX.trans x5).trans x6).trans x7).trans x8).trans x9⟩)
    · have : k = rows.length := by omega
      subst this
      go_wp2
      go_ret
      exact ⟨rfl, XR⟩
end Go.Proofs.Ytgcbkhmaabmdjaa
