/- Clashes that are the same: slices.Equal, merge.Same, the reference's Same. -/
import Derived.Test.YtpcpcjejdngllaaDoorMgW
import Derived.Test.YtpcpcjejdngllaaDoorEdC
import Derived.Test.YtpcpcjejdngllaaDoorOpn
import Derived.Laws.StructEq
namespace Go.Proofs.YtpcpcjejdngllaaDoor
open Go.RowKit Go.Deep Go.ChangeShapes Go.WideShapes
set_option linter.unusedVariables false
set_option linter.unusedSimpArgs false

structure IsC (w : World) (v : Value) (l : List Tr) : Prop where
  sl : IsSl w v 7 l.length (l.flatMap clT)
theorem IsC.ext {w w' : World} {v : Value} {l : List Tr} (h : IsC w v l) (k : Ext w w') : IsC w' v l := ⟨h.sl.ext k⟩
theorem clT_len (l : List Tr) : ∀ x ∈ l, (clT x).length = 7 := fun _ _ => rfl
theorem clT_ones (l : List Tr) : ∀ u ∈ l.flatMap clT, u.oneCell' = true := by
  intro u hu
  obtain ⟨x, _, hx⟩ := List.mem_flatMap.1 hu
  exact clT_one x u hx
theorem IsC.opened {w : World} {v : Value} {l : List Tr} (h : IsC w v l) :
    ∃ ao cap, v = .slice ao l.length cap ∧ l.length ≤ cap ∧ cap ≤ 9223372036854775807 ∧ (ao = none → cap = 0) ∧
      ∀ i (hi : i < l.length), ∃ b off, ao = some ⟨b, off, none⟩ ∧ w.cell? ⟨b, off + i * 7, none⟩ = some (.string l[i].1) ∧ w.cell? ⟨b, off + i * 7 + 1, none⟩ = some (.string l[i].2.1.2) ∧ w.cell? ⟨b, off + i * 7 + 2, none⟩ = some (.string l[i].2.2.1.2) ∧ w.cell? ⟨b, off + i * 7 + 3, none⟩ = some (.string l[i].2.2.2.2) ∧
        w.cell? ⟨b, off + i * 7 + 4, none⟩ = some (.bool l[i].2.1.1) ∧ w.cell? ⟨b, off + i * 7 + 5, none⟩ = some (.bool l[i].2.2.1.1) ∧ w.cell? ⟨b, off + i * 7 + 6, none⟩ = some (.bool l[i].2.2.2.1) := by
  obtain ⟨hl, ao, cap, e, h2, h3, h4, h5⟩ := h.sl
  refine ⟨ao, cap, e, h2, h3, h4, fun i hi => ?_⟩
  have g := flat_get clT 7 l (clT_len l) i hi
  obtain ⟨b, off, e0, c0⟩ := h5 (i * 7) (by rw [hl]; omega)
  have hx : ∀ j, j < 7 → w.cell? ⟨b, off + i * 7 + j, none⟩ = (clT l[i])[j]? := by
    intro j hj
    obtain ⟨b1, off1, e1, c1⟩ := h5 (i * 7 + j) (by rw [hl]; omega)
    rw [e0] at e1
    simp only [Option.some.injEq, Addr.mk.injEq] at e1
    obtain ⟨rfl, rfl, _⟩ := e1
    rw [Nat.add_assoc, c1, g j hj]
  exact ⟨b, off, e0, hx 0 (by omega), hx 1 (by omega), hx 2 (by omega), hx 3 (by omega), hx 4 (by omega), hx 5 (by omega), hx 6 (by omega)⟩
theorem cl_eq_iff (x y : Tr) : decide (x = y) = (decide (x.1 = y.1) && (decide (x.2.1.2 = y.2.1.2) && (decide (x.2.2.1.2 = y.2.2.1.2) && (decide (x.2.2.2.2 = y.2.2.2.2) && ((x.2.1.1 == y.2.1.1) && ((x.2.2.1.1 == y.2.2.1.1) && (x.2.2.2.1 == y.2.2.2.1))))))) := by
  rw [Bool.eq_iff_iff]
  obtain ⟨p, ⟨b0, s0⟩, ⟨b1, s1⟩, ⟨b2, s2⟩⟩ := x
  obtain ⟨q, ⟨d0, t0⟩, ⟨d1, t1⟩, ⟨d2, t2⟩⟩ := y
  simp
  intro _
  constructor
  · rintro ⟨⟨a, b⟩, ⟨c, d⟩, e, f⟩; exact ⟨b, d, f, a, c, e⟩
  · rintro ⟨b, d, f, a, c, e⟩; exact ⟨⟨a, b⟩, ⟨c, d⟩, e, f⟩
set_option maxRecDepth 100000 in
theorem clNeq (w : World) (x y : Tr) : (binOp .neq 40 (.agg #[.string x.1, .string x.2.1.2, .string x.2.2.1.2, .string x.2.2.2.2, .bool x.2.1.1, .bool x.2.2.1.1, .bool x.2.2.2.1]) (.agg #[.string y.1, .string y.2.1.2, .string y.2.2.1.2, .string y.2.2.2.2, .bool y.2.1.1, .bool y.2.2.1.1, .bool y.2.2.2.1])).run Tryd.prog w = .ok (.bool (!decide (x = y))) w := by
  rw [run_neq_struct, show (10000 : Nat) = 9999 + 1 from rfl, run_equalIn_agg _ _ _ _ _ Tryd.underlying40 (by kernel_rfl)]
  simp only [Program.fieldsOf, Tryd.underlying40]
  have ed := cl_eq_iff x y
  simp only [← ba_eq] at ed
  simp [go_sem]
  rw [ed]
  by_cases c0 : x.1.toList = y.1.toList
  · by_cases c1 : x.2.1.2.toList = y.2.1.2.toList
    · by_cases c2 : x.2.2.1.2.toList = y.2.2.1.2.toList
      · by_cases c3 : x.2.2.2.2.toList = y.2.2.2.2.toList
        · by_cases c4 : x.2.1.1 = y.2.1.1
          · by_cases c5 : x.2.2.1.1 = y.2.2.1.1
            · by_cases c6 : x.2.2.2.1 = y.2.2.2.1 <;> simp [c0, c1, c2, c3, c4, c5, c6]
            · simp [c0, c1, c2, c3, c4, c5]
          · simp [c0, c1, c2, c3, c4]
        · simp [c0, c1, c2, c3]
      · simp [c0, c1, c2]
    · simp [c0, c1]
  · simp [c0]

set_option maxHeartbeats 4000000 in
set_option maxRecDepth 100000 in
theorem slicesEqualC (w : World) (v1 v2 : Value) (l1 l2 : List Tr) (h1 : IsC w v1 l1) (h2 : IsC w v2 l2) :
    Calls Tryd.prog 38 #[v1, v2] w fun e w' => e = .returned (.bool (decide (l1 = l2))) ∧ ∃ q, w' = w.drewN q := by
  obtain ⟨ao1, c1, rfl, b1, m1, z1, g1⟩ := h1.opened
  obtain ⟨ao2, c2, rfl, b2, m2, z2, g2⟩ := h2.opened
  have G1 := Lib.hid g1
  have G2 := Lib.hid g2
  clear g1 g2 h1 h2 z1 z2
  by_cases hnm : l1.length = l2.length
  · have Hnm := Lib.hid hnm
    have hn : ((l1.length : Int) != (l2.length : Int)) = false := by rw [hnm]; simp
    clear hnm
    go_enter Tryd.func38, Tryd.ntmps38
    go_wp2
    go_loopg [13] l1.length (fun g s13 wr => ∃ k q : Nat, k ≤ l1.length ∧ l1.length - k ≤ g ∧ s13 = .int .i64 k ∧ wr = w.drewN q ∧ ∀ j (h1 : j < l1.length) (h2 : j < l2.length), j < k → l1[j] = l2[j])
    case atStart => exact ⟨0, 0, Nat.zero_le _, by omega, rfl, rfl, fun j _ _ hj => absurd hj (Nat.not_lt_zero _)⟩
    case round =>
      obtain ⟨k, q, hk, hg, rfl, rfl, heq⟩ := hrel
      have HEQ := Lib.hid heq
      clear heq
      by_cases hlt : k < l1.length
      · have hlt2 : k < l2.length := by have := Hnm.out; omega
        obtain ⟨p1, o1, rfl, e0, e1, e2, e3, e4, e5, e6⟩ := G1.out k hlt
        obtain ⟨p2, o2, rfl, f0, f1, f2, f3, f4, f5, f6⟩ := G2.out k hlt2
        generalize hxk : l1[k] = x at *
        generalize hyk : l2[k] = y at *
        have HX := Lib.hid hxk
        have HY := Lib.hid hyk
        clear hxk hyk
        by_cases hxy : x = y
        · have hne : ∀ W, (binOp .neq 40 (.agg #[.string x.1, .string x.2.1.2, .string x.2.2.1.2, .string x.2.2.2.2, .bool x.2.1.1, .bool x.2.2.1.1, .bool x.2.2.2.1]) (.agg #[.string y.1, .string y.2.1.2, .string y.2.2.1.2, .string y.2.2.2.2, .bool y.2.1.1, .bool y.2.2.1.1, .bool y.2.2.2.1])).run Tryd.prog W = .ok (.bool false) W := fun W => by rw [clNeq, decide_eq_true hxy]; rfl
          have HXY := Lib.hid hxy
          clear hxy
          go_wp2_with fail
          go_quiet (fail)
          go_wp2
          go_roundg (l1.length - (k + 1))
          case measure => omega
          case rel =>
            refine ⟨k + 1, _, by omega, by omega, by go_num, rfl, fun j a1 a2 hj => ?_⟩
            by_cases e : j = k
            · subst e
              rw [HX.out, HY.out, HXY.out]
            · exact HEQ.out j a1 a2 (by omega)
        · have hne : ∀ W, (binOp .neq 40 (.agg #[.string x.1, .string x.2.1.2, .string x.2.2.1.2, .string x.2.2.2.2, .bool x.2.1.1, .bool x.2.2.1.1, .bool x.2.2.2.1]) (.agg #[.string y.1, .string y.2.1.2, .string y.2.2.1.2, .string y.2.2.2.2, .bool y.2.1.1, .bool y.2.2.1.1, .bool y.2.2.2.1])).run Tryd.prog W = .ok (.bool true) W := fun W => by rw [clNeq, decide_eq_false hxy]; rfl
          have HXY := Lib.hid hxy
          clear hxy
          go_wp2_with fail
          go_quiet (fail)
          go_wp2
          go_ret
          refine ⟨ret_bool ?_, _, World.drewN_drewN _ _ _⟩
          symm
          apply decide_eq_false
          intro e
          subst e
          exact HXY.out (by rw [← HX.out, ← HY.out])
      · have : k = l1.length := by omega
        subst this
        go_wp2
        go_ret
        exact ⟨ret_bool (decide_eq_true (List.ext_getElem Hnm.out (fun j a1 a2 => HEQ.out j a1 a2 a1))).symm, _, rfl⟩
  · have hn : ((l1.length : Int) != (l2.length : Int)) = true := by rw [bne_iff_ne]; omega
    go_enter Tryd.func38, Tryd.ntmps38
    go_wp2
    go_ret
    exact ⟨ret_bool (by symm; apply decide_eq_false; intro e; subst e; exact hnm rfl), 0, rfl⟩

set_option maxHeartbeats 4000000 in
set_option maxRecDepth 100000 in
theorem refSame08 (w : World) (v1 v2 : Value) (l1 l2 : List Tr) (h1 : IsC w v1 l1) (h2 : IsC w v2 l2) :
    Calls Tryd.prog 17 #[v1, v2] w fun e w' => e = .returned (.bool (decide (l1 = l2))) ∧ ∃ q, w' = w.drewN q := by
  obtain ⟨ao1, c1, rfl, b1, m1, z1, g1⟩ := h1.opened
  obtain ⟨ao2, c2, rfl, b2, m2, z2, g2⟩ := h2.opened
  have G1 := Lib.hid g1
  have G2 := Lib.hid g2
  clear g1 g2 h1 h2 z1 z2
  by_cases hnm : l1.length = l2.length
  · have Hnm := Lib.hid hnm
    have hn : ((l1.length : Int) != (l2.length : Int)) = false := by rw [hnm]; simp
    clear hnm
    go_enter Tryd.func17, Tryd.ntmps17
    go_wp2
    go_loopg [13] l1.length (fun g s13 wr => ∃ k q : Nat, k ≤ l1.length ∧ l1.length - k ≤ g ∧ s13 = .int .i64 k ∧ wr = w.drewN q ∧ ∀ j (h1 : j < l1.length) (h2 : j < l2.length), j < k → l1[j] = l2[j])
    case atStart => exact ⟨0, 0, Nat.zero_le _, by omega, rfl, rfl, fun j _ _ hj => absurd hj (Nat.not_lt_zero _)⟩
    case round =>
      obtain ⟨k, q, hk, hg, rfl, rfl, heq⟩ := hrel
      have HEQ := Lib.hid heq
      clear heq
      by_cases hlt : k < l1.length
      · have hlt2 : k < l2.length := by have := Hnm.out; omega
        obtain ⟨p1, o1, rfl, e0, e1, e2, e3, e4, e5, e6⟩ := G1.out k hlt
        obtain ⟨p2, o2, rfl, f0, f1, f2, f3, f4, f5, f6⟩ := G2.out k hlt2
        generalize hxk : l1[k] = x at *
        generalize hyk : l2[k] = y at *
        have HX := Lib.hid hxk
        have HY := Lib.hid hyk
        clear hxk hyk
        by_cases hxy : x = y
        · have hne : ∀ W, (binOp .neq 40 (.agg #[.string x.1, .string x.2.1.2, .string x.2.2.1.2, .string x.2.2.2.2, .bool x.2.1.1, .bool x.2.2.1.1, .bool x.2.2.2.1]) (.agg #[.string y.1, .string y.2.1.2, .string y.2.2.1.2, .string y.2.2.2.2, .bool y.2.1.1, .bool y.2.2.1.1, .bool y.2.2.2.1])).run Tryd.prog W = .ok (.bool false) W := fun W => by rw [clNeq, decide_eq_true hxy]; rfl
          have HXY := Lib.hid hxy
          clear hxy
          go_wp2_with fail
          go_quiet (fail)
          go_wp2
          go_roundg (l1.length - (k + 1))
          case measure => omega
          case rel =>
            refine ⟨k + 1, _, by omega, by omega, by go_num, rfl, fun j a1 a2 hj => ?_⟩
            by_cases e : j = k
            · subst e
              rw [HX.out, HY.out, HXY.out]
            · exact HEQ.out j a1 a2 (by omega)
        · have hne : ∀ W, (binOp .neq 40 (.agg #[.string x.1, .string x.2.1.2, .string x.2.2.1.2, .string x.2.2.2.2, .bool x.2.1.1, .bool x.2.2.1.1, .bool x.2.2.2.1]) (.agg #[.string y.1, .string y.2.1.2, .string y.2.2.1.2, .string y.2.2.2.2, .bool y.2.1.1, .bool y.2.2.1.1, .bool y.2.2.2.1])).run Tryd.prog W = .ok (.bool true) W := fun W => by rw [clNeq, decide_eq_false hxy]; rfl
          have HXY := Lib.hid hxy
          clear hxy
          go_wp2_with fail
          go_quiet (fail)
          go_wp2
          go_ret
          refine ⟨ret_bool ?_, _, World.drewN_drewN _ _ _⟩
          symm
          apply decide_eq_false
          intro e
          subst e
          exact HXY.out (by rw [← HX.out, ← HY.out])
      · have : k = l1.length := by omega
        subst this
        go_wp2
        go_ret
        exact ⟨ret_bool (decide_eq_true (List.ext_getElem Hnm.out (fun j a1 a2 => HEQ.out j a1 a2 a1))).symm, _, rfl⟩
  · have hn : ((l1.length : Int) != (l2.length : Int)) = true := by rw [bne_iff_ne]; omega
    go_enter Tryd.func17, Tryd.ntmps17
    go_wp2
    go_ret
    exact ⟨ret_bool (by symm; apply decide_eq_false; intro e; subst e; exact hnm rfl), 0, rfl⟩

set_option maxHeartbeats 1000000 in
theorem mergeSame (w : World) (v1 v2 : Value) (l1 l2 : List Tr) (h1 : IsC w v1 l1) (h2 : IsC w v2 l2) :
    Calls Tryd.prog 25 #[v1, v2] w fun e w' => e = .returned (.bool (decide (l1 = l2))) ∧ ∃ q, w' = w.drewN q := by
  go_enter Tryd.func25, Tryd.ntmps25
  go_wp2_with fail
  refine Calls.mono (slicesEqualC _ _ _ l1 l2 h1 h2) ?_
  rintro e w' ⟨rfl, q, rfl⟩
  go_wp2
  go_ret
  exact ⟨rfl, q, rfl⟩

section
variable {H : Type} {enc : TypeId × Value → H} {w : World}
set_option maxRecDepth 100000 in
theorem opens_clash : Opens enc Tryd.prog w 40 (fun cs => ∃ x : Tr, cs = clT x ∧ (clT x).length = 7 ∧ True) := by
  refine (opens_struct Tryd.underlying40 7 (by kernel_rfl)
    [fun cs => ∃ s : ByteArray, cs = [.string s] ∧ s.size ≤ 140737488351232, fun cs => ∃ s : ByteArray, cs = [.string s] ∧ s.size ≤ 140737488351232, fun cs => ∃ s : ByteArray, cs = [.string s] ∧ s.size ≤ 140737488351232, fun cs => ∃ s : ByteArray, cs = [.string s] ∧ s.size ≤ 140737488351232,
     fun cs => ∃ b, cs = [.bool b], fun cs => ∃ b, cs = [.bool b], fun cs => ∃ b, cs = [.bool b]] rfl ?_).mono ?_
  · intro i f hf ok hok
    match i with
    | 0 => cases hf; cases hok; exact opens_string Tryd.underlying9
    | 1 => cases hf; cases hok; exact opens_string Tryd.underlying9
    | 2 => cases hf; cases hok; exact opens_string Tryd.underlying9
    | 3 => cases hf; cases hok; exact opens_string Tryd.underlying9
    | 4 => cases hf; cases hok; exact opens_bool Tryd.underlying4
    | 5 => cases hf; cases hok; exact opens_bool Tryd.underlying4
    | 6 => cases hf; cases hok; exact opens_bool Tryd.underlying4
    | i + 7 => cases hok
  · rintro cs ⟨hl, h⟩
    obtain ⟨s0, e0, _⟩ := h 0 _ rfl _ rfl
    obtain ⟨s1, e1, _⟩ := h 1 _ rfl _ rfl
    obtain ⟨s2, e2, _⟩ := h 2 _ rfl _ rfl
    obtain ⟨s3, e3, _⟩ := h 3 _ rfl _ rfl
    obtain ⟨b4, e4⟩ := h 4 _ rfl _ rfl
    obtain ⟨b5, e5⟩ := h 5 _ rfl _ rfl
    obtain ⟨b6, e6⟩ := h 6 _ rfl _ rfl
    have a7 : cs.drop (6 + 1) = [] := List.drop_eq_nil_of_le (by omega)
    have a6 := cut_at 6 1 a7
    have a5 := cut_at 5 1 a6
    have a4 := cut_at 4 1 a5
    have a3 := cut_at 3 1 a4
    have a2 := cut_at 2 1 a3
    have a1 := cut_at 1 1 a2
    have a0 := cut_at 0 1 a1
    rw [List.drop_zero] at a0
    refine ⟨(s0, (b4, s1), (b5, s2), (b6, s3)), ?_, rfl, trivial⟩
    rw [a0]
    exact congr (congrArg _ e0) (congr (congrArg _ e1) (congr (congrArg _ e2) (congr (congrArg _ e3) (congr (congrArg _ e4) (congr (congrArg _ e5) (congr (congrArg _ e6) rfl)))))) |>.trans (by simp [clT])
set_option maxRecDepth 100000 in
theorem opens_clashes : Opens enc Tryd.prog w 29 (fun cs => ∃ (v : Value) (xs : List Tr), cs = [v] ∧ IsSl w v 7 xs.length (xs.flatMap clT) ∧ (∀ x ∈ xs, True) ∧ xs.length * 72 ≤ 140737488351232) :=
  opens_slice 7 72 clT (fun _ => True) Tryd.underlying29 (by kernel_rfl) (by omega) (by kernel_rfl) opens_clash
end
set_option maxRecDepth 100000 in
theorem open_clashes {H : Type} {enc : TypeId × Value → H} {w : World} {v : Value} {d : DataW H} {p : List MemPlace} {r : Reach} {b0 : Nat}
    (hv : Value.okWide Tryd.prog w r b0 29 v) (h : DataW.Trod enc Tryd.prog w 0 (fun _ => true) true 29 v d p) (hL : Light Tryd.prog 29 d) : ∃ l, IsC w v l := by
  obtain ⟨a, len, cap, rfl⟩ := okWide_slice Tryd.underlying29 hv
  obtain ⟨u, l, e, h1, h2, _⟩ := arg_of opens_clashes h hL
  have e : (.slice a len cap : Value) = u := by simpa [Value.cells] using e
  subst e
  exact ⟨l, ⟨h1⟩⟩
end Go.Proofs.YtpcpcjejdngllaaDoor
