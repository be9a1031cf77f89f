/- The reference of merging: put, Paths, At. -/
import Derived.Test.YtpcpcjejdngllaaDoorMgCh
namespace Go.Proofs.YtpcpcjejdngllaaDoor
open Go.RowKit
set_option linter.unusedVariables false
set_option linter.unusedSimpArgs false

/-- A row of strings. -/
def IsStr (w : World) (v : Value) (l : List ByteArray) : Prop := IsSl w v 1 l.length (l.map .string)
theorem IsStr.ext {w w' : World} {v : Value} {l : List ByteArray} (h : IsStr w v l) (k : Ext w w') : IsStr w' v l := IsSl.ext h k
theorem IsStr.opened {w : World} {v : Value} {l : List ByteArray} (h : IsStr w v l) :
    ∃ ao cap, v = .slice ao l.length cap ∧ l.length ≤ cap ∧ cap ≤ 9223372036854775807 ∧ (ao = none → cap = 0) ∧ ∀ i (hi : i < l.length), ∃ b off, ao = some ⟨b, off, none⟩ ∧ w.cell? ⟨b, off + i, none⟩ = some (.string l[i]) := by
  obtain ⟨h1, ao, cap, e, h2, h3, h4, h5⟩ := h
  refine ⟨ao, cap, e, h2, h3, h4, fun i hi => ?_⟩
  obtain ⟨b, off, e0, c0⟩ := h5 i (by simpa using hi)
  exact ⟨b, off, e0, by rw [c0, List.getElem?_map, List.getElem?_eq_getElem hi]; rfl⟩
theorem strv_one {p : ByteArray} : ∀ u ∈ [Value.string p], u.oneCell' = true := fun u hu => by simp only [List.mem_cons, List.not_mem_nil, or_false] at hu; subst hu; rfl
theorem filt_snoc {α : Type} (f : α → Bool) (l : List α) {k : Nat} (hk : k < l.length) : (l.take (k + 1)).filter f = (l.take k).filter f ++ (if f l[k] = true then [l[k]] else []) := by
  rw [List.take_succ_eq_append_getElem hk, List.filter_append]
  simp only [List.filter_cons, List.filter_nil]
set_option maxHeartbeats 8000000 in
set_option maxRecDepth 100000 in
theorem refPut (w : World) (v : Value) (l : List ByteArray) (p : ByteArray) (h : IsStr w v l) (hl : l.length ≤ 100000) :
    Calls Tryd.prog 36 #[v, .string p] w fun e w' => ∃ v', e = .returned v' ∧ IsStr w' v' (putP l p) ∧ Ext w w' := by
  obtain ⟨R, hR⟩ : ∃ R, putP l p = R := ⟨_, rfl⟩
  rw [hR]
  have HR := Lib.hid hR
  clear hR
  have hIS := Lib.hid h
  obtain ⟨ao, cap, rfl, b1, m1, z1, g1⟩ := h.opened
  have G1 := Lib.hid g1
  clear g1 z1 h
  go_enter Tryd.func36, Tryd.ntmps36
  go_wp2_with fail
  go_loopg [5, 12] l.length (fun g s5 s12 wr => ∃ k : Nat, k ≤ l.length ∧ l.length - k ≤ g ∧ s12 = .int .i64 (k : Int) ∧ (∀ j (hj : j < l.length), j < k → (l[j].toList == p.toList) = false) ∧ wr.ownsRow w.heap.size 9 1 s5 ((l.take k).filter (fun x => bl x p)).length (((l.take k).filter (fun x => bl x p)).map .string) ∧ Ext w wr)
  case atStart => exact ⟨0, by omega, by omega, rfl, fun j _ hj => absurd hj (Nat.not_lt_zero _), World.ownsRow_nil _ _ _ _, Ext.refl _⟩
  case round =>
    obtain ⟨k, hk, hg, rfl, h0, own, xr⟩ := hrel
    have H0 := Lib.hid h0
    clear h0
    by_cases hlt : k < l.length
    · obtain ⟨pb, o, rfl, e0⟩ := G1.out k hlt
      have e0 := xr.cell e0
      have HF := Lib.hid (filt_snoc (fun x => bl x p) l hlt)
      have hcl : ((l.take k).filter (fun x => bl x p)).length ≤ k := Nat.le_trans (List.length_filter_le _ _) (by rw [List.length_take]; omega)
      generalize (l.take k).filter (fun x => bl x p) = F at *
      cases hq : (l[k].toList == p.toList) with
      | true =>
        have hr : l = R := by
          rw [← HR.out]
          unfold putP
          rw [if_pos (List.any_eq_true.2 ⟨l[k], List.getElem_mem hlt, hq⟩)]
        clear HF
        generalize l[k] = x at *
        subst hr
        go_wp2_with fail
        go_ret
        exact ⟨_, rfl, IsStr.ext hIS.out xr, xr⟩
      | false =>
        have H1 := Lib.hid (show ∀ j (hj : j < l.length), j < k + 1 → (l[j].toList == p.toList) = false from fun j hj hj1 => by
          by_cases e : j = k
          · subst e; exact hq
          · exact H0.out j hj (by omega))
        cases hb : bl l[k] p with
        | false =>
          rw [hb] at HF
          generalize l[k] = x at *
          have hb' : Op.bytesLess x.toList p.toList = false := hb
          go_wp2_with fail
          go_roundg (l.length - (k + 1))
          case measure => omega
          case rel => exact ⟨k + 1, by omega, by omega, by go_num, H1.out, by rw [HF.out]; simpa using own, xr⟩
        | true =>
          rw [hb] at HF
          generalize l[k] = x at *
          have hb' : Op.bytesLess x.toList p.toList = true := hb
          have own6 := own.alloc (.cells #[.string x] 9)
          have xr6 := xr.alloc (.cells #[.string x] 9)
          have hw06 := xr6.size
          go_wp2_with (at_builtin; refine wp_app (w := wr.alloc (.cells #[.string x] 9)) tyS rfl (.tmp 23) (.tmp 25) rfl w.heap.size _ F.length _ own6 (by rfl) _ 1 [.string x] (sl_one_new (w := wr) (n := 1) (e := 9) (Q := [.string x]) rfl rfl) (by rfl) strv_one (by omega) (by omega) hw06 ?_; intro v7 w7 own7 gr7)
          have xw7 := own_base own6 gr7 xr6 (Nat.le_refl _)
          go_roundg (l.length - (k + 1))
          case measure => omega
          case rel => exact ⟨k + 1, by omega, by omega, by go_num, H1.out, by rw [HF.out, List.map_append, List.length_append]; simpa using own7, xw7⟩
    · obtain rfl : k = l.length := by omega
      rw [List.take_of_length_le (Nat.le_refl _)] at own
      have hr : l.filter (fun x => bl x p) ++ p :: l.filter (fun x => bl p x) = R := by
        rw [← HR.out]
        unfold putP
        rw [if_neg (fun h => by
          obtain ⟨x, hx, hxp⟩ := List.any_eq_true.1 h
          obtain ⟨j, hj, rfl⟩ := List.getElem_of_mem hx
          rw [H0.out j hj hj] at hxp
          cases hxp)]
      have HR2 := Lib.hid hr
      clear hr
      have hcl : (l.filter (fun x => bl x p)).length ≤ l.length := List.length_filter_le _ _
      generalize l.filter (fun x => bl x p) = F at *
      have own6 := own.alloc (.cells #[.string p] 9)
      have xr6 := xr.alloc (.cells #[.string p] 9)
      have hw06 := xr6.size
      go_wp2_with (at_builtin; go_must (refine wp_app (w := wr.alloc (.cells #[.string p] 9)) tyS rfl (.tmp 28) (.tmp 30) rfl w.heap.size _ F.length _ own6 (by rfl) _ 1 [.string p] (sl_one_new (w := wr) (n := 1) (e := 9) (Q := [.string p]) rfl rfl) (by rfl) strv_one (by omega) (by omega) hw06 ?_); intro v7 w7 own7 gr7)
      have xw7 := own_base own6 gr7 xr6 (Nat.le_refl _)
      clear own6 xr6 own xr gr7
      go_loopg [5, 34] l.length (fun g s5 s34 wr => ∃ k : Nat, k ≤ l.length ∧ l.length - k ≤ g ∧ s34 = .int .i64 (k : Int) ∧ wr.ownsRow w.heap.size 9 1 s5 (F ++ p :: (l.take k).filter (fun x => bl p x)).length ((F ++ p :: (l.take k).filter (fun x => bl p x)).map .string) ∧ Ext w wr)
      case atStart => exact ⟨0, by omega, by omega, rfl, by simpa using own7, xw7⟩
      case round =>
        clear own7 xw7 hw06
        obtain ⟨k, hk, hg, rfl, own, xr⟩ := hrel
        by_cases hlt : k < l.length
        · obtain ⟨pb, o, rfl, e0⟩ := G1.out k hlt
          have e0 := xr.cell e0
          have HF := Lib.hid (filt_snoc (fun x => bl p x) l hlt)
          have hcl2 : ((l.take k).filter (fun x => bl p x)).length ≤ k := Nat.le_trans (List.length_filter_le _ _) (by rw [List.length_take]; omega)
          generalize (l.take k).filter (fun x => bl p x) = F2 at *
          have hcl3 : (F ++ p :: F2).length ≤ 300000 := by simp; omega
          have hq := H0.out k hlt hlt
          have hne : l[k] ≠ p := fun e => by rw [e] at hq; simp at hq
          cases hb : bl p l[k] with
          | false =>
            rw [hb] at HF
            have hb2 : bl l[k] p = true := by
              cases hb2 : bl l[k] p with
              | true => rfl
              | false => exact absurd (bl_eq hb2 hb) hne
            generalize l[k] = x at *
            have hb' : Op.bytesLess x.toList p.toList = true := hb2
            go_wp2_with fail
            go_roundg (l.length - (k + 1))
            case measure => omega
            case rel => exact ⟨k + 1, by omega, by omega, by go_num, by rw [HF.out]; simpa using own, xr⟩
          | true =>
            rw [hb] at HF
            have hb2 := bl_as hb
            generalize l[k] = x at *
            have hb' : Op.bytesLess x.toList p.toList = false := hb2
            have own6 := own.alloc (.cells #[.string x] 9)
            have xr6 := xr.alloc (.cells #[.string x] 9)
            have hw06 := xr6.size
            go_wp2_with (at_builtin; refine wp_app (w := wr.alloc (.cells #[.string x] 9)) tyS rfl (.tmp 41) (.tmp 43) rfl w.heap.size _ (F ++ p :: F2).length _ own6 (by rfl) _ 1 [.string x] (sl_one_new (w := wr) (n := 1) (e := 9) (Q := [.string x]) rfl rfl) (by rfl) strv_one (by omega) (by omega) hw06 ?_; intro v7 w7 own7 gr7)
            have xw7 := own_base own6 gr7 xr6 (Nat.le_refl _)
            go_roundg (l.length - (k + 1))
            case measure => omega
            case rel =>
              refine ⟨k + 1, by omega, by omega, by go_num, ?_, xw7⟩
              have e : F ++ p :: (F2 ++ [x]) = (F ++ p :: F2) ++ [x] := by simp
              rw [HF.out, if_pos trivial, e, List.map_append, List.length_append]
              exact own7
        · obtain rfl : k = l.length := by omega
          rw [List.take_of_length_le (Nat.le_refl _), HR2.out] at own
          go_wp2
          go_ret
          exact ⟨_, rfl, IsSl.of_owns own, xr⟩
theorem putP_len (l : List ByteArray) (p : ByteArray) : (putP l p).length ≤ l.length + 1 := by
  have := foldP_len [p] l
  simp at this
  omega
theorem getV_at (l : List Fl) (p : ByteArray) : getV (getL l p) = .tuple #[.string (atM l p).2, .bool (atM l p).1] := by
  unfold getV atM
  cases getL l p <;> rfl
set_option maxHeartbeats 1000000 in
theorem refAt (w : World) (v : Value) (l : List Fl) (p : ByteArray) (h : IsF w v l) :
    Calls Tryd.prog 24 #[.agg #[v], .string p] w fun e w' => e = .returned (.tuple #[.string (atM l p).2, .bool (atM l p).1]) ∧ Ext w w' := by
  obtain ⟨ao, cap, rfl, -⟩ := h.opened
  have x := (Ext.refl w).alloc (.cells #[.slice ao l.length cap] 24)
  have E := refGet _ _ l p (h.ext x)
  rw [getV_at] at E
  go_enter Tryd.func24, Tryd.ntmps24
  go_wp2_with fail
  refine Calls.mono E ?_
  rintro e w1 ⟨rfl, y⟩
  go_wp2
  refine bodyPost_ret (results_TT rfl _ _) rfl ?_
  exact ⟨rfl, x.trans y⟩
end Go.Proofs.YtpcpcjejdngllaaDoor
