/- The walks of the reference's Of and Moves. -/
import Derived.Test.YtgcbkhmaabmdjaaDoorEdK
import Derived.Test.YtgcbkhmaabmdjaaDoorEdTy
namespace Go.Proofs.YtgcbkhmaabmdjaaDoor
open Go.RowKit
set_option linter.unusedVariables false

def ofF (l : List Ed) (s : ByteArray) : List Ed := l.filter fun x => x.path.toList == s.toList

set_option maxHeartbeats 4000000 in
set_option maxRecDepth 100000 in
theorem refOf (w : World) (v : Value) (l : List Ed) (s : ByteArray) (h : IsE w v l) (hl : l.length ≤ 1000000) :
    Calls Tryd.prog 37 #[v, .string s] w fun e w' => ∃ v', e = .returned v' ∧ IsE w' v' (ofF l s) ∧ Ext w w' := by
  obtain ⟨ao, cap, rfl, b1, m1, z1, g1⟩ := h.opened
  have G1 := Lib.hid g1
  have HO := Lib.hid h.ok
  clear g1 z1 h
  go_enter Tryd.func37, Tryd.ntmps37
  go_wp2_with fail
  go_loopg [5, 10] l.length (fun g s5 s10 wr => ∃ k : Nat, k ≤ l.length ∧ l.length - k ≤ g ∧ s10 = .int .i64 k ∧ wr.ownsRow w.heap.size 40 4 s5 (ofF (l.take k) s).length ((ofF (l.take k) s).flatMap edC) ∧ Ext w wr)
  case atStart => exact ⟨0, Nat.zero_le _, by omega, rfl, World.ownsRow_nil _ _ _ _, Ext.refl _⟩
  case round =>
    obtain ⟨k, hk, hg, rfl, hown, xr⟩ := hrel
    have hlen : (ofF (l.take k) s).length ≤ k := by
      have h1 : (ofF (l.take k) s).length ≤ (l.take k).length := List.length_filter_le _ _
      rw [List.length_take] at h1
      omega
    by_cases hlt : k < l.length
    · obtain ⟨p, o, rfl, e0, e1, e2, e3⟩ := G1.out k hlt
      have e0 := xr.cell e0
      have e1 := xr.cell e1
      have e2 := xr.cell e2
      have e3 := xr.cell e3
      have hstep : ofF (l.take (k + 1)) s = ofF (l.take k) s ++ (if (l[k].path.toList == s.toList) = true then [l[k]] else []) := by
        unfold ofF
        rw [List.take_add_one, List.getElem?_eq_getElem hlt, List.filter_append]
        simp only [Option.toList_some, List.filter_cons, List.filter_nil]
      generalize hx : l[k] = x at *
      have HX := Lib.hid hx
      clear hx
      generalize ofF (l.take k) s = m at *
      cases hb : (x.path.toList == s.toList)
      · rw [hb] at hstep
        have hstep : ofF (l.take (k + 1)) s = m := by simpa using hstep
        have HS := Lib.hid hstep
        clear hstep
        go_wp2
        go_roundg (l.length - (k + 1))
        case measure => omega
        case rel => exact ⟨k + 1, by omega, by omega, by go_num, by rw [HS.out]; exact hown.alloc _, xr.alloc _⟩
      · rw [hb] at hstep
        have hstep : ofF (l.take (k + 1)) s = m ++ [x] := by simpa using hstep
        have HS := Lib.hid hstep
        clear hstep
        have xs := xr.size
        go_wp2_with (at_builtin; go_must (refine wp_app tyE rfl _ _ rfl _ _ _ _ ((hown.alloc _).alloc _) (by rfl) _ 1 (edC x) (lit_sl _ x (b := wr.heap.size + 1) (by simp)) (by rfl) (edC_one1 x) (by omega) (by omega) (by simp; omega) ?_); intro v4 w4 hown4 hgrow4)
        have x4 := own_base ((hown.alloc _).alloc _) hgrow4 ((xr.alloc _).alloc _) (Nat.le_refl _)
        go_roundg (l.length - (k + 1))
        case measure => omega
        case rel => exact ⟨k + 1, by omega, by omega, by go_num, by rw [HS.out, List.flatMap_append, List.length_append]; simpa using hown4, x4⟩
    · have : k = l.length := by omega
      subst this
      rw [List.take_length] at hown hlen
      have hIs := IsSl.of_owns hown
      go_wp2
      go_ret
      exact ⟨_, rfl, ⟨hIs, fun e he => HO.out e ((List.mem_filter.1 he).1)⟩, xr⟩

theorem ofF_chk {l : List Ed} (p : ByteArray) (h : chk l = true) : ofF l p = ofL l p := filter_of p l (chkR_of l h)

end Go.Proofs.YtgcbkhmaabmdjaaDoor
