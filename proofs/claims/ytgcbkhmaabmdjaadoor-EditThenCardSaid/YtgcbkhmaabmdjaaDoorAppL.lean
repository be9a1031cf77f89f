/- Appending, and where the new slice lies; ref18.Of's row is its own. -/
import Derived.Test.YtgcbkhmaabmdjaaDoorApp
import Derived.Test.YtgcbkhmaabmdjaaDoorEdM
import Derived.Deep.AppendLies
namespace Go.Proofs.YtgcbkhmaabmdjaaDoor
open Go.RowKit
set_option linter.unusedVariables false
set_option linter.unusedSimpArgs false

theorem wp_appL {P : Program} {t e : TypeId} {z : Value} {size bytes : Nat} (T : ETy P t e z size bytes) {w : World} {o : Oper} {a : Act} {K : Act → World → Prop} {Q : Exit → Act → World → Prop} (s x : Operand)
    (ho : o.op = .call { callee := .builtin .append, args := #[s, x], argTypes := #[t, t] })
    (base : Nat) (v : Value) (n : Nat) (xs : List Value) (hown : w.ownsRow base e size v n xs) (hs : a.eval s = v)
    (u : Value) (m : Nat) (news : List Value) (hm : 0 < m) (hu : IsSl w u size m news) (hx : a.eval x = u) (h1 : ∀ c ∈ news, c.oneCell' = true)
    (hlim : (n + m) * bytes ≤ 140737488355328) (hmax : n + m ≤ 9223372036854775807) (hbase : base ≤ w.heap.size)
    (h : ∀ v' w', w'.ownsRow base e size v' (n + m) (xs ++ news) → w.grownBy w' v.ownBlock → (v'.ownBlock = v.ownBlock ∨ v'.ownBlock = some w.heap.size) → K (a.put o.dst v') w') : o.wp P a w K Q := by
  obtain ⟨i, hi, hz, hs1, hb1⟩ := T.info
  obtain ⟨hlen, ao, cap, rfl, b1, m1, z1, g1⟩ := hu
  cases ao with
  | none =>
    obtain rfl := z1 rfl
    omega
  | some ad =>
    exact wp_append_lies w s x t ho base e i z size bytes T.und hi hz hs1 hb1 T.cells T.pos v n xs hs hown ad m cap news hx hlen (lies_news g1 rfl) h1 hm (by unfold maxLen; omega) hlim hbase _ rfl
      fun g c w' a1 a2 a3 _ => h _ w' a1 a2 (by
        rcases a3 with a3 | a3
        · exact .inl a3.symm
        · exact .inr (congrArg some a3))

set_option maxHeartbeats 4000000 in
set_option maxRecDepth 100000 in
theorem refOf2 (w : World) (v : Value) (l : List Ed) (s : ByteArray) (h : IsE w v l) (hl : l.length ≤ 1000000) :
    Calls Tryd.prog 37 #[v, .string s] w fun e w' => ∃ v', e = .returned v' ∧ w'.ownsRow w.heap.size 40 4 v' (ofF l s).length ((ofF l s).flatMap edC) ∧ Ext w w' := by
  obtain ⟨ao, cap, rfl, b1, m1, z1, g1⟩ := h.opened
  have G1 := Lib.hid g1
  have HO := Lib.hid h.ok
  clear g1 z1 h
  go_enter Tryd.func37, Tryd.ntmps37
  go_wp2_with fail
  go_loopg [5, 10] l.length (fun g s5 s10 wr => ∃ k : Nat, k ≤ l.length ∧ l.length - k ≤ g ∧ s10 = .int .i64 k ∧ wr.ownsRow w.heap.size 40 4 s5 (ofF (l.take k) s).length ((ofF (l.take k) s).flatMap edC) ∧ Ext w wr)
  case atStart => exact ⟨0, Nat.zero_le _, by omega, rfl, World.ownsRow_nil _ _ _ _, Ext.refl _⟩
  case round =>
    obtain ⟨k, hk, hg, rfl, hown, xr⟩ := hrel
    have hlen : (ofF (l.take k) s).length ≤ k := by
      have h1 : (ofF (l.take k) s).length ≤ (l.take k).length := List.length_filter_le _ _
      rw [List.length_take] at h1
      omega
    by_cases hlt : k < l.length
    · obtain ⟨p, o, rfl, e0, e1, e2, e3⟩ := G1.out k hlt
      have e0 := xr.cell e0
      have e1 := xr.cell e1
      have e2 := xr.cell e2
      have e3 := xr.cell e3
      have hstep : ofF (l.take (k + 1)) s = ofF (l.take k) s ++ (if (l[k].path.toList == s.toList) = true then [l[k]] else []) := by
        unfold ofF
        rw [List.take_add_one, List.getElem?_eq_getElem hlt, List.filter_append]
        simp only [Option.toList_some, List.filter_cons, List.filter_nil]
      generalize hx : l[k] = x at *
      have HX := Lib.hid hx
      clear hx
      generalize ofF (l.take k) s = m at *
      cases hb : (x.path.toList == s.toList)
      · rw [hb] at hstep
        have hstep : ofF (l.take (k + 1)) s = m := by simpa using hstep
        have HS := Lib.hid hstep
        clear hstep
        go_wp2
        go_roundg (l.length - (k + 1))
        case measure => omega
        case rel => exact ⟨k + 1, by omega, by omega, by go_num, by rw [HS.out]; exact hown.alloc _, xr.alloc _⟩
      · rw [hb] at hstep
        have hstep : ofF (l.take (k + 1)) s = m ++ [x] := by simpa using hstep
        have HS := Lib.hid hstep
        clear hstep
        have xs := xr.size
        go_wp2_with (at_builtin; go_must (refine wp_app tyE rfl _ _ rfl _ _ _ _ ((hown.alloc _).alloc _) (by rfl) _ 1 (edC x) (lit_sl _ x (b := wr.heap.size + 1) (by simp)) (by rfl) (edC_one1 x) (by omega) (by omega) (by simp; omega) ?_); intro v4 w4 hown4 hgrow4)
        have x4 := own_base ((hown.alloc _).alloc _) hgrow4 ((xr.alloc _).alloc _) (Nat.le_refl _)
        go_roundg (l.length - (k + 1))
        case measure => omega
        case rel => exact ⟨k + 1, by omega, by omega, by go_num, by rw [HS.out, List.flatMap_append, List.length_append]; simpa using hown4, x4⟩
    · have : k = l.length := by omega
      subst this
      rw [List.take_length] at hown hlen
      go_wp2
      go_ret
      exact ⟨_, rfl, hown, xr⟩

end Go.Proofs.YtgcbkhmaabmdjaaDoor
