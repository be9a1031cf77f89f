/- The walks of the reference's Of and Moves. -/
import Derived.Test.YtgcbkhmaabmdjaaEdL
namespace Go.Proofs.Ytgcbkhmaabmdjaa
open Go.RowKit
set_option linter.unusedVariables false

theorem lit_sl (w : World) (x : Ed) {b : Nat} (hb : w.heap.size = b) : IsSl (w.alloc (.cells #[.string x.path, .int .i64 x.at_, .int .i64 x.n, .string x.text] 41)) (.slice (some ⟨b, 0, none⟩) 1 1) 4 1 (edC x) := by
  subst hb
  refine ⟨rfl, _, _, rfl, by decide, by decide, (fun h => by cases h), fun i hi => ⟨_, 0, rfl, ?_⟩⟩
  rw [Nat.zero_add, World.cell?_alloc_new, ← Array.getElem?_toList]
  rfl
theorem edC_one1 (x : Ed) : ∀ u ∈ edC x, u.oneCell' = true := by
  intro u hu
  exact edC_one [x] u (by simpa using hu)
def ofF (l : List Ed) (s : ByteArray) : List Ed := l.filter fun x => x.path.toList == s.toList

set_option maxHeartbeats 4000000 in
set_option maxRecDepth 100000 in
theorem refOf (w : World) (v : Value) (l : List Ed) (s : ByteArray) (h : IsE w v l) (hl : l.length ≤ 1000000) :
    Calls Try.prog 13 #[v, .string s] w fun e w' => ∃ v', e = .returned v' ∧ IsE w' v' (ofF l s) ∧ Ext w w' := by
  obtain ⟨ao, cap, rfl, b1, m1, z1, g1⟩ := h.opened
  have G1 := Lib.hid g1
  have HO := Lib.hid h.ok
  clear g1 z1 h
  go_enter Try.func13, Try.ntmps13
  go_wp2_with fail
  go_loopg [5, 10] l.length (fun g s5 s10 wr => ∃ k : Nat, k ≤ l.length ∧ l.length - k ≤ g ∧ s10 = .int .i64 k ∧ wr.ownsRow w.heap.size 41 4 s5 (ofF (l.take k) s).length ((ofF (l.take k) s).flatMap edC) ∧ Ext w wr)
  case atStart => exact ⟨0, Nat.zero_le _, by omega, rfl, World.ownsRow_nil _ _ _ _, Ext.refl _⟩
  case round =>
    obtain ⟨k, hk, hg, rfl, hown, xr⟩ := hrel
    have hlen : (ofF (l.take k) s).length ≤ k := by
      have h1 : (ofF (l.take k) s).length ≤ (l.take k).length := List.length_filter_le _ _
      rw [List.length_take] at h1
      omega
    by_cases hlt : k < l.length
    · obtain ⟨p, o, rfl, e0, e1, e2, e3⟩ := G1.out k hlt
      have e0 := xr.cell e0
      have e1 := xr.cell e1
      have e2 := xr.cell e2
      have e3 := xr.cell e3
      have hstep : ofF (l.take (k + 1)) s = ofF (l.take k) s ++ (if (l[k].path.toList == s.toList) = true then [l[k]] else []) := by
        unfold ofF
        rw [List.take_add_one, List.getElem?_eq_getElem hlt, List.filter_append]
        simp only [Option.toList_some, List.filter_cons, List.filter_nil]
      generalize hx : l[k] = x at *
      have HX := Lib.hid hx
      clear hx
      generalize ofF (l.take k) s = m at *
      cases hb : (x.path.toList == s.toList)
      · rw [hb] at hstep
        have hstep : ofF (l.take (k + 1)) s = m := by simpa using hstep
        have HS := Lib.hid hstep
        clear hstep
        go_wp2
        go_roundg (l.length - (k + 1))
        case measure => omega
        case rel => exact ⟨k + 1, by omega, by omega, by go_num, by rw [HS.out]; exact hown.alloc _, xr.alloc _⟩
      · rw [hb] at hstep
        have hstep : ofF (l.take (k + 1)) s = m ++ [x] := by simpa using hstep
        have HS := Lib.hid hstep
        clear hstep
        have xs := xr.size
        go_wp2_with (at_builtin; go_must (refine wp_app tyE rfl _ _ rfl _ _ _ _ ((hown.alloc _).alloc _) (by rfl) _ 1 (edC x) (lit_sl _ x (b := wr.heap.size + 1) (by simp)) (by rfl) (edC_one1 x) (by omega) (by omega) (by simp; omega) ?_); intro v4 w4 hown4 hgrow4)
        have x4 := own_base ((hown.alloc _).alloc _) hgrow4 ((xr.alloc _).alloc _) (Nat.le_refl _)
        go_roundg (l.length - (k + 1))
        case measure => omega
        case rel => exact ⟨k + 1, by omega, by omega, by go_num, by rw [HS.out, List.flatMap_append, List.length_append]; simpa using hown4, x4⟩
    · have : k = l.length := by omega
      subst this
      rw [List.take_length] at hown hlen
      have hIs := IsSl.of_owns hown
      go_wp2
      go_ret
      exact ⟨_, rfl, ⟨hIs, fun e he => HO.out e ((List.mem_filter.1 he).1)⟩, xr⟩

theorem ofF_chk {l : List Ed} (p : ByteArray) (h : chk l = true) : ofF l p = ofL l p := filter_of p l (chkR_of l h)

set_option maxHeartbeats 4000000 in
set_option maxRecDepth 100000 in
theorem refMoves (w : World) (v : Value) (l : List Ed) (p : ByteArray) (n : Int) (h : IsE w v l) (hl : l.length ≤ 1000000) (hc : chk l = true) :
    Calls Try.prog 15 #[v, .string p, .int .i64 n] w fun e w' => e = .returned (mvV (movesR l p n)) ∧ Ext w w' := by
  have hL : movesR l p n = if chk l = true ∧ inB n = true then movesL n (ofL l p) n else none := rfl
  generalize movesR l p n = R at *
  have hx := h
  obtain ⟨ao, cap, rfl, b1, m1, z1, g1⟩ := h.opened
  clear z1 g1
  have HL := Lib.hid hL
  have HC := Lib.hid hc
  clear hL hc
  by_cases n0 : n < 0
  · have HR := Lib.hid (by rw [HL.out, inB_f (by omega)]; simp : R = none)
    clear HL
    go_enter Try.func15, Try.ntmps15
    go_wp2
    go_ret2
    exact ⟨by rw [HR.out]; rfl, by repeat' (first | assumption | exact Ext.refl _ | refine Ext.alloc ?_ _ | refine Ext.drew ?_)⟩
  by_cases n1 : 4096 < n
  · have HR := Lib.hid (by rw [HL.out, inB_f (by omega)]; simp : R = none)
    clear HL
    go_enter Try.func15, Try.ntmps15
    go_wp2
    go_ret2
    exact ⟨by rw [HR.out]; rfl, by repeat' (first | assumption | exact Ext.refl _ | refine Ext.alloc ?_ _ | refine Ext.drew ?_)⟩
  have HR := Lib.hid (by rw [HL.out, HC.out, inB_t (by omega)]; simp : R = movesL n (ofL l p) n)
  clear HL
  go_enter Try.func15, Try.ntmps15
  go_wp2_with fail
  refine Calls.mono (refOf _ _ l p hx hl) ?_
  rintro e w2 ⟨v', rfl, hm, x2⟩
  rw [ofF_chk p HC.out] at hm
  obtain ⟨ao2, cap2, rfl, b2, m2, z2, g2⟩ := hm.opened
  have hlen := ofL_len l p
  have hck := ofL_chk p HC.out
  generalize ofL l p = m at *
  have G2 := Lib.hid g2
  have HCK := Lib.hid (chkR_mem hck)
  clear g2 z2 hck
  go_wp2_with fail
  go_loopg [8, 21] m.length (fun g s8 s21 wr => ∃ (k : Nat) (t : Int), k ≤ m.length ∧ m.length - k ≤ g ∧ s8 = .int .i64 t ∧ s21 = .int .i64 k ∧ movesL n m n = movesL n (m.drop k) (n + t) ∧ -4096 * k ≤ t ∧ t ≤ 4096 * k ∧ Ext w2 wr)
  case atStart => exact ⟨0, 0, Nat.zero_le _, by omega, rfl, rfl, by simp, by omega, by omega, Ext.refl _⟩
  case round =>
    obtain ⟨k, t, hk, hg, rfl, rfl, heq, ht1, ht2, xr⟩ := hrel
    have HEQ := Lib.hid heq
    clear heq
    by_cases hlt : k < m.length
    · obtain ⟨pb, o, rfl, e0, e1, e2, e3⟩ := G2.out k hlt
      have e0 := xr.cell e0
      have e1 := xr.cell e1
      have e2 := xr.cell e2
      have e3 := xr.cell e3
      obtain ⟨o1, o2, o3, o4, o5, _⟩ := okOne_all (HCK.out m[k] (List.getElem_mem hlt))
      have heq := HEQ.out
      rw [List.drop_eq_getElem_cons hlt] at heq
      simp only [movesL] at heq
      generalize m[k] = x at *
      by_cases c1 : x.at_ + x.n ≤ n
      · rw [if_pos c1, show n + t + ((x.text.size : Int) - x.n) = n + (t + ((x.text.size : Int) - x.n)) from by omega] at heq
        have HE := Lib.hid heq
        clear heq HEQ
        have c3 : x.at_ ≤ n := by omega
        go_wp2
        go_roundg (m.length - (k + 1))
        case measure => omega
        case rel => exact ⟨k + 1, t + ((x.text.size : Int) - x.n), by omega, by omega, by go_num, by go_num, HE.out, by omega, by omega, by repeat' (first | assumption | exact Ext.refl _ | refine Ext.alloc ?_ _ | refine Ext.drew ?_)⟩
      · rw [if_neg c1] at heq
        have c1' : n < x.at_ + x.n := by omega
        by_cases c2 : x.at_ ≤ n
        · rw [if_pos c2] at heq
          have HE := Lib.hid heq
          clear heq HEQ
          go_wp2
          go_ret2
          exact ⟨by rw [HR.out, HE.out]; rfl, x2.trans (by repeat' (first | assumption | exact Ext.refl _ | refine Ext.alloc ?_ _ | refine Ext.drew ?_))⟩
        · rw [if_neg c2] at heq
          have HE := Lib.hid heq
          clear heq HEQ
          go_wp2
          go_roundg (m.length - (k + 1))
          case measure => omega
          case rel => exact ⟨k + 1, t, by omega, by omega, by go_num, by go_num, HE.out, by omega, by omega, by repeat' (first | assumption | exact Ext.refl _ | refine Ext.alloc ?_ _ | refine Ext.drew ?_)⟩
    · have : k = m.length := by omega
      subst this
      have heq := HEQ.out
      rw [List.drop_length] at heq
      have HE := Lib.hid heq
      clear heq HEQ
      go_wp2
      go_ret2
      exact ⟨by rw [HR.out, HE.out]; rfl, x2.trans xr⟩
end Go.Proofs.Ytgcbkhmaabmdjaa
