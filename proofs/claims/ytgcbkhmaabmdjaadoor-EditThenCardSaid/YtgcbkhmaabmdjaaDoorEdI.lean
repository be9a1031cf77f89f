/- The walks of edit.One and edit.Moves. -/
import Derived.Test.YtgcbkhmaabmdjaaDoorEdH
namespace Go.Proofs.YtgcbkhmaabmdjaaDoor
open Go.RowKit
set_option linter.unusedVariables false

/-- What edit.One gives. -/
def oneL (s p : ByteArray) (l : List Ed) : ByteArray × Int :=
  if chk l = true then (if fitsL (ofL l p) s.size = true then (⟨(doneFrom s.data.toList 0 (ofL l p)).toArray⟩, 0) else (ByteArray.empty, 2)) else (ByteArray.empty, 280)

set_option maxHeartbeats 4000000 in
set_option maxRecDepth 100000 in
theorem editOne (w : World) (v : Value) (l : List Ed) (s p : ByteArray) (h : IsE w v l) (hl : l.length ≤ 1000000) (hs : s.size ≤ 1099511627776) :
    Calls Tryd.prog 24 #[.string s, .string p, v] w fun e w' => e = .returned (.tuple #[.string (oneL s p l).1, .int .i64 (oneL s p l).2]) ∧ Ext w w' := by
  have hL : oneL s p l = if chk l = true then (if fitsL (ofL l p) s.size = true then (⟨(doneFrom s.data.toList 0 (ofL l p)).toArray⟩, 0) else (ByteArray.empty, 2)) else (ByteArray.empty, 280) := rfl
  generalize oneL s p l = R at *
  have hx := h
  obtain ⟨ao, cap, rfl, b1, m1, z1, g1⟩ := h.opened
  clear z1 g1
  have HL := Lib.hid hL
  clear hL
  go_enter Tryd.func24, Tryd.ntmps24
  go_wp2_with fail
  refine Calls.mono (editCheck _ _ l hx) ?_
  rintro e w1 ⟨rfl, x1⟩
  cases hc : chk l
  · have HR := Lib.hid (by rw [HL.out, hc]; rfl : R = (ByteArray.empty, 280))
    clear HL hc
    simp only [show errE false = 280 from rfl]
    go_wp2
    go_ret2
    exact ⟨by rw [HR.out]; rfl, x1⟩
  · have hx1 := hx.ext x1
    have HC := Lib.hid hc
    clear hc
    simp only [show errE true = 0 from rfl]
    go_wp2_with fail
    refine Calls.mono (editOf _ _ l p hx1) ?_
    rintro e w2 ⟨v', rfl, hm, x2⟩
    obtain ⟨ao2, cap2, rfl, b2, m2, z2, g2⟩ := hm.opened
    clear z2 g2
    go_wp2_with fail
    refine Calls.mono (editFits _ _ (ofL l p) _ hm) ?_
    rintro e w3 ⟨rfl, x3⟩
    have hm3 := hm.ext x3
    have X3 := (x1.trans x2).trans x3
    cases hf : fitsL (ofL l p) s.size
    · have HR := Lib.hid (by rw [HL.out, HC.out, hf]; rfl : R = (ByteArray.empty, 2))
      clear HL hf
      go_wp2
      go_ret2
      exact ⟨by rw [HR.out]; rfl, X3⟩
    · have HR := Lib.hid (by rw [HL.out, HC.out, hf]; rfl : R = (⟨(doneFrom s.data.toList 0 (ofL l p)).toArray⟩, 0))
      have hok := ok_of HC.out hf
      have hlen := ofL_len l p
      clear HL hf
      go_wp2_with fail
      refine Calls.mono (editDone _ _ (ofL l p) s hm3 hok (by omega) hs) ?_
      rintro e w4 ⟨rfl, x4⟩
      go_wp2
      go_ret2
      exact ⟨by rw [HR.out]; rfl, X3.trans x4⟩

/-- Where a byte stands behind the edits of its path. -/
def movesL (at' : Int) : List Ed → Int → Option Int
  | [], to => some to
  | e :: r, to => if e.at_ + e.n ≤ at' then movesL at' r (to + ((e.text.size : Int) - e.n)) else if e.at_ ≤ at' then none else movesL at' r to
def movesR (l : List Ed) (p : ByteArray) (at' : Int) : Option Int := if chk l = true ∧ inB at' = true then movesL at' (ofL l p) at' else none
def mvV (o : Option Int) : Value := .tuple #[.int .i64 (o.getD 0), .bool o.isSome]

set_option maxHeartbeats 4000000 in
set_option maxRecDepth 100000 in
theorem editMoves (w : World) (v : Value) (l : List Ed) (p : ByteArray) (n : Int) (h : IsE w v l) (hl : l.length ≤ 1000000) :
    Calls Tryd.prog 25 #[v, .string p, .int .i64 n] w fun e w' => e = .returned (mvV (movesR l p n)) ∧ Ext w w' := by
  have hL : movesR l p n = if chk l = true ∧ inB n = true then movesL n (ofL l p) n else none := rfl
  generalize movesR l p n = R at *
  have hx := h
  obtain ⟨ao, cap, rfl, b1, m1, z1, g1⟩ := h.opened
  clear z1 g1
  have HL := Lib.hid hL
  clear hL
  go_enter Tryd.func25, Tryd.ntmps25
  go_wp2_with fail
  refine Calls.mono (editCheck _ _ l hx) ?_
  rintro e w1 ⟨rfl, x1⟩
  cases hc : chk l
  · have HR := Lib.hid (by rw [HL.out, hc]; rfl : R = none)
    clear HL hc
    simp only [show errE false = 280 from rfl]
    go_wp2
    go_ret2
    exact ⟨by rw [HR.out]; rfl, x1⟩
  · have hx1 := hx.ext x1
    have HC := Lib.hid hc
    clear hc
    simp only [show errE true = 0 from rfl]
    cases hn : inB n
    · have HR := Lib.hid (by rw [HL.out, hn]; simp : R = none)
      clear HL
      go_wp2_with fail
      refine Calls.mono (editIn _ _ _ hn) ?_
      rintro e w2 ⟨rfl, rfl⟩
      go_wp2
      go_ret2
      exact ⟨by rw [HR.out]; rfl, x1⟩
    · have HR := Lib.hid (by rw [HL.out, HC.out, hn]; simp : R = movesL n (ofL l p) n)
      have hnb : 0 ≤ n ∧ n ≤ 4096 := by simpa [inB] using hn
      clear HL
      go_wp2_with fail
      refine Calls.mono (editIn _ _ _ hn) ?_
      rintro e w2 ⟨rfl, rfl⟩
      go_wp2_with fail
      refine Calls.mono (editOf _ _ l p hx1) ?_
      rintro e w2 ⟨v', rfl, hm, x2⟩
      obtain ⟨ao2, cap2, rfl, b2, m2, z2, g2⟩ := hm.opened
      have hlen := ofL_len l p
      have hck := ofL_chk p HC.out
      generalize ofL l p = m at *
      have G2 := Lib.hid g2
      have HCK := Lib.hid (chkR_mem hck)
      clear g2 z2 hck
      have X2 := x1.trans x2
      obtain ⟨hn1, hn2⟩ := hnb
      go_wp2_with fail
      go_loopg [8, 24] m.length (fun g s8 s24 wr => ∃ (k : Nat) (t : Int), k ≤ m.length ∧ m.length - k ≤ g ∧ s8 = .int .i64 t ∧ s24 = .int .i64 k ∧ movesL n m n = movesL n (m.drop k) t ∧ n - 4096 * k ≤ t ∧ t ≤ n + 4096 * k ∧ Ext w2 wr)
      case atStart => exact ⟨0, n, Nat.zero_le _, by omega, rfl, rfl, rfl, by omega, by omega, Ext.refl _⟩
      case round =>
        obtain ⟨k, t, hk, hg, rfl, rfl, heq, ht1, ht2, xr⟩ := hrel
        have HEQ := Lib.hid heq
        clear heq
        by_cases hlt : k < m.length
        · obtain ⟨pb, o, rfl, e0, e1, e2, e3⟩ := G2.out k hlt
          have e0 := xr.cell e0
          have e1 := xr.cell e1
          have e2 := xr.cell e2
          have e3 := xr.cell e3
          obtain ⟨o1, o2, o3, o4, o5, _⟩ := okOne_all (HCK.out m[k] (List.getElem_mem hlt))
          have heq := HEQ.out
          rw [List.drop_eq_getElem_cons hlt] at heq
          simp only [movesL] at heq
          generalize m[k] = x at *
          by_cases c1 : x.at_ + x.n ≤ n
          · rw [if_pos c1] at heq
            have HE := Lib.hid heq
            clear heq HEQ
            go_wp2
            go_roundg (m.length - (k + 1))
            case measure => omega
            case rel => exact ⟨k + 1, t + ((x.text.size : Int) - x.n), by omega, by omega, by go_num, by go_num, HE.out, by omega, by omega, by repeat' (first | assumption | exact Ext.refl _ | refine Ext.alloc ?_ _ | refine Ext.drew ?_)⟩
          · rw [if_neg c1] at heq
            by_cases c2 : x.at_ ≤ n
            · rw [if_pos c2] at heq
              have HE := Lib.hid heq
              clear heq HEQ
              go_wp2
              go_ret2
              exact ⟨by rw [HR.out, HE.out]; rfl, X2.trans (by repeat' (first | assumption | exact Ext.refl _ | refine Ext.alloc ?_ _ | refine Ext.drew ?_))⟩
            · rw [if_neg c2] at heq
              have HE := Lib.hid heq
              clear heq HEQ
              go_wp2
              go_roundg (m.length - (k + 1))
              case measure => omega
              case rel => exact ⟨k + 1, t, by omega, by omega, by go_num, by go_num, HE.out, by omega, by omega, by repeat' (first | assumption | exact Ext.refl _ | refine Ext.alloc ?_ _ | refine Ext.drew ?_)⟩
        · have : k = m.length := by omega
          subst this
          have heq := HEQ.out
          rw [List.drop_length] at heq
          have HE := Lib.hid heq
          clear heq HEQ
          go_wp2
          go_ret2
          exact ⟨by rw [HR.out, HE.out]; rfl, X2.trans xr⟩
end Go.Proofs.YtgcbkhmaabmdjaaDoor
