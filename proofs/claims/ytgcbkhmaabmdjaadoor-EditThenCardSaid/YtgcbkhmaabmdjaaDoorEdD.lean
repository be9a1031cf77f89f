/- The walks of slices.IndexFunc and ContainsFunc at edits, edit.of, edit.fits. -/
import Derived.Test.YtgcbkhmaabmdjaaDoorEdA
namespace Go.Proofs.YtgcbkhmaabmdjaaDoor
open Go.RowKit
set_option linter.unusedVariables false

theorem flat_drop (l : List Ed) (a : Nat) : (l.drop a).flatMap edC = (l.flatMap edC).drop (a * 4) := by
  induction a generalizing l with
  | zero => simp
  | succ a ih =>
    cases l with
    | nil => simp
    | cons x l =>
      rw [List.drop_succ_cons, ih, List.flatMap_cons, show (a + 1) * 4 = a * 4 + 1 + 1 + 1 + 1 from by omega]
      simp [edC]
theorem flat_take (l : List Ed) (a : Nat) : (l.take a).flatMap edC = (l.flatMap edC).take (a * 4) := by
  induction a generalizing l with
  | zero => simp
  | succ a ih =>
    cases l with
    | nil => simp
    | cons x l =>
      rw [List.take_succ_cons, List.flatMap_cons, ih, List.flatMap_cons, show (a + 1) * 4 = a * 4 + 1 + 1 + 1 + 1 from by omega]
      simp [edC]
/-- A part of a slice of edits: the value is what the walk writes for 's[a:b:m]' (or 's[a:b]', m the capacity). -/
theorem IsE.cut {w : World} {ao : Option Addr} {n cap : Nat} {l : List Ed} (h : IsE w (.slice ao n cap) l) (a b m : Nat) (hab : a ≤ b) (hb : b ≤ n) (hbm : b ≤ m) (hm : m ≤ cap) :
    IsE w (.slice (if m = a then ao else ao.map (·.add (a * 4))) (b - a) (m - a)) ((l.drop a).take (b - a)) := by
  obtain ⟨⟨hlen, ao', cap', e, h2, h3, h4, h5⟩, hok⟩ := h
  simp only [Value.slice.injEq] at e
  obtain ⟨rfl, rfl, rfl⟩ := e
  have hl : ((l.drop a).take (b - a)).length = b - a := by rw [List.length_take, List.length_drop]; omega
  refine ⟨⟨flat_len edC 4 _ (edC_len _), _, _, by rw [hl], by omega, by omega, ?_, ?_⟩, fun e he => hok e (List.mem_of_mem_drop (List.mem_of_mem_take he))⟩
  · intro h0
    by_cases hc : m = a
    · omega
    · rw [if_neg hc] at h0
      have := h4 (by simpa using h0)
      omega
  · intro i hi
    rw [flat_len edC 4 _ (edC_len _), hl] at hi
    obtain ⟨p, off, e1, e2⟩ := h5 (a * 4 + i) (by rw [flat_len edC 4 _ (edC_len _)]; omega)
    refine ⟨p, off + a * 4, ?_, ?_⟩
    · rw [if_neg (by omega), e1]
      simp [Addr.add_lit]
    · rw [Nat.add_assoc, e2, flat_take, flat_drop, List.getElem?_take, if_pos hi, List.getElem?_drop]

/-- What slices.IndexFunc answers: the first place that the predicate holds at; -1: none. -/
def Found (l : List Ed) (p : Ed → Bool) (r : Int) : Prop := (∃ i, ∃ hi : i < l.length, r = (i : Int) ∧ p l[i] = true ∧ ∀ j (hj : j < l.length), j < i → p l[j] = false) ∨ (r = -1 ∧ ∀ j (hj : j < l.length), p l[j] = false)

set_option maxHeartbeats 4000000 in
set_option maxRecDepth 100000 in
theorem indexFuncOf (w : World) (v : Value) (l : List Ed) (h : IsE w v l) (q : Addr) (cv : Value) (hq : w.cell? q = some cv) (p : Ed → Bool)
    (hc : ∀ (W : World) (x : Ed), W.cell? q = some cv → edOk x → Calls Tryd.prog 50 #[.agg #[.string x.path, .int .i64 x.at_, .int .i64 x.n, .string x.text], .pointer (some q)] W fun e w' => e = .returned (.bool (p x)) ∧ Ext W w') :
    Calls Tryd.prog 49 #[v, .func (Fn.func 50) #[] #[.pointer (some q)]] w fun e w' => ∃ r, e = .returned (.int .i64 r) ∧ Found l p r ∧ Ext w w' := by
  obtain ⟨ao, cap, rfl, b1, m1, z1, g1⟩ := h.opened
  have G1 := Lib.hid g1
  have HO := Lib.hid h.ok
  have HC := Lib.hid hc
  clear g1 z1 h hc
  go_enter Tryd.func49, Tryd.ntmps49
  go_wp2
  go_loopg [8] l.length (fun g s8 wr => ∃ k : Nat, k ≤ l.length ∧ l.length - k ≤ g ∧ s8 = .int .i64 k ∧ (∀ j (hj : j < l.length), j < k → p l[j] = false) ∧ Ext w wr)
  case atStart => exact ⟨0, Nat.zero_le _, by omega, rfl, fun j _ hj => absurd hj (Nat.not_lt_zero _), Ext.refl _⟩
  case round =>
    obtain ⟨k, hk, hg, rfl, hall, xr⟩ := hrel
    have HALL := Lib.hid hall
    clear hall
    by_cases hlt : k < l.length
    · obtain ⟨pb, o, rfl, e0, e1, e2, e3⟩ := G1.out k hlt
      have e0 := xr.cell e0
      have e1 := xr.cell e1
      have e2 := xr.cell e2
      have e3 := xr.cell e3
      have hqr := xr.cell hq
      have hok := HO.out l[k] (List.getElem_mem hlt)
      generalize hx : l[k] = x at *
      have HX := Lib.hid hx
      clear hx
      go_wp2_with fail
      refine Calls.mono (HC.out _ x hqr hok) ?_
      rintro e w2 ⟨rfl, x2⟩
      cases hp : p x
      · have HP := Lib.hid hp
        clear hp
        go_wp2
        go_roundg (l.length - (k + 1))
        case measure => omega
        case rel =>
          refine ⟨k + 1, by omega, by omega, by go_num, fun j hj hj1 => ?_, xr.trans x2⟩
          by_cases e : j = k
          · subst e; rw [HX.out]; exact HP.out
          · exact HALL.out j hj (by omega)
      · have HP := Lib.hid hp
        clear hp
        go_wp2
        go_ret
        exact ⟨_, rfl, .inl ⟨k, hlt, rfl, by rw [HX.out]; exact HP.out, fun j hj hj1 => HALL.out j hj hj1⟩, xr.trans x2⟩
    · have : k = l.length := by omega
      subst this
      go_wp2
      go_ret
      exact ⟨_, rfl, .inr ⟨rfl, fun j hj => HALL.out j hj hj⟩, xr⟩

set_option maxHeartbeats 4000000 in
set_option maxRecDepth 100000 in
theorem indexFuncFits (w : World) (v : Value) (l : List Ed) (h : IsE w v l) (q : Addr) (cv : Value) (hq : w.cell? q = some cv) (p : Ed → Bool)
    (hc : ∀ (W : World) (x : Ed), W.cell? q = some cv → edOk x → Calls Tryd.prog 52 #[.agg #[.string x.path, .int .i64 x.at_, .int .i64 x.n, .string x.text], .pointer (some q)] W fun e w' => e = .returned (.bool (p x)) ∧ Ext W w') :
    Calls Tryd.prog 49 #[v, .func (Fn.func 52) #[] #[.pointer (some q)]] w fun e w' => ∃ r, e = .returned (.int .i64 r) ∧ Found l p r ∧ Ext w w' := by
  obtain ⟨ao, cap, rfl, b1, m1, z1, g1⟩ := h.opened
  have G1 := Lib.hid g1
  have HO := Lib.hid h.ok
  have HC := Lib.hid hc
  clear g1 z1 h hc
  go_enter Tryd.func49, Tryd.ntmps49
  go_wp2
  go_loopg [8] l.length (fun g s8 wr => ∃ k : Nat, k ≤ l.length ∧ l.length - k ≤ g ∧ s8 = .int .i64 k ∧ (∀ j (hj : j < l.length), j < k → p l[j] = false) ∧ Ext w wr)
  case atStart => exact ⟨0, Nat.zero_le _, by omega, rfl, fun j _ hj => absurd hj (Nat.not_lt_zero _), Ext.refl _⟩
  case round =>
    obtain ⟨k, hk, hg, rfl, hall, xr⟩ := hrel
    have HALL := Lib.hid hall
    clear hall
    by_cases hlt : k < l.length
    · obtain ⟨pb, o, rfl, e0, e1, e2, e3⟩ := G1.out k hlt
      have e0 := xr.cell e0
      have e1 := xr.cell e1
      have e2 := xr.cell e2
      have e3 := xr.cell e3
      have hqr := xr.cell hq
      have hok := HO.out l[k] (List.getElem_mem hlt)
      generalize hx : l[k] = x at *
      have HX := Lib.hid hx
      clear hx
      go_wp2_with fail
      refine Calls.mono (HC.out _ x hqr hok) ?_
      rintro e w2 ⟨rfl, x2⟩
      cases hp : p x
      · have HP := Lib.hid hp
        clear hp
        go_wp2
        go_roundg (l.length - (k + 1))
        case measure => omega
        case rel =>
          refine ⟨k + 1, by omega, by omega, by go_num, fun j hj hj1 => ?_, xr.trans x2⟩
          by_cases e : j = k
          · subst e; rw [HX.out]; exact HP.out
          · exact HALL.out j hj (by omega)
      · have HP := Lib.hid hp
        clear hp
        go_wp2
        go_ret
        exact ⟨_, rfl, .inl ⟨k, hlt, rfl, by rw [HX.out]; exact HP.out, fun j hj hj1 => HALL.out j hj hj1⟩, xr.trans x2⟩
    · have : k = l.length := by omega
      subst this
      go_wp2
      go_ret
      exact ⟨_, rfl, .inr ⟨rfl, fun j hj => HALL.out j hj hj⟩, xr⟩

set_option maxHeartbeats 4000000 in
theorem ofClosure (w : World) (x : Ed) (q : Addr) (s : ByteArray) (h : w.cell? q = some (.string s)) :
    Calls Tryd.prog 50 #[.agg #[.string x.path, .int .i64 x.at_, .int .i64 x.n, .string x.text], .pointer (some q)] w fun e w' => e = .returned (.bool (x.path.toList == s.toList)) ∧ Ext w w' := by
  have hq := World.block_lt_of_cell? _ _ h
  go_enter Tryd.func50, Tryd.ntmps50
  go_wp2
  go_ret
  exact ⟨rfl, (Ext.refl _).alloc _⟩

set_option maxHeartbeats 4000000 in
theorem fitsClosure (w : World) (x : Ed) (q : Addr) (n : Int) (h : w.cell? q = some (.int .i64 n)) (hx : edOk x) :
    Calls Tryd.prog 52 #[.agg #[.string x.path, .int .i64 x.at_, .int .i64 x.n, .string x.text], .pointer (some q)] w fun e w' => e = .returned (.bool (decide (n < wrap64 (x.at_ + x.n)))) ∧ Ext w w' := by
  have hq := World.block_lt_of_cell? _ _ h
  go_enter Tryd.func52, Tryd.ntmps52
  go_wp2
  go_ret
  exact ⟨rfl, (Ext.refl _).alloc _⟩
end Go.Proofs.YtgcbkhmaabmdjaaDoor
