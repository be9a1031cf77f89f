/- Edits as data; the walks of edit.in, edit.Check and the reference's Right. -/
import Derived.Test.YtgcbkhmaabmdjaaDoorOpen
import Derived.Test.YtgcbkhmaabmdjaaDoorProg
import Derived.BigQuiet
import Derived.Deep.QuietTactic
namespace Go.Proofs.YtgcbkhmaabmdjaaDoor
open Go.RowKit
set_option linter.unusedVariables false

/-- An edit. -/
structure Ed where
  path : ByteArray
  at_ : Int
  n : Int
  text : ByteArray
deriving DecidableEq
instance : Inhabited Ed := ⟨⟨ByteArray.empty, 0, 0, ByteArray.empty⟩⟩
def edC (e : Ed) : List Value := [.string e.path, .int .i64 e.at_, .int .i64 e.n, .string e.text]
def edOk (e : Ed) : Prop := e.path.size ≤ 9223372036854775807 ∧ (-9223372036854775808 ≤ e.at_ ∧ e.at_ ≤ 9223372036854775807) ∧ (-9223372036854775808 ≤ e.n ∧ e.n ≤ 9223372036854775807) ∧ e.text.size ≤ 9223372036854775807
/-- A slice of edits. -/
structure IsE (w : World) (v : Value) (l : List Ed) : Prop where
  sl : IsSl w v 4 l.length (l.flatMap edC)
  ok : ∀ e ∈ l, edOk e
theorem IsE.ext {w w' : World} {v : Value} {l : List Ed} (h : IsE w v l) (k : Ext w w') : IsE w' v l := ⟨h.sl.ext k, h.ok⟩
theorem edC_len (l : List Ed) : ∀ x ∈ l, (edC x).length = 4 := fun _ _ => rfl
theorem IsE.opened {w : World} {v : Value} {l : List Ed} (h : IsE w v l) :
    ∃ ao cap, v = .slice ao l.length cap ∧ l.length ≤ cap ∧ cap ≤ 9223372036854775807 ∧ (ao = none → cap = 0) ∧
      ∀ i (hi : i < l.length), ∃ b off, ao = some ⟨b, off, none⟩ ∧ w.cell? ⟨b, off + i * 4, none⟩ = some (.string l[i].path) ∧ w.cell? ⟨b, off + i * 4 + 1, none⟩ = some (.int .i64 l[i].at_) ∧
        w.cell? ⟨b, off + i * 4 + 2, none⟩ = some (.int .i64 l[i].n) ∧ w.cell? ⟨b, off + i * 4 + 3, none⟩ = some (.string l[i].text) := by
  obtain ⟨hl, ao, cap, e, h2, h3, h4, h5⟩ := h.sl
  refine ⟨ao, cap, e, h2, h3, h4, fun i hi => ?_⟩
  have g := flat_get edC 4 l (edC_len l) i hi
  obtain ⟨b, off, e0, c0⟩ := h5 (i * 4) (by rw [hl]; omega)
  have hx : ∀ j, j < 4 → w.cell? ⟨b, off + i * 4 + j, none⟩ = (edC l[i])[j]? := by
    intro j hj
    obtain ⟨b1, off1, e1, c1⟩ := h5 (i * 4 + j) (by rw [hl]; omega)
    rw [e0] at e1
    simp only [Option.some.injEq, Addr.mk.injEq] at e1
    obtain ⟨rfl, rfl, _⟩ := e1
    rw [Nat.add_assoc, c1, g j hj]
  exact ⟨b, off, e0, hx 0 (by omega), hx 1 (by omega), hx 2 (by omega), hx 3 (by omega)⟩

def inB (n : Int) : Bool := decide (0 ≤ n ∧ n ≤ 4096)
theorem inB_t {n : Int} (h : 0 ≤ n ∧ n ≤ 4096) : inB n = true := decide_eq_true h
theorem inB_f {n : Int} (h : ¬ (0 ≤ n ∧ n ≤ 4096)) : inB n = false := decide_eq_false h

theorem editIn (w : World) (n : Int) (b : Bool) (hb : inB n = b) : Calls Tryd.prog 38 #[.int .i64 n] w fun e w' => e = .returned (.bool b) ∧ w = w' := by
  subst hb
  unfold inB
  by_cases h0 : 0 ≤ n
  · by_cases h1 : n ≤ 4096
    all_goals
      go_enter Tryd.func38, Tryd.ntmps38
      go_wp2
      go_ret
      exact ⟨ret_bool (by simp [*]), rfl⟩
  · go_enter Tryd.func38, Tryd.ntmps38
    go_wp2
    go_ret
    exact ⟨ret_bool (by simp; omega), rfl⟩

def okOne (e : Ed) : Bool := !(e.path.toList.isEmpty) && inB e.at_ && inB e.n && decide (e.text.size ≤ 4096)
def okNext (p e : Ed) : Bool := !(Op.bytesLess e.path.toList p.path.toList || (e.path.toList == p.path.toList && decide (e.at_ ≤ p.at_ + p.n)))
/-- May edits be? -/
def chk (l : List Ed) : Bool := (List.range l.length).all fun i => okOne (l.getD i default) && (i == 0 || okNext (l.getD (i - 1) default) (l.getD i default))
theorem chk_of {l : List Ed} (h : ∀ j (hj : j < l.length), okOne l[j] = true ∧ (∀ (h0 : 0 < j), okNext (l[j - 1]'(by omega)) l[j] = true)) : chk l = true := by
  unfold chk
  rw [List.all_eq_true]
  intro i hi
  have hi := List.mem_range.1 hi
  have h1 := h i hi
  rw [List.getD_eq_getElem?_getD, List.getElem?_eq_getElem hi, Option.getD_some, h1.1, Bool.true_and]
  by_cases h0 : i = 0
  · simp [h0]
  · rw [List.getD_eq_getElem?_getD, List.getElem?_eq_getElem (by omega), Option.getD_some, h1.2 (by omega), Bool.or_true]
theorem chk_get {l : List Ed} (h : chk l = true) (j : Nat) (hj : j < l.length) : okOne l[j] = true ∧ (∀ (h0 : 0 < j), okNext (l[j - 1]'(by omega)) l[j] = true) := by
  unfold chk at h
  rw [List.all_eq_true] at h
  have h1 := h j (List.mem_range.2 hj)
  rw [List.getD_eq_getElem?_getD, List.getElem?_eq_getElem hj, Option.getD_some, Bool.and_eq_true] at h1
  refine ⟨h1.1, fun h0 => ?_⟩
  have h2 := h1.2
  rw [List.getD_eq_getElem?_getD, List.getElem?_eq_getElem (by omega), Option.getD_some, Bool.or_eq_true] at h2
  rcases h2 with h2 | h2
  · simp at h2; omega
  · exact h2
theorem chk_one {l : List Ed} {j : Nat} (hj : j < l.length) (h : okOne l[j] = false) : chk l = false := by
  cases hc : chk l with
  | false => rfl
  | true => rw [(chk_get hc j hj).1] at h; exact h
theorem chk_next {l : List Ed} {j : Nat} (hj : j < l.length) (h0 : 0 < j) (h : okNext (l[j - 1]'(by omega)) l[j] = false) : chk l = false := by
  cases hc : chk l with
  | false => rfl
  | true => rw [(chk_get hc j hj).2 h0] at h; exact h
def errE (b : Bool) : Int := if b then 0 else 280

set_option maxHeartbeats 4000000 in
set_option maxRecDepth 100000 in
theorem editCheck (w : World) (v : Value) (l : List Ed) (h : IsE w v l) :
    Calls Tryd.prog 19 #[v] w fun e w' => e = .returned (.int .i64 (errE (chk l))) ∧ Ext w w' := by
  obtain ⟨ao, cap, rfl, b1, m1, z1, g1⟩ := h.opened
  have G1 := Lib.hid g1
  have HO := Lib.hid h.ok
  clear g1 z1 h
  go_enter Tryd.func19, Tryd.ntmps19
  go_wp2
  go_loopg [8] l.length (fun g s8 wr => ∃ k : Nat, k ≤ l.length ∧ l.length - k ≤ g ∧ s8 = .int .i64 k ∧ (∀ j (hj : j < l.length), j < k → okOne l[j] = true ∧ (∀ (h0 : 0 < j), okNext (l[j - 1]'(by omega)) l[j] = true)) ∧ Ext w wr)
  case atStart => exact ⟨0, Nat.zero_le _, by omega, rfl, fun j _ hj => absurd hj (Nat.not_lt_zero _), Ext.refl _⟩
  case round =>
    obtain ⟨k, hk, hg, rfl, hall, xr⟩ := hrel
    have HALL := Lib.hid hall
    clear hall
    by_cases hlt : k < l.length
    · obtain ⟨p, o, rfl, e0, e1, e2, e3⟩ := G1.out k hlt
      have e0 := xr.cell e0
      have e1 := xr.cell e1
      have e2 := xr.cell e2
      have e3 := xr.cell e3
      obtain ⟨o1, ⟨o2, o3⟩, ⟨o4, o5⟩, o6⟩ := HO.out l[k] (List.getElem_mem hlt)
      have hcase := fun (h : okOne l[k] = false) => chk_one hlt h
      have HC := Lib.hid hcase
      clear hcase
      by_cases c0 : l[k].path.toList.isEmpty = true
      · have HB := Lib.hid (HC.out (by simp [okOne, *]))
        clear HC
        generalize l[k] = x at *
        go_wp2
        go_ret
        exact ⟨ret_int (by rw [HB.out]; rfl), by repeat' (first | assumption | exact Ext.refl _ | refine Ext.alloc ?_ _ | refine Ext.drew ?_)⟩
      have c0 : l[k].path.toList.isEmpty = false := by simpa using c0
      cases c1 : inB l[k].at_
      · have HB := Lib.hid (HC.out (by simp [okOne, *]))
        clear HC
        generalize l[k] = x at *
        go_wp2_with fail
        refine Calls.mono (editIn _ _ _ c1) ?_
        rintro e w2 ⟨rfl, rfl⟩
        go_wp2
        go_ret
        exact ⟨ret_int (by rw [HB.out]; rfl), by repeat' (first | assumption | exact Ext.refl _ | refine Ext.alloc ?_ _ | refine Ext.drew ?_)⟩
      cases c2 : inB l[k].n
      · have HB := Lib.hid (HC.out (by simp [okOne, *]))
        clear HC
        generalize l[k] = x at *
        go_wp2_with fail
        refine Calls.mono (editIn _ _ _ c1) ?_
        rintro e w2 ⟨rfl, rfl⟩
        go_wp2_with fail
        refine Calls.mono (editIn _ _ _ c2) ?_
        rintro e w2 ⟨rfl, rfl⟩
        go_wp2
        go_ret
        exact ⟨ret_int (by rw [HB.out]; rfl), by repeat' (first | assumption | exact Ext.refl _ | refine Ext.alloc ?_ _ | refine Ext.drew ?_)⟩
      by_cases c3 : 4096 < l[k].text.size
      · have HB := Lib.hid (HC.out (by simp [okOne, *]))
        clear HC
        generalize l[k] = x at *
        go_wp2_with fail
        refine Calls.mono (editIn _ _ _ c1) ?_
        rintro e w2 ⟨rfl, rfl⟩
        go_wp2_with fail
        refine Calls.mono (editIn _ _ _ c2) ?_
        rintro e w2 ⟨rfl, rfl⟩
        go_wp2
        go_ret
        exact ⟨ret_int (by rw [HB.out]; rfl), by repeat' (first | assumption | exact Ext.refl _ | refine Ext.alloc ?_ _ | refine Ext.drew ?_)⟩
      have hone : okOne l[k] = true := by simp [okOne, c0, c1, c2]; omega
      have d3 : ¬ (4096 : Int) < (l[k].text.size : Int) := by omega
      by_cases hk0 : k = 0
      · subst hk0
        have HONE := Lib.hid hone
        clear HC hone
        simp only [Nat.zero_mul, Nat.add_zero] at e0 e1 e2 e3
        generalize hx : l[0] = x at *
        have HXX := Lib.hid hx
        clear hx
        go_wp2_with fail
        refine Calls.mono (editIn _ _ _ c1) ?_
        rintro e w2 ⟨rfl, rfl⟩
        go_wp2_with fail
        refine Calls.mono (editIn _ _ _ c2) ?_
        rintro e w2 ⟨rfl, rfl⟩
        go_wp2
        go_roundg (l.length - 1)
        case measure => omega
        case rel =>
          refine ⟨1, by omega, by omega, rfl, fun j hj hj1 => ?_, by repeat' (first | assumption | exact Ext.refl _ | refine Ext.alloc ?_ _ | refine Ext.drew ?_)⟩
          obtain rfl : j = 0 := by omega
          exact ⟨by rw [HXX.out]; exact HONE.out, fun h0 => absurd h0 (by omega)⟩
      · obtain ⟨m, rfl⟩ : ∃ m, k = m + 1 := ⟨k - 1, by omega⟩
        have hprev := (HALL.out m (by omega) (by omega)).1
        obtain ⟨p', o', e', f0, f1, f2, f3⟩ := G1.out m (by omega)
        simp only [Option.some.injEq, Addr.mk.injEq] at e'
        obtain ⟨rfl, rfl, _⟩ := e'
        have f0 := xr.cell f0
        have f1 := xr.cell f1
        have f2 := xr.cell f2
        have f3 := xr.cell f3
        have hp : p < wr.heap.size := World.block_lt_of_cell? _ _ f0
        have hbadN := fun (h : okNext l[m] l[m + 1] = false) => chk_next (l := l) (j := m + 1) hlt (by omega) h
        have hnext : okNext l[m] l[m + 1] = true → ∀ j (hj : j < l.length), j < m + 1 + 1 → okOne l[j] = true ∧ (∀ (h0 : 0 < j), okNext (l[j - 1]'(by omega)) l[j] = true) := by
          intro hn j hj hj1
          by_cases e : j = m + 1
          · subst e
            exact ⟨hone, fun _ => hn⟩
          · exact HALL.out j hj (by omega)
        have HBN := Lib.hid hbadN
        have HN := Lib.hid hnext
        have hpb : (0 ≤ l[m].at_ ∧ l[m].at_ ≤ 4096) ∧ (0 ≤ l[m].n ∧ l[m].n ≤ 4096) := by
          simp only [okOne, Bool.and_eq_true, inB, decide_eq_true_eq] at hprev
          exact ⟨hprev.1.1.2, hprev.1.2⟩
        obtain ⟨⟨p1, p2⟩, p3, p4⟩ := hpb
        clear hbadN hnext HC hone hprev HALL hk0
        generalize l[m] = y at *
        generalize l[m + 1] = x at *
        cases d0 : Op.bytesLess x.path.toList y.path.toList
        · cases d1 : (x.path.toList == y.path.toList)
          · have HOKN := Lib.hid (HN.out (by simp [okNext, d0, d1]))
            clear HN HBN
            go_wp2_with fail
            refine Calls.mono (editIn _ _ _ c1) ?_
            rintro e w2 ⟨rfl, rfl⟩
            go_wp2_with fail
            refine Calls.mono (editIn _ _ _ c2) ?_
            rintro e w2 ⟨rfl, rfl⟩
            go_wp2
            go_roundg (l.length - (m + 1 + 1))
            case measure => omega
            case rel => exact ⟨m + 1 + 1, by omega, by omega, by go_num, HOKN.out, by repeat' (first | assumption | exact Ext.refl _ | refine Ext.alloc ?_ _ | refine Ext.drew ?_)⟩
          · by_cases d2 : x.at_ ≤ y.at_ + y.n
            · have HB := Lib.hid (HBN.out (by simp [okNext, d0, d1, d2]))
              clear HN HBN
              go_wp2_with fail
              refine Calls.mono (editIn _ _ _ c1) ?_
              rintro e w2 ⟨rfl, rfl⟩
              go_wp2_with fail
              refine Calls.mono (editIn _ _ _ c2) ?_
              rintro e w2 ⟨rfl, rfl⟩
              go_wp2
              go_ret
              exact ⟨ret_int (by rw [HB.out]; rfl), by repeat' (first | assumption | exact Ext.refl _ | refine Ext.alloc ?_ _ | refine Ext.drew ?_)⟩
            · have HOKN := Lib.hid (HN.out (by simp [okNext, d0, d1]; omega))
              clear HN HBN
              go_wp2_with fail
              refine Calls.mono (editIn _ _ _ c1) ?_
              rintro e w2 ⟨rfl, rfl⟩
              go_wp2_with fail
              refine Calls.mono (editIn _ _ _ c2) ?_
              rintro e w2 ⟨rfl, rfl⟩
              go_wp2
              go_roundg (l.length - (m + 1 + 1))
              case measure => omega
              case rel => exact ⟨m + 1 + 1, by omega, by omega, by go_num, HOKN.out, by repeat' (first | assumption | exact Ext.refl _ | refine Ext.alloc ?_ _ | refine Ext.drew ?_)⟩
        · have HB := Lib.hid (HBN.out (by simp [okNext, d0]))
          clear HN HBN
          go_wp2_with fail
          refine Calls.mono (editIn _ _ _ c1) ?_
          rintro e w2 ⟨rfl, rfl⟩
          go_wp2_with fail
          refine Calls.mono (editIn _ _ _ c2) ?_
          rintro e w2 ⟨rfl, rfl⟩
          go_wp2
          go_ret
          exact ⟨ret_int (by rw [HB.out]; rfl), by repeat' (first | assumption | exact Ext.refl _ | refine Ext.alloc ?_ _ | refine Ext.drew ?_)⟩
    · have : k = l.length := by omega
      subst this
      have hck : chk l = true := chk_of (fun j hj => HALL.out j hj hj)
      have HCK := Lib.hid hck
      clear hck
      go_wp2
      go_ret
      exact ⟨ret_int (by rw [HCK.out]; rfl), xr⟩
end Go.Proofs.YtgcbkhmaabmdjaaDoor
