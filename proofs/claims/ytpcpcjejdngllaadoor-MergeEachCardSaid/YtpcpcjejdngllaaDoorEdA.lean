/- Edits as data; the walks of edit.in, edit.Check and the reference's Right. -/
import Derived.Test.YtpcpcjejdngllaaDoorOpen
import Derived.Test.YtpcpcjejdngllaaDoorProg
import Derived.BigQuiet
import Derived.Deep.QuietTactic
namespace Go.Proofs.YtpcpcjejdngllaaDoor
open Go.RowKit
set_option linter.unusedVariables false

/-- An edit. -/
structure Ed where
  path : ByteArray
  at_ : Int
  n : Int
  text : ByteArray
deriving DecidableEq
instance : Inhabited Ed := ⟨⟨ByteArray.empty, 0, 0, ByteArray.empty⟩⟩
def edC (e : Ed) : List Value := [.string e.path, .int .i64 e.at_, .int .i64 e.n, .string e.text]
def edOk (e : Ed) : Prop := e.path.size ≤ 9223372036854775807 ∧ (-9223372036854775808 ≤ e.at_ ∧ e.at_ ≤ 9223372036854775807) ∧ (-9223372036854775808 ≤ e.n ∧ e.n ≤ 9223372036854775807) ∧ e.text.size ≤ 9223372036854775807
/-- A slice of edits. -/
structure IsE (w : World) (v : Value) (l : List Ed) : Prop where
  sl : IsSl w v 4 l.length (l.flatMap edC)
  ok : ∀ e ∈ l, edOk e
theorem IsE.ext {w w' : World} {v : Value} {l : List Ed} (h : IsE w v l) (k : Ext w w') : IsE w' v l := ⟨h.sl.ext k, h.ok⟩
theorem edC_len (l : List Ed) : ∀ x ∈ l, (edC x).length = 4 := fun _ _ => rfl
theorem IsE.opened {w : World} {v : Value} {l : List Ed} (h : IsE w v l) :
    ∃ ao cap, v = .slice ao l.length cap ∧ l.length ≤ cap ∧ cap ≤ 9223372036854775807 ∧ (ao = none → cap = 0) ∧
      ∀ i (hi : i < l.length), ∃ b off, ao = some ⟨b, off, none⟩ ∧ w.cell? ⟨b, off + i * 4, none⟩ = some (.string l[i].path) ∧ w.cell? ⟨b, off + i * 4 + 1, none⟩ = some (.int .i64 l[i].at_) ∧
        w.cell? ⟨b, off + i * 4 + 2, none⟩ = some (.int .i64 l[i].n) ∧ w.cell? ⟨b, off + i * 4 + 3, none⟩ = some (.string l[i].text) := by
  obtain ⟨hl, ao, cap, e, h2, h3, h4, h5⟩ := h.sl
  refine ⟨ao, cap, e, h2, h3, h4, fun i hi => ?_⟩
  have g := flat_get edC 4 l (edC_len l) i hi
  obtain ⟨b, off, e0, c0⟩ := h5 (i * 4) (by rw [hl]; omega)
  have hx : ∀ j, j < 4 → w.cell? ⟨b, off + i * 4 + j, none⟩ = (edC l[i])[j]? := by
    intro j hj
    obtain ⟨b1, off1, e1, c1⟩ := h5 (i * 4 + j) (by rw [hl]; omega)
    rw [e0] at e1
    simp only [Option.some.injEq, Addr.mk.injEq] at e1
    obtain ⟨rfl, rfl, _⟩ := e1
    rw [Nat.add_assoc, c1, g j hj]
  exact ⟨b, off, e0, hx 0 (by omega), hx 1 (by omega), hx 2 (by omega), hx 3 (by omega)⟩

def inB (n : Int) : Bool := decide (0 ≤ n ∧ n ≤ 4096)
theorem inB_t {n : Int} (h : 0 ≤ n ∧ n ≤ 4096) : inB n = true := decide_eq_true h
theorem inB_f {n : Int} (h : ¬ (0 ≤ n ∧ n ≤ 4096)) : inB n = false := decide_eq_false h

def okOne (e : Ed) : Bool := !(e.path.toList.isEmpty) && inB e.at_ && inB e.n && decide (e.text.size ≤ 4096)
def okNext (p e : Ed) : Bool := !(Op.bytesLess e.path.toList p.path.toList || (e.path.toList == p.path.toList && decide (e.at_ ≤ p.at_ + p.n)))
/-- May edits be? -/
def chk (l : List Ed) : Bool := (List.range l.length).all fun i => okOne (l.getD i default) && (i == 0 || okNext (l.getD (i - 1) default) (l.getD i default))
theorem chk_of {l : List Ed} (h : ∀ j (hj : j < l.length), okOne l[j] = true ∧ (∀ (h0 : 0 < j), okNext (l[j - 1]'(by omega)) l[j] = true)) : chk l = true := by
  unfold chk
  rw [List.all_eq_true]
  intro i hi
  have hi := List.mem_range.1 hi
  have h1 := h i hi
  rw [List.getD_eq_getElem?_getD, List.getElem?_eq_getElem hi, Option.getD_some, h1.1, Bool.true_and]
  by_cases h0 : i = 0
  · simp [h0]
  · rw [List.getD_eq_getElem?_getD, List.getElem?_eq_getElem (by omega), Option.getD_some, h1.2 (by omega), Bool.or_true]
theorem chk_get {l : List Ed} (h : chk l = true) (j : Nat) (hj : j < l.length) : okOne l[j] = true ∧ (∀ (h0 : 0 < j), okNext (l[j - 1]'(by omega)) l[j] = true) := by
  unfold chk at h
  rw [List.all_eq_true] at h
  have h1 := h j (List.mem_range.2 hj)
  rw [List.getD_eq_getElem?_getD, List.getElem?_eq_getElem hj, Option.getD_some, Bool.and_eq_true] at h1
  refine ⟨h1.1, fun h0 => ?_⟩
  have h2 := h1.2
  rw [List.getD_eq_getElem?_getD, List.getElem?_eq_getElem (by omega), Option.getD_some, Bool.or_eq_true] at h2
  rcases h2 with h2 | h2
  · simp at h2; omega
  · exact h2
theorem chk_one {l : List Ed} {j : Nat} (hj : j < l.length) (h : okOne l[j] = false) : chk l = false := by
  cases hc : chk l with
  | false => rfl
  | true => rw [(chk_get hc j hj).1] at h; exact h
theorem chk_next {l : List Ed} {j : Nat} (hj : j < l.length) (h0 : 0 < j) (h : okNext (l[j - 1]'(by omega)) l[j] = false) : chk l = false := by
  cases hc : chk l with
  | false => rfl
  | true => rw [(chk_get hc j hj).2 h0] at h; exact h
def errE (b : Bool) : Int := if b then 0 else 280

end Go.Proofs.YtpcpcjejdngllaaDoor
