/- How arguments of the types api.Repo and []api.Edit read. -/
import Derived.Test.YtgcbkhmaabmdjaaDoorOpn
import Derived.Test.YtgcbkhmaabmdjaaDoorFlL
namespace Go.Proofs.YtgcbkhmaabmdjaaDoor
open Go.RowKit Go.Deep Go.ChangeShapes Go.WideShapes
set_option linter.unusedVariables false

section
variable {H : Type} {enc : TypeId × Value → H} {w : World}
set_option maxRecDepth 100000 in
theorem opens_file : Opens enc Tryd.prog w 42 (fun cs => ∃ f : Fl, cs = flC f ∧ (flC f).length = 2 ∧ flOk f) := by
  refine (opens_struct Tryd.underlying42 2 (by kernel_rfl)
    [fun cs => ∃ s : ByteArray, cs = [.string s] ∧ s.size ≤ 140737488351232, fun cs => ∃ s : ByteArray, cs = [.string s] ∧ s.size ≤ 140737488351232] rfl ?_).mono ?_
  · intro i f hf ok hok
    match i with
    | 0 => cases hf; cases hok; exact opens_string Tryd.underlying9
    | 1 => cases hf; cases hok; exact opens_string Tryd.underlying9
    | i + 2 => cases hok
  · rintro cs ⟨hl, h⟩
    obtain ⟨s, e0, hs⟩ := h 0 _ rfl _ rfl
    obtain ⟨t, e1, ht⟩ := h 1 _ rfl _ rfl
    have a2 : cs.drop (1 + 1) = [] := List.drop_eq_nil_of_le (by omega)
    have a1 := cut_at 1 1 a2
    have a0 := cut_at 0 1 a1
    rw [List.drop_zero] at a0
    refine ⟨⟨s, t⟩, ?_, rfl, ⟨Nat.le_trans hs (by omega), Nat.le_trans ht (by omega)⟩⟩
    rw [a0]
    exact congr (congrArg _ e0) (congr (congrArg _ e1) rfl) |>.trans (by simp [flC])
set_option maxRecDepth 100000 in
theorem opens_edit : Opens enc Tryd.prog w 40 (fun cs => ∃ e : Ed, cs = edC e ∧ (edC e).length = 4 ∧ edOk e) := by
  refine (opens_struct Tryd.underlying40 4 (by kernel_rfl)
    [fun cs => ∃ s : ByteArray, cs = [.string s] ∧ s.size ≤ 140737488351232, fun cs => ∃ z, cs = [.int .i64 z] ∧ -9223372036854775808 ≤ z ∧ z ≤ 9223372036854775807,
     fun cs => ∃ z, cs = [.int .i64 z] ∧ -9223372036854775808 ≤ z ∧ z ≤ 9223372036854775807, fun cs => ∃ s : ByteArray, cs = [.string s] ∧ s.size ≤ 140737488351232] rfl ?_).mono ?_
  · intro i f hf ok hok
    match i with
    | 0 => cases hf; cases hok; exact opens_string Tryd.underlying9
    | 1 => cases hf; cases hok; exact opens_i64 Tryd.underlying3
    | 2 => cases hf; cases hok; exact opens_i64 Tryd.underlying3
    | 3 => cases hf; cases hok; exact opens_string Tryd.underlying9
    | i + 4 => cases hok
  · rintro cs ⟨hl, h⟩
    obtain ⟨s, e0, hs⟩ := h 0 _ rfl _ rfl
    obtain ⟨a, e1, ha⟩ := h 1 _ rfl _ rfl
    obtain ⟨n, e2, hn⟩ := h 2 _ rfl _ rfl
    obtain ⟨t, e3, ht⟩ := h 3 _ rfl _ rfl
    have a4 : cs.drop (3 + 1) = [] := List.drop_eq_nil_of_le (by omega)
    have a3 := cut_at 3 1 a4
    have a2 := cut_at 2 1 a3
    have a1 := cut_at 1 1 a2
    have a0 := cut_at 0 1 a1
    rw [List.drop_zero] at a0
    refine ⟨⟨s, a, n, t⟩, ?_, rfl, ⟨Nat.le_trans hs (by omega), ha, hn, Nat.le_trans ht (by omega)⟩⟩
    rw [a0]
    exact congr (congrArg _ e0) (congr (congrArg _ e1) (congr (congrArg _ e2) (congr (congrArg _ e3) rfl))) |>.trans (by simp [edC])
set_option maxRecDepth 100000 in
theorem opens_edits : Opens enc Tryd.prog w 25 (fun cs => ∃ (v : Value) (xs : List Ed), cs = [v] ∧ IsSl w v 4 xs.length (xs.flatMap edC) ∧ (∀ x ∈ xs, edOk x) ∧ xs.length * 48 ≤ 140737488351232) :=
  opens_slice 4 48 edC edOk Tryd.underlying25 (by kernel_rfl) (by omega) (by kernel_rfl) opens_edit
set_option maxRecDepth 100000 in
theorem opens_repo : Opens enc Tryd.prog w 24 (fun cs => ∃ (v : Value) (l : List Fl), cs = [v] ∧ IsF w v l) := by
  refine (opens_struct Tryd.underlying24 1 (by kernel_rfl)
    [fun cs => ∃ (v : Value) (xs : List Fl), cs = [v] ∧ IsSl w v 2 xs.length (xs.flatMap flC) ∧ (∀ x ∈ xs, flOk x) ∧ xs.length * 32 ≤ 140737488351232] rfl ?_).mono ?_
  · intro i f hf ok hok
    match i with
    | 0 => cases hf; cases hok; exact opens_slice 2 32 flC flOk Tryd.underlying22 (by kernel_rfl) (by omega) (by kernel_rfl) opens_file
    | i + 1 => cases hok
  · rintro cs ⟨hl, h⟩
    obtain ⟨v, l, e0, h1, h2, _⟩ := h 0 _ rfl _ rfl
    have a1 : cs.drop (0 + 1) = [] := List.drop_eq_nil_of_le (by omega)
    have a0 := cut_at 0 1 a1
    rw [List.drop_zero] at a0
    refine ⟨v, l, ?_, ⟨h1, h2⟩⟩
    rw [a0]
    exact congr (congrArg _ e0) rfl |>.trans (by simp)
end
/-- An api.Repo as an argument. -/
def ArgRepo (w : World) (v : Value) (fs : List Fl) : Prop := ∃ u : Value, v = .agg #[u] ∧ IsF w u fs
set_option maxRecDepth 100000 in
theorem open_repo {H : Type} {enc : TypeId × Value → H} {w : World} {v : Value} {d : DataW H} {p : List MemPlace} {r : Reach} {b0 : Nat}
    (hv : Value.okWide Tryd.prog w r b0 24 v) (h : DataW.Trod enc Tryd.prog w 0 (fun _ => true) true 24 v d p) (hL : Light Tryd.prog 24 d) : ∃ fs, ArgRepo w v fs := by
  obtain ⟨cs, rfl⟩ := agg_arg Tryd.underlying24 hv
  obtain ⟨u, l, e, k⟩ := arg_of opens_repo h hL
  have e : cs.toList = [u] := by simpa [Value.cells] using e
  exact ⟨l, u, by rw [← Array.toArray_toList (xs := cs), e], k⟩
set_option maxRecDepth 1000000 in
theorem open_edits {H : Type} {enc : TypeId × Value → H} {w : World} {v : Value} {d : DataW H} {p : List MemPlace} {r : Reach} {b0 : Nat}
    (hv : Value.okWide Tryd.prog w r b0 25 v) (h : DataW.Trod enc Tryd.prog w 0 (fun _ => true) true 25 v d p) (hL : Light Tryd.prog 25 d) : ∃ l, IsE w v l := by
  obtain ⟨a, len, cap, rfl⟩ := okWide_slice Tryd.underlying25 hv
  obtain ⟨u, l, e, h1, h2, _⟩ := arg_of opens_edits h hL
  have e : (.slice a len cap : Value) = u := by simpa [Value.cells] using e
  subst e
  exact ⟨l, h1, h2⟩
end Go.Proofs.YtgcbkhmaabmdjaaDoor
