/- How an argument of the type Three reads. -/
import Derived.Test.YtpcpcjejdngllaaDoorMgOp
namespace Go.Proofs.YtpcpcjejdngllaaDoor
open Go.RowKit Go.Deep Go.ChangeShapes Go.WideShapes
set_option linter.unusedVariables false
section
variable {H : Type} {enc : TypeId × Value → H} {w : World}
set_option maxRecDepth 100000 in
theorem opens_three : Opens enc Tryd.prog w 26 (fun cs => ∃ (v0 v1 v2 : Value) (l0 l1 l2 : List Fl), cs = [v0, v1, v2] ∧ IsF w v0 l0 ∧ IsF w v1 l1 ∧ IsF w v2 l2) := by
  refine (opens_struct Tryd.underlying26 3 (by kernel_rfl)
    [fun cs => ∃ (v : Value) (l : List Fl), cs = [v] ∧ IsF w v l, fun cs => ∃ (v : Value) (l : List Fl), cs = [v] ∧ IsF w v l, fun cs => ∃ (v : Value) (l : List Fl), cs = [v] ∧ IsF w v l] rfl ?_).mono ?_
  · intro i f hf ok hok
    match i with
    | 0 => cases hf; cases hok; exact opens_repo
    | 1 => cases hf; cases hok; exact opens_repo
    | 2 => cases hf; cases hok; exact opens_repo
    | i + 3 => cases hok
  · rintro cs ⟨hl, h⟩
    obtain ⟨v0, l0, e0, k0⟩ := h 0 _ rfl _ rfl
    obtain ⟨v1, l1, e1, k1⟩ := h 1 _ rfl _ rfl
    obtain ⟨v2, l2, e2, k2⟩ := h 2 _ rfl _ rfl
    have a3 : cs.drop (2 + 1) = [] := List.drop_eq_nil_of_le (by omega)
    have a2 := cut_at 2 1 a3
    have a1 := cut_at 1 1 a2
    have a0 := cut_at 0 1 a1
    rw [List.drop_zero] at a0
    refine ⟨v0, v1, v2, l0, l1, l2, ?_, k0, k1, k2⟩
    rw [a0]
    exact congr (congrArg _ e0) (congr (congrArg _ e1) (congr (congrArg _ e2) rfl)) |>.trans (by simp)
end
/-- A Three as an argument. -/
def ArgThree (w : World) (v : Value) (fs : List Fl × List Fl × List Fl) : Prop := ∃ u0 u1 u2 : Value, v = .agg #[u0, u1, u2] ∧ IsF w u0 fs.1 ∧ IsF w u1 fs.2.1 ∧ IsF w u2 fs.2.2
set_option maxRecDepth 100000 in
theorem open_three {H : Type} {enc : TypeId × Value → H} {w : World} {v : Value} {d : DataW H} {p : List MemPlace} {r : Reach} {b0 : Nat}
    (hv : Value.okWide Tryd.prog w r b0 26 v) (h : DataW.Trod enc Tryd.prog w 0 (fun _ => true) true 26 v d p) (hL : Light Tryd.prog 26 d) : ∃ fs, ArgThree w v fs := by
  obtain ⟨cs, rfl⟩ := agg_arg Tryd.underlying26 hv
  obtain ⟨u0, u1, u2, l0, l1, l2, e, k0, k1, k2⟩ := arg_of opens_three h hL
  have e : cs.toList = [u0, u1, u2] := by simpa [Value.cells] using e
  exact ⟨(l0, l1, l2), u0, u1, u2, by rw [← Array.toArray_toList (xs := cs), e], k0, k1, k2⟩
end Go.Proofs.YtpcpcjejdngllaaDoor
