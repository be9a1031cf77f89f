/- How an argument of type api.Object reads. -/
import Derived.Test.YtcdlmappcbbacaaDoorOpn
import Derived.Test.YtcdlmappcbbacaaDoorObB
namespace Go.Proofs.YtcdlmappcbbacaaDoor
open Go.RowKit Go.Deep Go.ChangeShapes Go.WideShapes
set_option linter.unusedVariables false

section
variable {H : Type} {enc : TypeId × Value → H} {w : World}
theorem opens_id : Opens enc Tryd.prog w 25 (fun cs => ∃ l : List UInt8, cs = l.map bc ∧ l.length = 32) :=
  opens_array1 32 bc Tryd.underlying25 (by kernel_rfl) (by kernel_rfl) ((opens_u8 Tryd.underlying5).mono fun cs ⟨c, e⟩ => ⟨c, e⟩)
theorem opens_entry : Opens enc Tryd.prog w 49 (fun cs => ∃ e : EntL, cs = entC e ∧ (entC e).length = 34 ∧ EntOk e) := by
  refine (opens_struct Tryd.underlying49 34 (by kernel_rfl)
    [fun cs => ∃ s : ByteArray, cs = [.string s] ∧ s.size ≤ 140737488351232, fun cs => ∃ b, cs = [.bool b], fun cs => ∃ l : List UInt8, cs = l.map bc ∧ l.length = 32] rfl ?_).mono ?_
  · intro i f hf ok hok
    match i with
    | 0 => cases hf; cases hok; exact opens_string Tryd.underlying9
    | 1 => cases hf; cases hok; exact opens_bool Tryd.underlying4
    | 2 => cases hf; cases hok; exact opens_id
    | i + 3 => cases hok
  · rintro cs ⟨hl, h⟩
    obtain ⟨s, e0, hs⟩ := h 0 _ rfl _ rfl
    obtain ⟨b, e1⟩ := h 1 _ rfl _ rfl
    obtain ⟨l, e2, h2⟩ := h 2 _ rfl _ rfl
    have k0 : cs = entC ⟨s, b, l⟩ := by
      have a3 : cs.drop (2 + 32) = [] := List.drop_eq_nil_of_le (by omega)
      have a2 := cut_at 2 32 a3
      have a1 := cut_at 1 1 a2
      have a0 := cut_at 0 1 a1
      rw [List.drop_zero] at a0
      rw [a0]
      unfold entC
      exact congr (congrArg _ e0) (congr (congrArg _ e1) (congr (congrArg _ e2) rfl)) |>.trans (by simp)
    have ho : EntOk ⟨s, b, l⟩ := ⟨h2, Nat.le_trans hs (by omega)⟩
    exact ⟨⟨s, b, l⟩, k0, entC_len ho, ho⟩
theorem opens_obj : Opens enc Tryd.prog w 29 (fun cs => ∃ (vb ve vp : Value) (o : ObjL), IsObj w cs.toArray vb ve vp o) := by
  refine (opens_struct Tryd.underlying29 38 (by kernel_rfl)
    [fun cs => ∃ z, cs = [.int .i64 z] ∧ -9223372036854775808 ≤ z ∧ z ≤ 9223372036854775807,
     fun cs => ∃ (v : Value) (l : List UInt8), cs = [v] ∧ IsB w v l ∧ l.length ≤ 140737488351232,
     fun cs => ∃ (v : Value) (xs : List EntL), cs = [v] ∧ IsSl w v 34 xs.length (xs.flatMap entC) ∧ (∀ x ∈ xs, EntOk x) ∧ xs.length * 56 ≤ 140737488351232,
     fun cs => ∃ l : List UInt8, cs = l.map bc ∧ l.length = 32,
     fun cs => ∃ (v : Value) (xs : List (List UInt8)), cs = [v] ∧ IsSl w v 32 xs.length (xs.flatMap idC) ∧ (∀ x ∈ xs, x.length = 32) ∧ xs.length * 32 ≤ 140737488351232,
     fun cs => ∃ z : Nat, cs = [.int .u32 (z : Int)] ∧ z < 4294967296,
     fun cs => ∃ s : ByteArray, cs = [.string s] ∧ s.size ≤ 140737488351232] rfl ?_).mono ?_
  · intro i f hf ok hok
    match i with
    | 0 => cases hf; cases hok; exact opens_i64 Tryd.underlying3
    | 1 => cases hf; cases hok; exact opens_bytes Tryd.underlying22 Tryd.underlying5 (by kernel_rfl) (by kernel_rfl)
    | 2 => cases hf; cases hok; exact opens_slice 34 56 entC EntOk Tryd.underlying23 (by kernel_rfl) (by omega) (by kernel_rfl) opens_entry
    | 3 => cases hf; cases hok; exact opens_id
    | 4 => cases hf; cases hok; exact opens_slice 32 32 idC (fun x => x.length = 32) Tryd.underlying26 (by kernel_rfl) (by omega) (by kernel_rfl) (opens_id.mono fun cs ⟨l, e, h⟩ => ⟨l, e, by simp [idC, h], h⟩)
    | 5 => cases hf; cases hok; exact opens_u32 Tryd.underlying27
    | 6 => cases hf; cases hok; exact opens_string Tryd.underlying9
    | i + 7 => cases hok
  · rintro cs ⟨hl, h⟩
    obtain ⟨k, e0, hk⟩ := h 0 _ rfl _ rfl
    obtain ⟨vb, b, e1, hb, lb⟩ := h 1 _ rfl _ rfl
    obtain ⟨ve, es, e2, he, he', le⟩ := h 2 _ rfl _ rfl
    obtain ⟨t, e3, ht⟩ := h 3 _ rfl _ rfl
    obtain ⟨vp, ps, e4, hp, hp', lp⟩ := h 4 _ rfl _ rfl
    obtain ⟨n, e5, hn⟩ := h 5 _ rfl _ rfl
    obtain ⟨s, e6, hs⟩ := h 6 _ rfl _ rfl
    have k0 : cs = objC vb ve vp ⟨k, b, es, t, ps, n, s⟩ := by
      have a7 : cs.drop (37 + 1) = [] := List.drop_eq_nil_of_le (by omega)
      have a6 := cut_at 37 1 a7
      have a5 := cut_at 36 1 a6
      have a4 := cut_at 35 1 a5
      have a3 := cut_at 3 32 a4
      have a2 := cut_at 2 1 a3
      have a1 := cut_at 1 1 a2
      have a0 := cut_at 0 1 a1
      rw [List.drop_zero] at a0
      rw [a0]
      unfold objC
      exact congr (congrArg _ e0) (congr (congrArg _ e1) (congr (congrArg _ e2) (congr (congrArg _ e3) (congr (congrArg _ e4) (congr (congrArg _ e5) (congr (congrArg _ e6) rfl)))))) |>.trans (by simp)
    have ho : ObjOk ⟨k, b, es, t, ps, n, s⟩ := ⟨hk, Nat.le_trans lb (by omega), he', by show es.length ≤ _; omega, ht, hp', by show ps.length ≤ _; omega, hn, Nat.le_trans hs (by omega)⟩
    exact ⟨vb, ve, vp, _, ⟨by rw [k0], ho, hb, he, hp⟩⟩
end
/-- An api.Object as an argument. -/
def ArgObj (w : World) (v : Value) (o : ObjL) : Prop := ∃ (QA : Array Value) (vb ve vp : Value), v = .agg QA ∧ IsObj w QA vb ve vp o
theorem open_obj {H : Type} {enc : TypeId × Value → H} {w : World} {v : Value} {d : DataW H} {p : List MemPlace} {r : Reach} {b0 : Nat}
    (hv : Value.okWide Tryd.prog w r b0 29 v) (h : DataW.Trod enc Tryd.prog w 0 (fun _ => true) true 29 v d p) (hL : Light Tryd.prog 29 d) : ∃ o, ArgObj w v o := by
  obtain ⟨cs, rfl⟩ := agg_arg Tryd.underlying29 hv
  obtain ⟨vb, ve, vp, o, k⟩ := arg_of opens_obj h hL
  exact ⟨o, cs, vb, ve, vp, rfl, by simpa [Value.cells] using k⟩
/-- The zero object, as a witness. -/
def wObj : Value := .agg ((#[Value.int .i64 0, Value.slice none 0 0, Value.slice none 0 0] : Array Value) ++ (Array.replicate 32 (Value.int .u8 0)) ++ (#[Value.slice none 0 0, Value.int .u32 0, Value.string ByteArray.empty] : Array Value))
end Go.Proofs.YtcdlmappcbbacaaDoor
