/- How an argument that is a slice of structs reads: general lemmas, over any program. -/
import Derived.Test.YtgcbkhmaabmdjaaDoorKit
import Derived.Deep.Slices
import Derived.Lib.SmallJoins
namespace Go.Proofs.YtgcbkhmaabmdjaaDoor
open Go.RowKit Go.Deep Go.ChangeShapes Go.WideShapes
set_option linter.unusedVariables false

section
variable {H : Type} {enc : TypeId × Value → H} {P : Program} {w : World}

theorem flat_len {α : Type} (c : α → List Value) (k : Nat) : ∀ (xs : List α), (∀ x ∈ xs, (c x).length = k) → (xs.flatMap c).length = xs.length * k
  | [], _ => by simp
  | x :: xs, h => by
    rw [List.flatMap_cons, List.length_append, flat_len c k xs (fun y hy => h y (List.mem_cons_of_mem _ hy)), h x (List.mem_cons_self ..), List.length_cons, Nat.add_mul]
    omega
theorem flat_get {α : Type} (c : α → List Value) (k : Nat) : ∀ (xs : List α), (∀ x ∈ xs, (c x).length = k) → ∀ (i : Nat) (hi : i < xs.length) (j : Nat), j < k → (xs.flatMap c)[i * k + j]? = (c xs[i])[j]?
  | [], _, i, hi, _, _ => by simp at hi
  | x :: xs, h, i, hi, j, hj => by
    have hx := h x (List.mem_cons_self ..)
    rw [List.flatMap_cons]
    cases i with
    | zero => rw [Nat.zero_mul, Nat.zero_add, List.getElem?_append_left (by omega)]; rfl
    | succ i =>
      rw [List.getElem?_append_right (by rw [hx, Nat.add_mul]; omega), hx, show (i + 1) * k + j - k = i * k + j from by rw [Nat.add_mul]; omega]
      exact flat_get c k xs (fun y hy => h y (List.mem_cons_of_mem _ hy)) i (by simpa using hi) j hj

/-- A slice that lies in cells, of elements of k cells each, each of which reads as 'x' with the cells 'c x'. -/
theorem open_sl_cs {α : Type} {t e : TypeId} {k : Nat} (ht : P.underlying t = some (.slice e)) (hk : P.cellsOf e = k) (hk0 : 0 < k) (c : α → List Value) (ok : α → Prop)
    (elem : ∀ n cs y, DataW.trod enc P w 0 (fun _ => true) true n e cs = some y → ∃ x, cs = c x ∧ (c x).length = k ∧ ok x) {fuel : Nat} {cs : List Value} {d : DataW H} {p : List MemPlace}
    (hf : DataW.trod enc P w 0 (fun _ => true) true fuel t cs = some (d, p)) :
    ∃ (v : Value) (xs : List α), cs = [v] ∧ IsSl w v k xs.length (xs.flatMap c) ∧ (∀ x ∈ xs, ok x) ∧ ((d = .nil ∧ xs = []) ∨ ∃ el sp, d = .slice el sp ∧ el.length = xs.length) := by
  rcases open_slice ht hf with ⟨rfl, hx⟩ | ⟨a, len, cap, m, n, D, Pl, rfl, _, hl, hm, hmm, hx, hel⟩
  · simp only [Prod.mk.injEq] at hx
    exact ⟨_, [], rfl, IsSl.nil _ _, by simp, .inl ⟨hx.1, rfl⟩⟩
  · refine ⟨.slice (some a) len cap, ?_⟩
    simp only [Prod.mk.injEq] at hx
    simp only [if_true] at hmm
    subst hmm
    rw [hk] at hel
    have hch : ∀ i : Fin len, ∃ x : α, (c x).length = k ∧ ok x ∧ ∀ j, j < k → w.cell? ((a.add (i * k)).add j) = (c x)[j]? := by
      intro i
      obtain ⟨cs', h1, h2⟩ := hel i (by omega)
      obtain ⟨x, rfl, hxl, hxo⟩ := elem _ _ _ h2
      exact ⟨x, hxl, hxo, (World.cells?_some h1).2.2⟩
    classical
    let f : Fin len → α := fun i => Classical.choose (hch i)
    have hf' : ∀ i, (c (f i)).length = k ∧ ok (f i) ∧ ∀ j, j < k → w.cell? ((a.add (i * k)).add j) = (c (f i))[j]? := fun i => Classical.choose_spec (hch i)
    have hfl : (List.ofFn f).length = len := by simp
    have hmem : ∀ x ∈ List.ofFn f, (c x).length = k ∧ ok x := by
      intro x hx
      obtain ⟨i, hi, rfl⟩ := List.getElem_of_mem hx
      rw [List.getElem_ofFn]
      exact ⟨(hf' _).1, (hf' _).2.1⟩
    refine ⟨List.ofFn f, rfl, ⟨flat_len c k _ (fun x hx => (hmem x hx).1), some a, m, by rw [hfl], by rw [hfl]; exact hl, by unfold maxLen at hm; omega, (fun h => by cases h), ?_⟩, fun x hx => (hmem x hx).2, .inr ⟨_, _, hx.1, by simp⟩⟩
    intro q hq
    rw [flat_len c k _ (fun x hx => (hmem x hx).1), hfl] at hq
    have hqk : q / k < len := Nat.div_lt_of_lt_mul (by rw [Nat.mul_comm]; exact hq)
    have hlen : 0 < len := Nat.lt_of_le_of_lt (Nat.zero_le _) hqk
    obtain ⟨b, off, spot⟩ := a
    have hspot : spot = none := by
      have h0 := (hf' ⟨0, hlen⟩).2.2 0 hk0
      simp only [Nat.zero_mul] at h0
      rw [List.getElem?_eq_getElem (by rw [(hf' ⟨0, hlen⟩).1]; exact hk0)] at h0
      simpa [Addr.add] using World.cell?_spot h0
    subst hspot
    refine ⟨b, off, rfl, ?_⟩
    have h1 := (hf' ⟨q / k, hqk⟩).2.2 (q % k) (Nat.mod_lt _ hk0)
    rw [Addr.add_lit, Addr.add_lit, Nat.add_assoc] at h1
    have e : q / k * k + q % k = q := by rw [Nat.mul_comm]; exact Nat.div_add_mod q k
    have h2 := flat_get c k (List.ofFn f) (fun x hx => (hmem x hx).1) (q / k) (by rw [hfl]; exact hqk) (q % k) (Nat.mod_lt _ hk0)
    rw [e] at h1 h2
    rw [h1, h2, List.getElem_ofFn]
theorem open_sl {α : Type} {t e : TypeId} {k : Nat} (ht : P.underlying t = some (.slice e)) (hk : P.cellsOf e = k) (hk0 : 0 < k) (c : α → List Value) (ok : α → Prop)
    (elem : ∀ n cs y, DataW.trod enc P w 0 (fun _ => true) true n e cs = some y → ∃ x, cs = c x ∧ (c x).length = k ∧ ok x) {v : Value} {d : DataW H} {p : List MemPlace} {r : Reach} {b0 : Nat}
    (hv : Value.okWide P w r b0 t v) (h : DataW.Trod enc P w 0 (fun _ => true) true t v d p) :
    ∃ xs : List α, IsSl w v k xs.length (xs.flatMap c) ∧ (∀ x ∈ xs, ok x) ∧ ((d = .nil ∧ xs = []) ∨ ∃ el sp, d = .slice el sp ∧ el.length = xs.length) := by
  obtain ⟨ao, len, cap, rfl⟩ := okWide_slice ht hv
  obtain ⟨fuel, hf⟩ := h
  obtain ⟨v, xs, e1, h1, h2, h3⟩ := open_sl_cs ht hk hk0 c ok elem hf
  simp [Value.cells] at e1
  subst e1
  exact ⟨xs, h1, h2, h3⟩
end
end Go.Proofs.YtgcbkhmaabmdjaaDoor
