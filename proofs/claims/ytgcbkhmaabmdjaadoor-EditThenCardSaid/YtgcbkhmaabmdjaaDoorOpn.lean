/- How an argument reads, whatever type it has: a reading for each kind of type, put together. Over any program. -/
import Derived.Test.YtgcbkhmaabmdjaaDoorOpen
import Derived.SizedLaws
import Derived.OpenShut
import Derived.ChangeArms
namespace Go.Proofs.YtgcbkhmaabmdjaaDoor
open Go.RowKit Go.Deep Go.ChangeShapes Go.WideShapes
set_option linter.unusedVariables false

/-- No part of the datum weighs more than the reach. -/
def Light {H : Type} (P : Program) (t : TypeId) (d : DataW H) : Prop := ∀ n ∈ d.weights P t, n ≤ 140737488351232
/-- Whatever cells read as a datum of type t that is light are so. -/
def Opens {H : Type} (enc : TypeId × Value → H) (P : Program) (w : World) (t : TypeId) (ok : List Value → Prop) : Prop :=
  ∀ n cs y, DataW.trod enc P w 0 (fun _ => true) true n t cs = some y → Light P t y.1 → ok cs

section
variable {H : Type} {enc : TypeId × Value → H} {P : Program} {w : World}

theorem Opens.mono {t : TypeId} {ok ok' : List Value → Prop} (h : Opens enc P w t ok) (k : ∀ cs, ok cs → ok' cs) : Opens enc P w t ok' := fun n cs y a b => k _ (h n cs y a b)
theorem opens_int {t : TypeId} {k : IntKind} (ht : P.underlying t = some (.int k)) : Opens enc P w t (fun cs => ∃ z, cs = [.int k z] ∧ (Lit.int k z).wf = true) := fun n cs y h _ => by
  obtain ⟨z, e, _, hw⟩ := DataW.trod_int ht h
  exact ⟨z, e, hw⟩
theorem opens_i64 {t : TypeId} (ht : P.underlying t = some (.int .i64)) : Opens enc P w t (fun cs => ∃ z, cs = [.int .i64 z] ∧ -9223372036854775808 ≤ z ∧ z ≤ 9223372036854775807) := (opens_int ht).mono fun cs ⟨z, e, hw⟩ =>
  ⟨z, e, by simpa [Lit.wf, IntKind.min, IntKind.max, IntKind.signed, IntKind.bits] using hw⟩
theorem opens_u32 {t : TypeId} (ht : P.underlying t = some (.int .u32)) : Opens enc P w t (fun cs => ∃ z : Nat, cs = [.int .u32 (z : Int)] ∧ z < 4294967296) := (opens_int ht).mono fun cs ⟨z, e, hw⟩ => by
  have hb : 0 ≤ z ∧ z ≤ 4294967295 := by simpa [Lit.wf, IntKind.min, IntKind.max, IntKind.signed, IntKind.bits] using hw
  exact ⟨z.toNat, by rw [e, Int.toNat_of_nonneg hb.1], by omega⟩
theorem opens_u8 {t : TypeId} (ht : P.underlying t = some (.int .u8)) : Opens enc P w t (fun cs => ∃ c : UInt8, cs = [bc c]) := (opens_int ht).mono fun cs ⟨z, e, hw⟩ => by
  have hb : 0 ≤ z ∧ z ≤ 255 := by simpa [Lit.wf, IntKind.min, IntKind.max, IntKind.signed, IntKind.bits] using hw
  refine ⟨UInt8.ofNat z.toNat, ?_⟩
  rw [e]
  unfold bc
  rw [UInt8.toNat_ofNat']
  congr 2
  omega
theorem opens_bool {t : TypeId} (ht : P.underlying t = some .bool) : Opens enc P w t (fun cs => ∃ b, cs = [.bool b]) := fun n cs y h _ => by
  obtain ⟨b, e, _⟩ := DataW.trod_bool ht h
  exact ⟨b, e⟩
theorem opens_string {t : TypeId} (ht : P.underlying t = some .string) : Opens enc P w t (fun cs => ∃ s : ByteArray, cs = [.string s] ∧ s.size ≤ 140737488351232) := fun n cs y h hl => by
  obtain ⟨s, e, rfl, _⟩ := DataW.trod_string ht h
  exact ⟨s, e, by simpa using hl s.data.toList.length (by simp [DataW.weights])⟩
theorem weights_all {t : TypeId} {ds : List (DataW H)} {d : DataW H} (hd : d ∈ ds) : ∀ n ∈ d.weights P t, n ∈ DataW.weightsAll P t ds := by
  induction ds with
  | nil => cases hd
  | cons x r ih =>
    intro n hn
    rw [DataW.weightsAll, List.mem_append]
    rcases List.mem_cons.1 hd with rfl | h
    · exact .inl hn
    · exact .inr (ih h n hn)
/-- A slice, whose elements have k cells and b bytes each. -/
theorem opens_slice {α : Type} {t e : TypeId} (k b : Nat) (c : α → List Value) (ok : α → Prop) (ht : P.underlying t = some (.slice e)) (hk : P.cellsOf e = k) (hk0 : 0 < k) (hb : P.bytesOf e = b)
    (elem : Opens enc P w e (fun cs => ∃ x, cs = c x ∧ (c x).length = k ∧ ok x)) :
    Opens enc P w t (fun cs => ∃ (v : Value) (xs : List α), cs = [v] ∧ IsSl w v k xs.length (xs.flatMap c) ∧ (∀ x ∈ xs, ok x) ∧ xs.length * b ≤ 140737488351232) := by
  intro fuel cs y hf hL
  rcases open_slice ht hf with ⟨rfl, hx⟩ | ⟨a, len, cap, m, n, D, Pl, rfl, _, hl, hm, hmm, hx, hel⟩
  · exact ⟨_, [], rfl, IsSl.nil _ _, by simp, by simp⟩
  · refine ⟨.slice (some a) len cap, ?_⟩
    subst hx
    simp only [if_true] at hmm
    subst hmm
    rw [hk] at hel
    have hlen : len * b ≤ 140737488351232 := by
      have h1 := hL ((((List.range len).map D).length + ((List.range (m - len)).map fun j => D (len + j)).length) * P.bytesOf e) (by simp [DataW.weights, ht])
      simp only [List.length_map, List.length_range, hb] at h1
      exact Nat.le_trans (Nat.mul_le_mul_right _ (by omega)) h1
    have hLe : ∀ i, i < len → Light P e (D i) := fun i hi q hq => hL q (by
      simp only [DataW.weights, ht, List.mem_cons, List.mem_append]
      exact .inr (.inl (weights_all (List.mem_map.2 ⟨i, by simpa using hi, rfl⟩) q hq)))
    have hch : ∀ i : Fin len, ∃ x : α, (c x).length = k ∧ ok x ∧ ∀ j, j < k → w.cell? ((a.add (i * k)).add j) = (c x)[j]? := by
      intro i
      obtain ⟨cs', h1, h2⟩ := hel i (by omega)
      obtain ⟨x, rfl, hxl, hxo⟩ := elem _ _ _ h2 (hLe i i.2)
      exact ⟨x, hxl, hxo, (World.cells?_some h1).2.2⟩
    classical
    let f : Fin len → α := fun i => Classical.choose (hch i)
    have hf' : ∀ i, (c (f i)).length = k ∧ ok (f i) ∧ ∀ j, j < k → w.cell? ((a.add (i * k)).add j) = (c (f i))[j]? := fun i => Classical.choose_spec (hch i)
    have hfl : (List.ofFn f).length = len := by simp
    have hmem : ∀ x ∈ List.ofFn f, (c x).length = k ∧ ok x := by
      intro x hx
      obtain ⟨i, hi, rfl⟩ := List.getElem_of_mem hx
      rw [List.getElem_ofFn]
      exact ⟨(hf' _).1, (hf' _).2.1⟩
    refine ⟨List.ofFn f, rfl, ⟨flat_len c k _ (fun x hx => (hmem x hx).1), some a, m, by rw [hfl], by rw [hfl]; exact hl, by unfold maxLen at hm; omega, (fun h => by cases h), ?_⟩, fun x hx => (hmem x hx).2, by rw [hfl]; exact hlen⟩
    intro q hq
    rw [flat_len c k _ (fun x hx => (hmem x hx).1), hfl] at hq
    have hqk : q / k < len := Nat.div_lt_of_lt_mul (by rw [Nat.mul_comm]; exact hq)
    have hlen : 0 < len := Nat.lt_of_le_of_lt (Nat.zero_le _) hqk
    obtain ⟨b, off, spot⟩ := a
    have hspot : spot = none := by
      have h0 := (hf' ⟨0, hlen⟩).2.2 0 hk0
      simp only [Nat.zero_mul] at h0
      rw [List.getElem?_eq_getElem (by rw [(hf' ⟨0, hlen⟩).1]; exact hk0)] at h0
      simpa [Addr.add] using World.cell?_spot h0
    subst hspot
    refine ⟨b, off, rfl, ?_⟩
    have h1 := (hf' ⟨q / k, hqk⟩).2.2 (q % k) (Nat.mod_lt _ hk0)
    rw [Addr.add_lit, Addr.add_lit, Nat.add_assoc] at h1
    have e : q / k * k + q % k = q := by rw [Nat.mul_comm]; exact Nat.div_add_mod q k
    have h2 := flat_get c k (List.ofFn f) (fun x hx => (hmem x hx).1) (q / k) (by rw [hfl]; exact hqk) (q % k) (Nat.mod_lt _ hk0)
    rw [e] at h1 h2
    rw [h1, h2, List.getElem_ofFn]
theorem map_bc (xs : List UInt8) : xs.flatMap (fun x : UInt8 => [bc x]) = xs.map bc := by
  induction xs with
  | nil => rfl
  | cons x xs ih => rw [List.flatMap_cons, ih]; rfl
/-- A slice of bytes. -/
theorem opens_bytes {t e : TypeId} (ht : P.underlying t = some (.slice e)) (he : P.underlying e = some (.int .u8)) (hk : P.cellsOf e = 1) (hb : P.bytesOf e = 1) :
    Opens enc P w t (fun cs => ∃ (v : Value) (l : List UInt8), cs = [v] ∧ IsB w v l ∧ l.length ≤ 140737488351232) :=
  (opens_slice 1 1 (fun x : UInt8 => [bc x]) (fun _ => True) ht hk (by omega) hb ((opens_u8 he).mono fun cs ⟨c, e⟩ => ⟨c, e, rfl, trivial⟩)).mono fun cs ⟨v, xs, e, h, _, hl⟩ =>
    ⟨v, xs, e, by rw [map_bc] at h; exact h, by omega⟩
/-- An array of n elements of one cell each. -/
theorem opens_array1 {α : Type} {t e : TypeId} (n : Nat) (c : α → Value) (ht : P.underlying t = some (.array n e)) (hk : P.cellsOf e = 1) (hn : P.cellsOf t = n)
    (elem : Opens enc P w e (fun cs => ∃ x, cs = [c x])) : Opens enc P w t (fun cs => ∃ xs : List α, cs = xs.map c ∧ xs.length = n) := by
  intro fuel cs y hf hL
  obtain ⟨xs, m, h1, h2, h3, h4, h5⟩ := DataW.trod_array ht hf
  subst h2
  rw [hn] at h3
  have hch : ∀ i : Fin n, ∃ x : α, cs[i.1]? = some (c x) := by
    intro i
    have h6 := h5 i.1 i.2
    rw [hk, Nat.mul_one, List.getElem?_eq_getElem (by omega)] at h6
    obtain ⟨x, hx⟩ := elem _ _ _ h6 (fun q hq => hL q (by
      simp only [DataW.weights, ht]
      exact weights_all (List.mem_map.2 ⟨_, List.getElem_mem (by omega), rfl⟩) q hq))
    refine ⟨x, ?_⟩
    have := congrArg (fun q => q[0]?) hx
    simpa [List.getElem?_take, List.getElem?_drop] using this
  classical
  let f : Fin n → α := fun i => Classical.choose (hch i)
  have hf' : ∀ i : Fin n, cs[i.1]? = some (c (f i)) := fun i => Classical.choose_spec (hch i)
  refine ⟨List.ofFn f, ?_, by simp⟩
  apply List.ext_getElem?
  intro i
  by_cases hi : i < n
  · rw [hf' ⟨i, hi⟩]
    simp [hi]
  · rw [List.getElem?_eq_none (by omega), List.getElem?_eq_none (by simp; omega)]
/-- A struct: each field as its own reading says. -/
theorem opens_struct {t : TypeId} {fs : Array Field} (ht : P.underlying t = some (.struct fs)) (n : Nat) (hn : P.cellsOf t = n) (oks : List (List Value → Prop)) (hl : oks.length = fs.size)
    (h : ∀ (i : Nat) (f : Field), fs[i]? = some f → ∀ ok : List Value → Prop, oks[i]? = some ok → Opens enc P w f.type ok) :
    Opens enc P w t (fun cs => cs.length = n ∧ ∀ (i : Nat) (f : Field), fs[i]? = some f → ∀ ok : List Value → Prop, oks[i]? = some ok → ok ((cs.drop f.offset).take (P.cellsOf f.type))) := by
  intro fuel cs y hf hL
  obtain ⟨xs, m, _, rfl, hc, hx, hp⟩ := DataW.trod_struct ht hf
  refine ⟨by rw [hc, hn], fun i f hif ok hok => ?_⟩
  have h1 := hp i f hif
  have hi : i < xs.length := by rw [hx]; exact (Array.getElem?_eq_some_iff.1 hif).1
  rw [List.getElem?_eq_getElem hi] at h1
  refine h i f hif ok hok _ _ _ h1 (fun q hq => hL q ?_)
  simp only [DataW.weights, ht]
  exact DataW.weights_mem_each (j := i) (by rw [List.getElem?_map, Array.getElem?_toList, hif]; rfl) (by rw [List.getElem?_map, List.getElem?_eq_getElem hi]; rfl) q hq
/-- Cells, cut in two at a place. -/
theorem cut_at {cs r : List Value} (a b : Nat) (h : cs.drop (a + b) = r) : cs.drop a = (cs.drop a).take b ++ r := by
  rw [← h, ← List.drop_drop, List.take_append_drop]
/-- An argument that is one cell. -/
theorem arg_of {t : TypeId} {ok : List Value → Prop} (ho : Opens enc P w t ok) {v : Value} {d : DataW H} {p : List MemPlace}
    (h : DataW.Trod enc P w 0 (fun _ => true) true t v d p) (hL : Light P t d) : ok v.cells.toList := by
  obtain ⟨fuel, hf⟩ := h
  exact ho _ _ _ hf hL
theorem light_of {ts : List TypeId} {ds : List (DataW H)} (h : (DataW.weightsEach P ts ds).all (· ≤ reachBytes) = true) (j : Nat) {t : TypeId} {d : DataW H} (ht : ts[j]? = some t) (hd : ds[j]? = some d) : Light P t d := fun n hn => by
  have := List.all_eq_true.1 h _ (DataW.weights_mem_each ht hd n hn)
  exact of_decide_eq_true this
theorem agg_arg {t : TypeId} {fs : Array Field} (ht : P.underlying t = some (.struct fs)) {v : Value} {r : Reach} {b0 : Nat} (hv : Value.okWide P w r b0 t v) : ∃ cs : Array Value, v = .agg cs := by
  simp only [Value.okWide, ht] at hv
  obtain ⟨cs, h1, _⟩ := hv
  exact ⟨cs, h1⟩
end
end Go.Proofs.YtgcbkhmaabmdjaaDoor
