/- Plain laws on paths: sorted, each once; what two lists of paths in order have in common. -/
import Derived.Test.YtpcpcjejdngllaaDoorFlP
import Derived.Lib.SlicesCompact
namespace Go.Proofs.YtpcpcjejdngllaaDoor
open Go.RowKit
set_option linter.unusedVariables false
set_option linter.unusedSimpArgs false

/-- Paths in order, each once. -/
def PsS (l : List ByteArray) : Prop := l.Pairwise fun a b => bl a b = true
theorem psS_eq : ∀ {a b : List ByteArray}, PsS a → PsS b → (∀ x, x ∈ a ↔ x ∈ b) → a = b
  | [], [], _, _, _ => rfl
  | [], y :: b, _, _, h => absurd ((h y).2 (List.mem_cons_self ..)) (by simp)
  | x :: a, [], _, _, h => absurd ((h x).1 (List.mem_cons_self ..)) (by simp)
  | x :: a, y :: b, ha, hb, h => by
    have ha2 := List.pairwise_cons.1 ha
    have hb2 := List.pairwise_cons.1 hb
    have e : x = y := by
      rcases List.mem_cons.1 ((h x).1 (List.mem_cons_self ..)) with e | hx
      · exact e
      · rcases List.mem_cons.1 ((h y).2 (List.mem_cons_self ..)) with e | hy
        · exact e.symm
        · have h1 := hb2.1 x hx
          have h2 := ha2.1 y hy
          rw [bl_as h1] at h2
          cases h2
    subst e
    have : a = b := psS_eq ha2.2 hb2.2 fun z => ⟨fun hz => by
      rcases List.mem_cons.1 ((h z).1 (List.mem_cons_of_mem _ hz)) with e | hz2
      · subst e; exact absurd rfl (bl_ne (ha2.1 z hz))
      · exact hz2, fun hz => by
      rcases List.mem_cons.1 ((h z).2 (List.mem_cons_of_mem _ hz)) with e | hz2
      · subst e; exact absurd rfl (bl_ne (hb2.1 z hz))
      · exact hz2⟩
    rw [this]

/-- A path in its place. -/
def putP (l : List ByteArray) (p : ByteArray) : List ByteArray :=
  if l.any (fun x => x.toList == p.toList) = true then l else l.filter (fun x => bl x p) ++ p :: l.filter (fun x => bl p x)
theorem putP_mem (l : List ByteArray) (p : ByteArray) (x : ByteArray) (hl : PsS l) : x ∈ putP l p ↔ x = p ∨ x ∈ l := by
  unfold putP
  split
  · rename_i h
    obtain ⟨y, hy, hyp⟩ := List.any_eq_true.1 h
    have : y = p := beq_path.1 hyp
    subst this
    exact ⟨.inr, fun h => h.elim (fun e => by subst e; exact hy) id⟩
  · rename_i h
    rw [List.mem_append, List.mem_cons, List.mem_filter, List.mem_filter]
    constructor
    · rintro (⟨h1, _⟩ | rfl | ⟨h1, _⟩)
      · exact .inr h1
      · exact .inl rfl
      · exact .inr h1
    · rintro (rfl | hx)
      · exact .inr (.inl rfl)
      · cases h1 : bl x p with
        | true => exact .inl ⟨hx, rfl⟩
        | false =>
          cases h2 : bl p x with
          | true => exact .inr (.inr ⟨hx, rfl⟩)
          | false => exact .inr (.inl (bl_eq h1 h2))
theorem putP_sorted {l : List ByteArray} (p : ByteArray) (hl : PsS l) : PsS (putP l p) := by
  unfold putP
  split
  · exact hl
  · unfold PsS
    rw [List.pairwise_append]
    refine ⟨hl.filter _, List.pairwise_cons.2 ⟨fun x hx => (List.mem_filter.1 hx).2, hl.filter _⟩, fun a ha b hb => ?_⟩
    have h1 := (List.mem_filter.1 ha).2
    rcases List.mem_cons.1 hb with rfl | hb
    · exact h1
    · exact bl_tr h1 (List.mem_filter.1 hb).2
def allP (fss : List (List Fl)) : List ByteArray := fss.flatMap fun fs => fs.map Fl.path
/-- All paths of repositories, in order, each once. -/
def pathsL (fss : List (List Fl)) : List ByteArray := (allP fss).foldl putP []
theorem fold_put : ∀ (l acc : List ByteArray), PsS acc → PsS (l.foldl putP acc) ∧ ∀ x, x ∈ l.foldl putP acc ↔ x ∈ l ∨ x ∈ acc
  | [], acc, h => ⟨h, fun x => by simp⟩
  | p :: l, acc, h => by
    obtain ⟨h1, h2⟩ := fold_put l (putP acc p) (putP_sorted p h)
    refine ⟨h1, fun x => ?_⟩
    rw [List.foldl_cons, h2, putP_mem _ _ _ h, List.mem_cons]
    constructor
    · rintro (h | h | h)
      · exact .inl (.inr h)
      · exact .inl (.inl h)
      · exact .inr h
    · rintro ((h | h) | h)
      · exact .inr (.inl h)
      · exact .inl h
      · exact .inr (.inr h)
theorem pathsL_sorted (fss : List (List Fl)) : PsS (pathsL fss) := (fold_put _ [] List.Pairwise.nil).1
theorem pathsL_mem (fss : List (List Fl)) (x : ByteArray) : x ∈ pathsL fss ↔ x ∈ allP fss := by
  unfold pathsL
  rw [(fold_put _ [] List.Pairwise.nil).2]
  simp

/-- Sorted, the runs struck: in order, each once. -/
theorem lt_or_eq {a b : List UInt8} (h : a ≤ b) : a < b ∨ a = b := by
  rcases Std.lt_trichotomy a b with h1 | h1 | h1
  · exact .inl h1
  · exact .inr h1
  · exact absurd h1 h
theorem compactUp (d : Array (List UInt8)) (hd : d.toList.Pairwise (· ≤ ·)) : ∀ m, m ≤ d.size → (Lib.compactUpTo d m).Pairwise (· < ·) ∧ (∀ x, x ∈ Lib.compactUpTo d m ↔ ∃ j, j < m ∧ d[j]! = x) := by
  have hle : ∀ i j, i < j → j < d.size → d[i]! ≤ d[j]! := fun i j hij hj => by
    have := (List.pairwise_iff_getElem.1 hd) i j (by simp; omega) (by simpa using hj) hij
    rw [getElem!_pos d i (by omega), getElem!_pos d j hj]
    simpa using this
  intro m
  induction m with
  | zero => intro _; exact ⟨List.Pairwise.nil, fun x => by simp [Lib.compactUpTo]⟩
  | succ m ih =>
    intro hm
    obtain ⟨h1, h2⟩ := ih (by omega)
    rw [Lib.compactUpTo_succ]
    cases hk : Lib.keeps d m with
    | true =>
      simp only [if_true]
      refine ⟨?_, fun x => ?_⟩
      · rw [List.pairwise_append]
        refine ⟨h1, by simp, fun a ha b hb => ?_⟩
        obtain rfl : b = d[m]! := by simpa using hb
        obtain ⟨j, hj, rfl⟩ := (h2 a).1 ha
        unfold Lib.keeps at hk
        rw [decide_eq_true_eq] at hk
        have hne : d[m]! ≠ d[m - 1]! := hk.resolve_left (by omega)
        have h3 : d[m - 1]! < d[m]! := (lt_or_eq (hle (m - 1) m (by omega) (by omega))).resolve_right (Ne.symm hne)
        by_cases e : j = m - 1
        · subst e; exact h3
        · rcases lt_or_eq (hle j (m - 1) (by omega) (by omega)) with h4 | h4
          · exact List.lt_trans h4 h3
          · rw [h4]; exact h3
      · rw [List.mem_append, h2, List.mem_singleton]
        constructor
        · rintro (⟨j, hj, e⟩ | e)
          · exact ⟨j, by omega, e⟩
          · exact ⟨m, by omega, e.symm⟩
        · rintro ⟨j, hj, e⟩
          by_cases hjm : j = m
          · subst hjm; exact .inr e.symm
          · exact .inl ⟨j, by omega, e⟩
    | false =>
      simp only [Bool.false_eq_true, if_false, List.append_nil]
      refine ⟨h1, fun x => ?_⟩
      rw [h2]
      unfold Lib.keeps at hk
      rw [decide_eq_false_iff_not] at hk
      have h0 : m ≠ 0 := fun e => hk (.inl e)
      have he : d[m]! = d[m - 1]! := Decidable.byContradiction fun e => hk (.inr e)
      constructor
      · rintro ⟨j, hj, e⟩
        exact ⟨j, by omega, e⟩
      · rintro ⟨j, hj, e⟩
        by_cases hjm : j = m
        · subst hjm; exact ⟨j - 1, by omega, by rw [← he]; exact e⟩
        · exact ⟨j, by omega, e⟩
theorem bl_lt {a b : ByteArray} : bl a b = true ↔ a.data.toList < b.data.toList := by
  unfold bl
  rw [bytesLess_eq, decide_eq_true_eq]
  have h : ∀ s : ByteArray, s.toList = s.data.toList := fun s => ByteArray.toList_eq s
  rw [h, h]
theorem sorted_is (l : List ByteArray) : (Lib.compact ((l.map fun p => p.data.toList).mergeSort fun x y => decide (x ≤ y))).map (fun x => (⟨x.toArray⟩ : ByteArray)) = l.foldl putP [] := by
  obtain ⟨z, hz⟩ : ∃ z, (l.map fun p => p.data.toList).mergeSort (fun x y => decide (x ≤ y)) = z := ⟨_, rfl⟩
  rw [hz]
  have hsort : z.Pairwise (· ≤ ·) := by
    rw [← hz]
    have := List.pairwise_mergeSort (le := fun (x y : List UInt8) => decide (x ≤ y)) (fun a b c h1 h2 => by
      rw [decide_eq_true_eq] at *
      exact List.le_trans h1 h2) (fun a b => by
      rw [Bool.or_eq_true, decide_eq_true_eq, decide_eq_true_eq]
      exact List.le_total a b) (l.map fun p => p.data.toList)
    exact this.imp fun h => of_decide_eq_true h
  have hmem : ∀ x, x ∈ z ↔ x ∈ l.map fun p => p.data.toList := fun x => by
    rw [← hz]
    exact (List.mergeSort_perm _ _).mem_iff
  obtain ⟨h1, h2⟩ := compactUp z.toArray (by simpa using hsort) z.toArray.size (Nat.le_refl _)
  have hc : Lib.compact z = Lib.compactUpTo z.toArray z.toArray.size := by unfold Lib.compact; simp
  rw [hc]
  obtain ⟨h3, h4⟩ := fold_put l [] List.Pairwise.nil
  refine psS_eq ?_ h3 fun x => ?_
  · unfold PsS
    rw [List.pairwise_map]
    exact h1.imp fun h => bl_lt.2 (by simpa using h)
  · rw [h4, List.mem_map]
    constructor
    · rintro ⟨y, hy, rfl⟩
      obtain ⟨j, hj, e⟩ := (h2 y).1 hy
      have hyz : y ∈ z := by
        rw [← e, getElem!_pos z.toArray j hj]
        simp
      obtain ⟨p, hp, e2⟩ := List.mem_map.1 ((hmem y).1 hyz)
      left
      rw [← e2]
      cases p
      exact hp
    · rintro (hx | hx)
      · have : x.data.toList ∈ z := (hmem _).2 (List.mem_map.2 ⟨x, hx, rfl⟩)
        refine ⟨x.data.toList, (h2 _).2 ?_, by cases x; rfl⟩
        obtain ⟨j, hj, e⟩ := List.getElem_of_mem this
        exact ⟨j, by simpa using hj, by rw [getElem!_pos z.toArray j (by simpa using hj)]; simpa using e⟩
      · cases hx
theorem foldP_len : ∀ (l acc : List ByteArray), (l.foldl putP acc).length ≤ l.length + acc.length
  | [], acc => by simp
  | p :: l, acc => by
    have ih := foldP_len l (putP acc p)
    have h : (putP acc p).length ≤ acc.length + 1 := by
      unfold putP
      split
      · omega
      · rename_i hn
        rw [List.length_append, List.length_cons]
        have : (acc.filter fun x => bl x p).length + (acc.filter fun x => bl p x).length ≤ acc.length := by
          clear ih hn
          induction acc with
          | nil => simp
          | cons y acc ih =>
            rw [List.filter_cons, List.filter_cons]
            cases h1 : bl y p with
            | true => rw [if_pos rfl, if_neg (by rw [bl_as h1]; decide), List.length_cons, List.length_cons]; omega
            | false =>
              rw [if_neg (by decide)]
              split
              · rw [List.length_cons, List.length_cons]; omega
              · rw [List.length_cons]; omega
        omega
    rw [List.foldl_cons, List.length_cons]
    omega
end Go.Proofs.YtpcpcjejdngllaaDoor
