/- Plain facts on files in their order. -/
import Derived.Test.YtpcpcjejdngllaaDoorFlE
import Derived.Sort.Walk0
namespace Go.Proofs.YtpcpcjejdngllaaDoor
open Go.RowKit
set_option linter.unusedVariables false
set_option linter.unusedSimpArgs false

/-- A path stands ahead of another. -/
def bl (a b : ByteArray) : Bool := Op.bytesLess a.toList b.toList
theorem bl_irr (a : ByteArray) : bl a a = false := by
  unfold bl; rw [bytesLess_eq, decide_eq_false_iff_not]; exact List.lt_irrefl _
theorem bl_tr {a b c : ByteArray} (h1 : bl a b = true) (h2 : bl b c = true) : bl a c = true := by
  unfold bl at *
  rw [bytesLess_eq, decide_eq_true_eq] at *
  exact List.lt_trans h1 h2
theorem bl_as {a b : ByteArray} (h1 : bl a b = true) : bl b a = false := by
  cases h : bl b a with
  | false => rfl
  | true => have := bl_tr h1 h; rw [bl_irr] at this; cases this
theorem bl_eq {a b : ByteArray} (h1 : bl a b = false) (h2 : bl b a = false) : a = b := by
  unfold bl at *
  rw [bytesLess_eq, decide_eq_false_iff_not] at *
  have : a.toList = b.toList := by
    rcases Std.lt_trichotomy b.toList a.toList with h3 | h3 | h3
    · exact absurd h3 h2
    · exact h3.symm
    · exact absurd h3 h1
  have h := ba_eq a b
  rw [this, beq_self_eq_true] at h
  exact of_decide_eq_true h.symm
theorem bl_ne {a b : ByteArray} (h : bl a b = true) : a ≠ b := fun e => by subst e; rw [bl_irr] at h; cases h
theorem beq_path {a b : ByteArray} : ((a.toList == b.toList) = true) ↔ a = b := by rw [ba_eq]; exact decide_eq_true_iff
theorem nbeq_path {a b : ByteArray} : ((a.toList == b.toList) = false) ↔ a ≠ b := by rw [ba_eq]; exact decide_eq_false_iff_not
/-- Files in order. -/
def FsS (fs : List Fl) : Prop := fs.Pairwise fun f g => bl f.path g.path = true
theorem repo_sorted {fs : List Fl} (h : repoB fs = true) : FsS fs := by
  unfold repoB at h
  simp only [Bool.and_eq_true, List.all_eq_true] at h
  have h1 : ∀ i (hi : i + 1 < fs.length), bl fs[i].path fs[i + 1].path = true := fun i hi => by
    have := h.2.1 (i + 1) (List.mem_range.2 hi)
    unfold fileB at this
    simp only [Bool.and_eq_true, Bool.or_eq_true] at this
    have h2 := this.2.2.1
    rcases h2 with h2 | h2
    · simp at h2
    · unfold lessB at h2
      rw [getD_at hi, Nat.add_sub_cancel, getD_at (by omega)] at h2
      exact h2
  unfold FsS
  rw [List.pairwise_iff_getElem]
  intro i j hi hj hij
  obtain ⟨d, rfl⟩ : ∃ d, j = i + 1 + d := ⟨j - (i + 1), by omega⟩
  clear hij
  induction d with
  | zero => exact h1 i hj
  | succ d ih => exact bl_tr (ih (by omega)) (h1 (i + 1 + d) (by omega))
theorem repo_mem {fs : List Fl} (h : repoB fs = true) : ∀ f ∈ fs, pathB f.path = true ∧ f.text.size ≤ 4096 := by
  unfold repoB at h
  simp only [Bool.and_eq_true, List.all_eq_true] at h
  intro f hf
  obtain ⟨i, hi, rfl⟩ := List.getElem_of_mem hf
  have := h.2.1 i (List.mem_range.2 hi)
  unfold fileB at this
  rw [getD_at hi] at this
  simp only [Bool.and_eq_true, decide_eq_true_eq] at this
  exact ⟨this.1, this.2.1⟩
theorem repo_len {fs : List Fl} (h : repoB fs = true) : fs.length ≤ 16 := by
  unfold repoB at h
  simp only [Bool.and_eq_true, decide_eq_true_eq] at h
  exact h.1
theorem fs_lt {fs : List Fl} (h : FsS fs) {i j : Nat} (hj : j < fs.length) (hij : i < j) : bl (fs[i]'(by omega)).path fs[j].path = true := (List.pairwise_iff_getElem.1 h) i j (by omega) hj hij
theorem getL_sorted {fs : List Fl} (h : FsS fs) {i : Nat} (hi : i < fs.length) : getL fs fs[i].path = some fs[i] :=
  getL_at hi (fun j hj hji => nbeq_path.2 (bl_ne (fs_lt h hi hji))) (beq_path.2 rfl)
end Go.Proofs.YtpcpcjejdngllaaDoor
