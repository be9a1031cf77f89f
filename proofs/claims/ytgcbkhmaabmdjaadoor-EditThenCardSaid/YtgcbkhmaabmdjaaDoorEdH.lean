/- Plain laws of edits: the order of paths, the edits of a path, edits that fit. -/
import Derived.Test.YtgcbkhmaabmdjaaDoorEdG
import Derived.Sort.Walk0
namespace Go.Proofs.YtgcbkhmaabmdjaaDoor
open Go.RowKit
set_option linter.unusedVariables false

def chkR : List Ed → Bool
  | [] => true
  | [e] => okOne e
  | e :: f :: r => okOne e && (okNext e f && chkR (f :: r))
theorem chkR_of : ∀ l, chk l = true → chkR l = true
  | [], _ => rfl
  | [e], h => (chk_get h 0 (by simp)).1
  | e :: f :: r, h => by
    have h0 := (chk_get h 0 (by simp)).1
    have h1 := (chk_get h 1 (by simp)).2 (by omega)
    have ht : chk (f :: r) = true := chk_of fun j hj => ⟨(chk_get h (j+1) (by simpa using hj)).1, fun hj0 => by
      obtain ⟨i, rfl⟩ : ∃ i, j = i + 1 := ⟨j - 1, by omega⟩
      exact (chk_get h (i+2) (by simpa using hj)).2 (by omega)⟩
    simp only [chkR, Bool.and_eq_true]
    exact ⟨h0, h1, chkR_of _ ht⟩
theorem chkR_tail {e : Ed} {l : List Ed} (h : chkR (e :: l) = true) : chkR l = true := by
  cases l with
  | nil => rfl
  | cons f r => simp only [chkR, Bool.and_eq_true] at h; exact h.2.2
theorem chkR_one {e : Ed} {l : List Ed} (h : chkR (e :: l) = true) : okOne e = true := by
  cases l with
  | nil => exact h
  | cons f r => simp only [chkR, Bool.and_eq_true] at h; exact h.1
theorem chkR_next {e f : Ed} {l : List Ed} (h : chkR (e :: f :: l) = true) : okNext e f = true := by
  simp only [chkR, Bool.and_eq_true] at h; exact h.2.1
theorem chkR_mem : ∀ {l : List Ed}, chkR l = true → ∀ e ∈ l, okOne e = true
  | x :: l, h, e, he => by
    rcases List.mem_cons.1 he with rfl | he
    · exact chkR_one h
    · exact chkR_mem (chkR_tail h) e he
theorem chkR_drop (q : Ed → Bool) : ∀ {l : List Ed}, chkR l = true → chkR (l.dropWhile q) = true
  | [], h => h
  | x :: l, h => by
    rw [List.dropWhile_cons]
    split
    · exact chkR_drop q (chkR_tail h)
    · exact h
theorem chkR_take (q : Ed → Bool) : ∀ {l : List Ed}, chkR l = true → chkR (l.takeWhile q) = true
  | [], h => h
  | [x], h => by
    rw [List.takeWhile_cons]
    split
    · exact h
    · rfl
  | x :: y :: l, h => by
    have ih := chkR_take q (chkR_tail h)
    rw [List.takeWhile_cons]
    split
    · rw [List.takeWhile_cons] at ih ⊢
      split
      · rename_i h1
        rw [if_pos h1] at ih
        simp only [chkR, Bool.and_eq_true]
        exact ⟨chkR_one h, chkR_next h, ih⟩
      · exact chkR_one h
    · rfl
theorem okOne_all {e : Ed} (h : okOne e = true) : 0 ≤ e.at_ ∧ e.at_ ≤ 4096 ∧ 0 ≤ e.n ∧ e.n ≤ 4096 ∧ e.text.size ≤ 4096 ∧ e.path.toList.isEmpty = false := by
  simp only [okOne, Bool.and_eq_true, inB, decide_eq_true_eq] at h
  exact ⟨h.1.1.2.1, h.1.1.2.2, h.1.2.1, h.1.2.2, h.2, by simpa using h.1.1.1⟩
theorem okNext_same {p e : Ed} (h : okNext p e = true) (hp : (e.path.toList == p.path.toList) = true) : p.at_ + p.n < e.at_ := by
  simp only [okNext, hp, Bool.true_and, Bool.not_eq_true', Bool.or_eq_false_iff, decide_eq_false_iff_not] at h
  omega
theorem okNext_less {p e : Ed} (h : okNext p e = true) : Op.bytesLess e.path.toList p.path.toList = false := by
  simp only [okNext, Bool.not_eq_true', Bool.or_eq_false_iff] at h
  exact h.1

theorem mem_tw {α : Type} (q : α → Bool) : ∀ (l : List α) (x : α), x ∈ l.takeWhile q → q x = true
  | y :: l, x, h => by
    rw [List.takeWhile_cons] at h
    split at h
    · rename_i hy
      rcases List.mem_cons.1 h with rfl | h
      · exact hy
      · exact mem_tw q l x h
    · cases h
theorem ofL_mem {l : List Ed} {s : ByteArray} : ∀ e ∈ ofL l s, (e.path.toList == s.toList) = true := by
  intro e he
  exact mem_tw _ _ e he
theorem ofL_chk {l : List Ed} (s : ByteArray) (h : chk l = true) : chkR (ofL l s) = true := chkR_take _ (chkR_drop _ (chkR_of _ h))
theorem ofL_len (l : List Ed) (s : ByteArray) : (ofL l s).length ≤ l.length :=
  Nat.le_trans (List.takeWhile_prefix _).length_le (List.dropWhile_suffix _).length_le

theorem fits_get {l : List Ed} {n : Int} (hc : chkR l = true) (h : fitsL l n = true) : ∀ e ∈ l, e.at_ + e.n ≤ n := by
  intro e he
  have ho := okOne_all (chkR_mem hc e he)
  simp only [fitsL, Bool.not_eq_true', List.any_eq_false, decide_eq_true_eq] at h
  have h1 := h e he
  rw [IntWalk.wrap64_in _ (by omega)] at h1
  omega
theorem okFrom_of (n : Nat) (s : List UInt8) : ∀ (a : Nat) (m : List Ed), a ≤ n → chkR m = true → (∀ e ∈ m, (e.path.toList == s) = true) → (∀ e ∈ m, e.at_ + e.n ≤ n) → (∀ e r, m = e :: r → (a:Int) ≤ e.at_) → okFrom n a m
  | a, [], ha, _, _, _, _ => ha
  | a, e :: r, ha, hc, hp, hf, hh => by
    have h1 := okOne_all (chkR_one hc)
    have h2 := hf e (List.mem_cons_self ..)
    refine ⟨hh e r rfl, by omega, h2, by omega, okFrom_of n s _ r (by omega) (chkR_tail hc) (fun x hx => hp x (List.mem_cons_of_mem _ hx)) (fun x hx => hf x (List.mem_cons_of_mem _ hx)) ?_⟩
    intro f r' e'
    subst e'
    have hpe := hp e (List.mem_cons_self ..)
    have hpf := hp f (List.mem_cons_of_mem _ (List.mem_cons_self ..))
    rw [beq_iff_eq] at hpe hpf
    have := okNext_same (chkR_next hc) (by rw [hpe, hpf, beq_iff_eq])
    omega
theorem ok_of {l : List Ed} {s : ByteArray} {n : Nat} (hc : chk l = true) (hf : fitsL (ofL l s) n = true) : okFrom n 0 (ofL l s) :=
  okFrom_of n s.toList 0 _ (Nat.zero_le _) (ofL_chk s hc) ofL_mem (fits_get (ofL_chk s hc) hf) (fun e r h => by
    have := okOne_all (chkR_one (by rw [← h]; exact ofL_chk s hc))
    omega)

/-- Ordered by path, the edits of a path stand together. -/
theorem less_trans {a b c : List UInt8} (h1 : Op.bytesLess b a = false) (h2 : Op.bytesLess c b = false) : Op.bytesLess c a = false := by
  rw [bytesLess_eq, decide_eq_false_iff_not] at *
  intro h
  rcases Std.lt_trichotomy b a with h3 | h3 | h3
  · exact h1 h3
  · subst h3; exact h2 h
  · exact h2 (List.lt_trans h h3)
theorem chkR_less : ∀ {e : Ed} {l : List Ed}, chkR (e :: l) = true → ∀ x ∈ l, Op.bytesLess x.path.toList e.path.toList = false
  | e, y :: l, h, x, hx => by
    rcases List.mem_cons.1 hx with rfl | hx
    · exact okNext_less (chkR_next h)
    · exact less_trans (okNext_less (chkR_next h)) (chkR_less (chkR_tail h) x hx)
theorem less_irrefl_eq {a b : List UInt8} (h1 : Op.bytesLess b a = false) (h2 : Op.bytesLess a b = false) : a = b := by
  rw [bytesLess_eq, decide_eq_false_iff_not] at *
  rcases Std.lt_trichotomy b a with h3 | h3 | h3
  · exact absurd h3 h1
  · exact h3.symm
  · exact absurd h3 h2
theorem filter_take (s : List UInt8) : ∀ (e : Ed) (l : List Ed), chkR (e :: l) = true → Op.bytesLess e.path.toList s = false → (e :: l).filter (fun x => x.path.toList == s) = (e :: l).takeWhile (fun x => x.path.toList == s)
  | e, [], _, _ => by rw [List.filter_cons, List.takeWhile_cons]; rfl
  | e, y :: l, h, hs => by
    rw [List.filter_cons, List.takeWhile_cons]
    have hy := less_trans hs (okNext_less (chkR_next h))
    split
    · rw [filter_take s y l (chkR_tail h) hy]
    · rename_i hne
      rw [List.filter_eq_nil_iff]
      intro x hx hxs
      rw [beq_iff_eq] at hxs
      have := chkR_less h x hx
      rw [hxs] at this
      exact hne (by rw [beq_iff_eq]; exact (less_irrefl_eq hs this).symm)
theorem filter_of (s : ByteArray) : ∀ (l : List Ed), chkR l = true → l.filter (fun x => x.path.toList == s.toList) = ofL l s
  | [], _ => rfl
  | e :: l, h => by
    unfold ofL
    rw [List.dropWhile_cons]
    cases hb : (e.path.toList == s.toList)
    · rw [List.filter_cons, hb]
      simp only [Bool.not_false, if_true, Bool.false_eq_true, if_false]
      exact filter_of s l (chkR_tail h)
    · simp only [Bool.not_true, Bool.false_eq_true, if_false]
      apply filter_take _ _ _ h
      rw [beq_iff_eq] at hb
      rw [hb, bytesLess_eq, decide_eq_false_iff_not]
      exact List.lt_irrefl _
end Go.Proofs.YtgcbkhmaabmdjaaDoor
