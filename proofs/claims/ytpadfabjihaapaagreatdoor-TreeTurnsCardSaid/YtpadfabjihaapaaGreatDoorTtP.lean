/- What is told to differ leads from the one to the other. Plain. -/
import Derived.Test.YtpadfabjihaapaaGreatDoorDfP
namespace Go.Proofs.YtpadfabjihaapaaGreatDoor
open Go.RowKit
set_option linter.unusedVariables false
set_option linter.unusedSimpArgs false

theorem repo_pre {fs : List Fl} (h : repoB fs = true) : ∀ f ∈ fs, ∀ g ∈ fs, preB g.path f.path = false := by
  unfold repoB at h
  simp only [Bool.and_eq_true, List.all_eq_true] at h
  intro f hf g hg
  obtain ⟨i, hi, rfl⟩ := List.getElem_of_mem hf
  have := h.2.1 i (List.mem_range.2 hi)
  unfold fileB at this
  rw [getD_atF hi] at this
  simp only [Bool.and_eq_true, Bool.not_eq_true', List.any_eq_false] at this
  have := this.2.2.2 g hg
  simpa using this
theorem repo_sumT {fs : List Fl} (h : repoB fs = true) : sumT fs ≤ 16384 := by
  unfold repoB at h
  simp only [Bool.and_eq_true, decide_eq_true_eq] at h
  exact h.2.2
theorem repo_of {fs : List Fl} (h1 : fs.length ≤ 16) (h2 : FsS fs) (h3 : ∀ f ∈ fs, pathB f.path = true ∧ f.text.size ≤ 4096) (h4 : ∀ f ∈ fs, ∀ g ∈ fs, preB g.path f.path = false) (h5 : sumT fs ≤ 16384) : repoB fs = true := by
  rw [repo_end h1 (fun j hj => ?_), decide_eq_true h5]
  unfold fileB
  rw [getD_atF hj]
  have hm := List.getElem_mem hj
  simp only [Bool.and_eq_true, Bool.not_eq_true', List.any_eq_false, Bool.or_eq_true, decide_eq_true_eq]
  refine ⟨(h3 _ hm).1, (h3 _ hm).2, ?_, fun g hg => by rw [h4 _ hm g hg]; decide⟩
  cases j with
  | zero => exact .inl rfl
  | succ j =>
    refine .inr ?_
    unfold lessB
    rw [getD_atF hj, Nat.add_sub_cancel, getD_atF (by omega)]
    exact fs_lt h2 hj (by omega)
theorem sumT_filter (P : Fl → Bool) (l : List Fl) : sumT (l.filter P) ≤ sumT l := by
  unfold sumT
  induction l with
  | nil => simp
  | cons f r ih =>
    by_cases h : P f = true
    · rw [List.filter_cons_of_pos h]; simp only [List.map_cons, List.sum_cons]; omega
    · rw [List.filter_cons_of_neg h]; simp only [List.map_cons, List.sum_cons]; omega
theorem repo_out {l : List Fl} (h : repoB l = true) (p : ByteArray) : repoB (outF l p) = true := by
  have hs : ∀ f, f ∈ outF l p → f ∈ l := fun f hf => (List.mem_filter.1 hf).1
  exact repo_of (Nat.le_trans (List.length_filter_le _ _) (repo_len h)) (outF_sorted (repo_sorted h)) (fun f hf => repo_mem h f (hs f hf)) (fun f hf g hg => repo_pre h f (hs f hf) g (hs g hg)) (Nat.le_trans (sumT_filter _ _) (repo_sumT h))
theorem bl_neq {a b : ByteArray} (h : a ≠ b) : (bl a b || bl b a) = true := by
  cases h1 : bl a b with
  | true => rfl
  | false =>
    cases h2 : bl b a with
    | true => rfl
    | false => exact absurd (bl_eq h1 h2) h
theorem getL_hit {f : Fl} {r : List Fl} {q : ByteArray} (h : f.path = q) : getL (f :: r) q = some f := List.find?_cons_of_pos (p := fun g : Fl => g.path.toList == q.toList) (beq_path.2 h)
theorem getL_miss {f : Fl} {r : List Fl} {q : ByteArray} (h : f.path ≠ q) : getL (f :: r) q = getL r q := List.find?_cons_of_neg (p := fun g : Fl => g.path.toList == q.toList) (by rw [nbeq_path.2 h]; decide)
theorem outF_eq {f : Fl} {r : List Fl} {p : ByteArray} (h : f.path = p) : outF (f :: r) p = outF r p := List.filter_cons_of_neg (p := fun g : Fl => bl g.path p || bl p g.path) (by rw [h, bl_irr]; decide)
theorem outF_ne {f : Fl} {r : List Fl} {p : ByteArray} (h : f.path ≠ p) : outF (f :: r) p = f :: outF r p := List.filter_cons_of_pos (p := fun g : Fl => bl g.path p || bl p g.path) (bl_neq h)
theorem get_out : ∀ (l : List Fl) (p q : ByteArray), getL (outF l p) q = if q = p then none else getL l q
  | [], p, q => by
    show (none : Option Fl) = if q = p then none else none
    split <;> rfl
  | f :: r, p, q => by
    have ih := get_out r p q
    by_cases hf : f.path = p
    · rw [outF_eq hf, ih]
      by_cases hq : q = p
      · rw [if_pos hq, if_pos hq]
      · rw [if_neg hq, if_neg hq, getL_miss (by rw [hf]; exact Ne.symm hq)]
    · rw [outF_ne hf]
      by_cases hfq : f.path = q
      · rw [getL_hit hfq, getL_hit hfq, if_neg (by rw [← hfq]; exact hf)]
      · rw [getL_miss hfq, getL_miss hfq, ih]
theorem get_filter (P : Fl → Bool) (q : ByteArray) : ∀ (l : List Fl) (h : ∀ f ∈ l, f.path = q → P f = true), getL (l.filter P) q = getL l q
  | [], _ => rfl
  | f :: r, h => by
    have ih := get_filter P q r fun g hg => h g (List.mem_cons_of_mem _ hg)
    by_cases hfq : f.path = q
    · rw [List.filter_cons_of_pos (h f (List.mem_cons_self ..) hfq), getL_hit hfq, getL_hit hfq]
    · by_cases hP : P f = true
      · rw [List.filter_cons_of_pos hP, getL_miss hfq, getL_miss hfq, ih]
      · rw [List.filter_cons_of_neg hP, getL_miss hfq, ih]
theorem get_filterN (P : Fl → Bool) (q : ByteArray) : ∀ (l : List Fl) (h : ∀ f ∈ l, f.path = q → P f = false), getL (l.filter P) q = none
  | [], _ => rfl
  | f :: r, h => by
    have ih := get_filterN P q r fun g hg => h g (List.mem_cons_of_mem _ hg)
    by_cases hP : P f = true
    · have hfq : f.path ≠ q := fun e => by rw [h f (List.mem_cons_self ..) e] at hP; cases hP
      rw [List.filter_cons_of_pos hP, getL_miss hfq, ih]
    · rw [List.filter_cons_of_neg hP, ih]
theorem get_ins (l : List Fl) (f : Fl) (q : ByteArray) : getL (insF l f) q = if q = f.path then some f else getL l q := by
  have e : getL (insF l f) q = ((getL (l.filter fun g => bl g.path f.path) q).or (getL (f :: l.filter fun g => bl f.path g.path) q)) := by
    unfold getL insF
    rw [List.find?_append]
  rw [e]
  by_cases hq : q = f.path
  · rw [if_pos hq, get_filterN _ _ _ (fun g _ hg => by rw [hg, hq, bl_irr]), getL_hit hq.symm]
    rfl
  · rw [if_neg hq, getL_miss (Ne.symm hq)]
    cases hb : bl q f.path with
    | true =>
      rw [get_filter _ _ _ (fun g _ hg => by rw [hg]; exact hb), get_filterN _ _ _ (fun g _ hg => by rw [hg]; exact bl_as hb), Option.or_none]
    | false =>
      have hb2 : bl f.path q = true := by
        cases h : bl f.path q with
        | true => rfl
        | false => exact absurd (bl_eq hb h) hq
      rw [get_filterN _ _ _ (fun g _ hg => by rw [hg]; exact hb), get_filter _ _ _ (fun g _ hg => by rw [hg]; exact hb2)]
      rfl
theorem mem_get {l : List Fl} (hs : FsS l) (f : Fl) : f ∈ l ↔ getL l f.path = some f := by
  constructor
  · intro h
    obtain ⟨i, hi, rfl⟩ := List.mem_iff_getElem.1 h
    exact getL_sorted hs hi
  · exact fun h => (get_path h).2
theorem fs_ext {r b : List Fl} (hr : FsS r) (hb : FsS b) (h : ∀ q, getL r q = getL b q) : r = b := by
  have hn : ∀ {l : List Fl}, FsS l → l.Nodup := fun hl => hl.imp fun hx e => by rw [e, bl_irr] at hx; cases hx
  have hnl : ∀ x y : ByteArray, nl x y = bl x y := fun x y => rfl
  refine sorted_uniq Fl.path (perm_of_mem (hn hr) (hn hb) fun f => by rw [mem_get hr, mem_get hb, h]) ?_ ?_
  · exact hr.imp fun hx => by rw [hnl]; exact bl_as hx
  · exact hb.imp fun hx => by rw [hnl]; exact hx
/-- Those that go. -/
def rmP (ds : List Dl) (q : ByteArray) : Prop := ∃ d ∈ ds, d.was = true ∧ d.is = false ∧ d.path = q
def isP (ds : List Dl) (q : ByteArray) : Prop := ∃ d ∈ ds, d.is = true ∧ d.path = q
structure Turn1 (a : List Fl) (ds : List Dl) (r : List Fl) : Prop where
  repo : repoB r = true
  gone : ∀ q, rmP ds q → getL r q = none
  left : ∀ q, ¬ rmP ds q → getL r q = getL a q
theorem Turn1.start {a : List Fl} (h : repoB a = true) : Turn1 a [] a := ⟨h, (fun q ⟨d, hd, _⟩ => by cases hd), fun q _ => rfl⟩
theorem rmP_snoc {ds : List Dl} {d : Dl} {q : ByteArray} : rmP (ds ++ [d]) q ↔ (rmP ds q ∨ (d.was = true ∧ d.is = false ∧ d.path = q)) := by
  constructor
  · rintro ⟨e, he, h⟩
    rcases List.mem_append.1 he with m | m
    · exact .inl ⟨e, m, h⟩
    · rw [List.mem_singleton.1 m] at h; exact .inr h
  · rintro (⟨e, he, h⟩ | h)
    · exact ⟨e, List.mem_append_left _ he, h⟩
    · exact ⟨d, by simp, h⟩
theorem Turn1.skip {a : List Fl} {ds : List Dl} {r : List Fl} (h : Turn1 a ds r) {d : Dl} (hd : ¬ (d.was = true ∧ d.is = false)) : Turn1 a (ds ++ [d]) r :=
  ⟨h.repo, (fun q hq => by
    rcases rmP_snoc.1 hq with m | ⟨m1, m2, _⟩
    · exact h.gone q m
    · exact absurd ⟨m1, m2⟩ hd), fun q hq => h.left q fun m => hq (rmP_snoc.2 (.inl m))⟩
theorem isSome_get {a : List Fl} {b : List Fl} {d : Dl} (hd : d = dlt a b d.path) (hw : d.was = true) : ∃ f, getL a d.path = some f := by
  rw [hd] at hw
  exact Option.isSome_iff_exists.1 hw
theorem Turn1.step {a b : List Fl} {ds : List Dl} {r : List Fl} (h : Turn1 a ds r) {d : Dl} (hw : d.was = true) (hi : d.is = false) (hd : d = dlt a b d.path) (hn : ∀ e ∈ ds, e.path ≠ d.path) :
    remV r d.path = (outF r d.path, 0) ∧ Turn1 a (ds ++ [d]) (outF r d.path) := by
  have hnr : ¬ rmP ds d.path := fun ⟨e, he, _, _, hp⟩ => hn e he hp
  obtain ⟨f, hf⟩ := isSome_get hd hw
  have hg := h.left _ hnr
  rw [hf] at hg
  refine ⟨by unfold remV; rw [if_neg (by rw [h.repo]; decide), hg], repo_out h.repo _, fun q hq => ?_, fun q hq => ?_⟩
  · rw [get_out]
    rcases rmP_snoc.1 hq with m | ⟨_, _, m⟩
    · split
      · rfl
      · exact h.gone q m
    · rw [if_pos m.symm]
  · rw [get_out, if_neg (fun e => hq (rmP_snoc.2 (.inr ⟨hw, hi, e.symm⟩)))]
    exact h.left q fun m => hq (rmP_snoc.2 (.inl m))
/-- The second round: over, or so far as b. -/
structure Turn2 (b r1 : List Fl) (ds : List Dl) (r : List Fl) : Prop where
  srt : FsS r
  new : ∀ q, isP ds q → getL r q = getL b q
  left : ∀ q, ¬ isP ds q → getL r q = getL r1 q
theorem isP_snoc {ds : List Dl} {d : Dl} {q : ByteArray} : isP (ds ++ [d]) q ↔ (isP ds q ∨ (d.is = true ∧ d.path = q)) := by
  constructor
  · rintro ⟨e, he, h⟩
    rcases List.mem_append.1 he with m | m
    · exact .inl ⟨e, m, h⟩
    · rw [List.mem_singleton.1 m] at h; exact .inr h
  · rintro (⟨e, he, h⟩ | h)
    · exact ⟨e, List.mem_append_left _ he, h⟩
    · exact ⟨d, by simp, h⟩
theorem Turn2.start {b r1 : List Fl} (h : FsS r1) : Turn2 b r1 [] r1 := ⟨h, (fun q ⟨d, hd, _⟩ => by cases hd), fun q _ => rfl⟩
theorem Turn2.skip {b r1 : List Fl} {ds : List Dl} {r : List Fl} (h : Turn2 b r1 ds r) {d : Dl} (hd : d.is = false) : Turn2 b r1 (ds ++ [d]) r :=
  ⟨h.srt, (fun q hq => by
    rcases isP_snoc.1 hq with m | ⟨m, _⟩
    · exact h.new q m
    · rw [hd] at m; cases m), fun q hq => h.left q fun m => hq (isP_snoc.2 (.inl m))⟩
theorem isSome_getB {a : List Fl} {b : List Fl} {d : Dl} (hd : d = dlt a b d.path) (hw : d.is = true) : getL b d.path = some ⟨d.path, d.new⟩ := by
  have h1 : (getL b d.path).isSome = true := by rw [hd] at hw; exact hw
  obtain ⟨f, hf⟩ := Option.isSome_iff_exists.1 h1
  have h2 : d.new = f.text := by
    have : d.new = tx (getL b d.path) := congrArg Dl.new hd
    rw [this, hf]; rfl
  rw [hf, h2]
  have := (get_path hf).1
  cases f
  simp only at this
  rw [this]
theorem Turn2.step {a b r1 : List Fl} {ds : List Dl} {r : List Fl} (h : Turn2 b r1 ds r) {d : Dl} (hi : d.is = true) (hd : d = dlt a b d.path) (hok : (putV r ⟨d.path, d.new⟩).2 = 0) :
    putV r ⟨d.path, d.new⟩ = (insF r ⟨d.path, d.new⟩, 0) ∧ Turn2 b r1 (ds ++ [d]) (insF r ⟨d.path, d.new⟩) := by
  have hp : putV r ⟨d.path, d.new⟩ = (insF r ⟨d.path, d.new⟩, 0) := by
    unfold putV at hok ⊢
    split at hok
    · cases hok
    · split at hok
      · cases hok
      · rename_i h1 h2
        rw [if_neg h1, if_neg h2]
  refine ⟨hp, insF_sorted h.srt, fun q hq => ?_, fun q hq => ?_⟩
  · rw [get_ins]
    by_cases e : q = d.path
    · rw [if_pos e, e, isSome_getB hd hi]
    · rw [if_neg e]
      rcases isP_snoc.1 hq with m | ⟨_, m⟩
      · exact h.new q m
      · exact absurd m.symm e
  · rw [get_ins, if_neg (fun e => hq (isP_snoc.2 (.inr ⟨hi, e.symm⟩)))]
    exact h.left q fun m => hq (isP_snoc.2 (.inl m))
theorem diff_of {a b : List Fl} : ∀ d ∈ diffL a b, d = dlt a b d.path ∧ dlB d = true := by
  intro d hd
  unfold diffL at hd
  obtain ⟨h1, h2⟩ := List.mem_filter.1 hd
  obtain ⟨f, _, rfl⟩ := List.mem_map.1 h1
  exact ⟨rfl, h2⟩
theorem diff_has {a b : List Fl} (q : ByteArray) (h : (∃ f, getL a q = some f) ∨ ∃ f, getL b q = some f) (hb : dlB (dlt a b q) = true) : dlt a b q ∈ diffL a b := by
  unfold diffL
  refine List.mem_filter.2 ⟨?_, hb⟩
  have : ∃ g ∈ allF a b, g.path = q := by
    unfold allF
    rw [fold_paths q b _ (fold_sorted a [] List.Pairwise.nil), fold_paths q a [] List.Pairwise.nil]
    rcases h with ⟨f, hf⟩ | ⟨f, hf⟩
    · exact .inr (.inl ⟨f, (get_path hf).2, (get_path hf).1⟩)
    · exact .inl ⟨f, (get_path hf).2, (get_path hf).1⟩
  obtain ⟨g, hg, rfl⟩ := this
  exact List.mem_map.2 ⟨g, hg, rfl⟩
theorem diff_paths {a b : List Fl} : (diffL a b).Pairwise fun x y => x.path ≠ y.path := by
  unfold diffL
  refine List.Pairwise.sublist List.filter_sublist ?_
  rw [List.pairwise_map]
  exact (allF_sorted a b).imp fun h => bl_ne h
/-- Both rounds lead to b. -/
theorem turned {a b r1 r : List Fl} (hb : FsS b) (h1 : Turn1 a (diffL a b) r1) (h2 : Turn2 b r1 (diffL a b) r) : r = b := by
  refine fs_ext h2.srt hb fun q => ?_
  by_cases hi : isP (diffL a b) q
  · exact h2.new q hi
  · rw [h2.left q hi]
    by_cases hr : rmP (diffL a b) q
    · rw [h1.gone q hr]
      obtain ⟨d, hd, _, hdi, rfl⟩ := hr
      obtain ⟨e, _⟩ := diff_of d hd
      rw [e] at hdi
      have : (getL b d.path).isSome = false := hdi
      rw [Option.isSome_eq_false_iff, Option.isNone_iff_eq_none] at this
      exact this.symm
    · rw [h1.left q hr]
      cases ha : getL a q with
      | none =>
        cases hbq : getL b q with
        | none => rfl
        | some g =>
          refine absurd ⟨dlt a b q, diff_has q (.inr ⟨g, hbq⟩) ?_, ?_, rfl⟩ hi
          · unfold dlB dlt; rw [ha, hbq]; rfl
          · show (getL b q).isSome = true; rw [hbq]; rfl
      | some f =>
        cases hbq : getL b q with
        | none =>
          refine absurd ⟨dlt a b q, diff_has q (.inl ⟨f, ha⟩) ?_, ?_, ?_, rfl⟩ hr
          · unfold dlB dlt; rw [ha, hbq]; rfl
          · show (getL a q).isSome = true; rw [ha]; rfl
          · show (getL b q).isSome = false; rw [hbq]; rfl
        | some g =>
          by_cases ht : f.text.toList = g.text.toList
          · have e1 := (get_path ha).1
            have e2 := (get_path hbq).1
            cases f
            cases g
            simp only at e1 e2 ht
            have e3 := beq_path.1 (beq_iff_eq.2 ht)
            rw [e1, e2, e3]
          · refine absurd ⟨dlt a b q, diff_has q (.inl ⟨f, ha⟩) ?_, ?_, rfl⟩ hi
            · unfold dlB dlt; rw [ha, hbq]
              show ((true != true) || (f.text.toList != g.text.toList)) = true
              simp [ht]
            · show (getL b q).isSome = true; rw [hbq]; rfl
theorem diff_self (a : List Fl) : diffL a a = [] := by
  unfold diffL
  rw [List.filter_eq_nil_iff]
  intro d hd
  obtain ⟨f, _, rfl⟩ := List.mem_map.1 hd
  unfold dlB dlt
  simp
end Go.Proofs.YtpadfabjihaapaaGreatDoor
