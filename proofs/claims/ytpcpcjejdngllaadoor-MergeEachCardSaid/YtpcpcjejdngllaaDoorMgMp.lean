/- Plain laws: a map of numbers at paths; what a merge changes. -/
import Derived.Test.YtpcpcjejdngllaaDoorMgQ
import Derived.Test.YtpcpcjejdngllaaDoorMgF
import Derived.Maps.OwnSet
namespace Go.Proofs.YtpcpcjejdngllaaDoor
open Go.RowKit Go.Maps
set_option linter.unusedVariables false
set_option linter.unusedSimpArgs false

def Kp (p : ByteArray) : Lit := .string p.data.toList
theorem Kp_inj {p q : ByteArray} (h : Kp p = Kp q) : p = q := by
  unfold Kp at h
  injection h with h
  exact ByteArray.ext (Array.toList_inj.1 h)
theorem Kp_key (p : ByteArray) : WideAt.IsKeyLit (Kp p) := by unfold Kp; constructor
open scoped Classical in
/-- A map that reads as numbers at paths: the paths that are there, once each; the numbers. -/
structure MapV (D : DataW Unit) (L : List ByteArray) (f : ByteArray → Int) : Prop where
  tidy : Tidy D
  nodup : L.Nodup
  has : ∀ p, Maps.has D (Kp p) = decide (p ∈ L)
  val : ∀ p, D.atKey (Kp p) (.lit (.int .i64 0)) = .lit (.int .i64 (f p))
  size : Maps.size D = L.length
open scoped Classical in
theorem MapV.empty : MapV (.map []) [] (fun _ => 0) :=
  ⟨tidy_empty, List.nodup_nil, fun p => by rw [decide_eq_false (by simp)]; rfl, fun p => rfl, rfl⟩
open scoped Classical in
theorem MapV.put {D : DataW Unit} {L : List ByteArray} {f : ByteArray → Int} (h : MapV D L f) (x : ByteArray) (c : Int) :
    MapV (D.put (Kp x) (.lit (.int .i64 c))) (if x ∈ L then L else x :: L) (fun p => if p = x then c else f p) := by
  refine ⟨h.tidy.put (Kp_key x) _, ?_, fun p => ?_, fun p => ?_, ?_⟩
  · split
    · exact h.nodup
    · rename_i hx; exact List.nodup_cons.2 ⟨hx, h.nodup⟩
  · by_cases e : p = x
    · subst e
      rw [has_put_same h.tidy.isMap (Kp_key p)]
      split
      · rename_i hx; exact (decide_eq_true hx).symm
      · exact (decide_eq_true (List.mem_cons_self ..)).symm
    · rw [has_put_other (fun q => e (Kp_inj q)), h.has]
      split
      · rfl
      · rw [Bool.eq_iff_iff, decide_eq_true_iff, decide_eq_true_iff, List.mem_cons]
        exact ⟨.inr, fun q => q.resolve_left e⟩
  · by_cases e : p = x
    · subst e
      rw [if_pos rfl, atKey_put_same h.tidy.isMap (Kp_key p)]
    · rw [if_neg e, atKey_put_other (fun q => e (Kp_inj q)), h.val]
  · rw [size_put h.tidy, h.has, h.size]
    by_cases hx : x ∈ L
    · rw [decide_eq_true hx, if_pos rfl, if_pos hx]
    · rw [decide_eq_false hx, if_neg (by decide), if_neg hx, List.length_cons]
theorem nodup_len {a b : List ByteArray} (ha : a.Nodup) (hb : b.Nodup) (h : ∀ x, x ∈ a ↔ x ∈ b) : a.length = b.length :=
  ((List.perm_ext_iff_of_nodup ha hb).2 h).length_eq
theorem psS_nodup {l : List ByteArray} (h : PsS l) : l.Nodup := h.imp fun {a b} q e => by subst e; rw [bl_irr] at q; cases q
/-- The paths where two differ. -/
def chL (f0 f1 : List Fl) : List ByteArray := (pathsL [f0, f1]).filter (fun p => !decide (atM f0 p = atM f1 p))
theorem chL_nodup (f0 f1 : List Fl) : (chL f0 f1).Nodup := (psS_nodup (pathsL_sorted _)).filter _
theorem atM_no_path {l : List Fl} {p : ByteArray} (h : ∀ f ∈ l, f.path ≠ p) : atM l p = (false, ByteArray.empty) := by
  refine atM_no (getL_no fun j hj => nbeq_path.2 fun e => ?_)
  exact h _ (List.getElem_mem hj) e
theorem chL_mem (f0 f1 : List Fl) (p : ByteArray) : p ∈ chL f0 f1 ↔ atM f0 p ≠ atM f1 p := by
  unfold chL
  rw [List.mem_filter, pathsL_mem]
  constructor
  · rintro ⟨_, h⟩
    simpa using h
  · intro h
    refine ⟨?_, by simpa using h⟩
    apply Classical.byContradiction
    intro hn
    have h0 : ∀ fs ∈ [f0, f1], ∀ f ∈ fs, f.path ≠ p := fun fs hfs f hf e => hn (List.mem_flatMap.2 ⟨fs, hfs, List.mem_map.2 ⟨f, hf, e⟩⟩)
    exact h (by rw [atM_no_path (h0 f0 (by simp)), atM_no_path (h0 f1 (by simp))])
theorem mgd_st {f0 f1 f2 : List Fl} (hc : ¬ 0 < (clsL (trosM f0 f1 f2)).length) : mgdL (trosM f0 f1 f2) = standL (fun p => mergedM (atM f0 p) (atM f1 p) (atM f2 p)) (pathsL [f0, f1, f2]) := by
  have h0 : clsL (trosM f0 f1 f2) = [] := List.eq_nil_of_length_eq_zero (by omega)
  have hall : ∀ p ∈ pathsL [f0, f1, f2], clashM (atM f0 p) (atM f1 p) (atM f2 p) = false := by
    intro p hp
    cases h : clashM (atM f0 p) (atM f1 p) (atM f2 p) with
    | false => rfl
    | true =>
      have : (p, atM f0 p, atM f1 p, atM f2 p) ∈ clsL (trosM f0 f1 f2) := by
        unfold clsL trosM trosL
        rw [List.mem_filter]
        exact ⟨List.mem_map.2 ⟨p, hp, rfl⟩, h⟩
      rw [h0] at this
      cases this
  exact mgd_stand hall
/-- What stands in a merge without clashes. -/
theorem merge_at {f0 f1 f2 R : List Fl} (hm : mergeL f0 f1 f2 = (R, [], 0)) (p : ByteArray) : atM R p = mergedM (atM f0 p) (atM f1 p) (atM f2 p) ∧ clashM (atM f0 p) (atM f1 p) (atM f2 p) = false ∧ repoB R = true ∧ (repoB f0 && (repoB f1 && repoB f2)) = true := by
  unfold mergeL at hm
  split at hm
  · simp only [Prod.mk.injEq] at hm
    have := hm.2.2
    cases this
  · rename_i hr
    split at hm
    · rename_i hc
      simp only [Prod.mk.injEq] at hm
      rw [hm.2.1] at hc
      simp at hc
    · rename_i hc
      split at hm
      · simp only [Prod.mk.injEq] at hm
        have := hm.2.2
        cases this
      · rename_i hrr
        simp only [Prod.mk.injEq] at hm
        obtain ⟨rfl, -, -⟩ := hm
        have hall : ∀ q, clashM (atM f0 q) (atM f1 q) (atM f2 q) = false := by
          intro q
          cases h : clashM (atM f0 q) (atM f1 q) (atM f2 q) with
          | false => rfl
          | true =>
            by_cases hq : q ∈ pathsL [f0, f1, f2]
            · have : (q, atM f0 q, atM f1 q, atM f2 q) ∈ clsL (trosM f0 f1 f2) := by
                unfold clsL trosM trosL
                rw [List.mem_filter]
                exact ⟨List.mem_map.2 ⟨q, hq, rfl⟩, h⟩
              exact absurd (List.length_pos_of_mem this) hc
            · rw [pathsL_mem] at hq
              have h0 : ∀ fs ∈ [f0, f1, f2], ∀ f ∈ fs, f.path ≠ q := fun fs hfs f hf e => hq (List.mem_flatMap.2 ⟨fs, hfs, List.mem_map.2 ⟨f, hf, e⟩⟩)
              rw [atM_no_path (h0 f0 (by simp)), atM_no_path (h0 f1 (by simp)), atM_no_path (h0 f2 (by simp))] at h
              rw [clash_01] at h
              cases h
        refine ⟨?_, hall p, by simpa using hrr, by simpa using hr⟩
        rw [mgd_st hc]
        have hsort := stand_sorted (m := fun p => mergedM (atM f0 p) (atM f1 p) (atM f2 p)) (pathsL_sorted [f0, f1, f2])
        by_cases hq : p ∈ pathsL [f0, f1, f2]
        · cases hmp : mergedM (atM f0 p) (atM f1 p) (atM f2 p) with
          | mk b t =>
            cases b with
            | true =>
              have : (⟨p, t⟩ : Fl) ∈ standL (fun p => mergedM (atM f0 p) (atM f1 p) (atM f2 p)) (pathsL [f0, f1, f2]) := stand_mem.2 ⟨hq, hmp⟩
              exact (atM_iff hsort (f := ⟨p, t⟩)).2 this
            | false =>
              have ht : t = ByteArray.empty := by
                have h1 : ∀ l : List Fl, ∀ s, atM l p = (false, s) → s = ByteArray.empty := by
                  intro l s h
                  unfold atM at h
                  split at h
                  · simp at h
                  · simp only [Prod.mk.injEq, true_and] at h; exact h.symm
                unfold mergedM at hmp
                split at hmp
                · exact h1 _ _ hmp
                · exact h1 _ _ hmp
              subst ht
              refine atM_no_path fun f hf e => ?_
              have := (stand_mem.1 hf).2
              rw [e, hmp] at this
              cases this
        · have hq2 := hq
          rw [pathsL_mem] at hq2
          have h0 : ∀ fs ∈ [f0, f1, f2], ∀ f ∈ fs, f.path ≠ p := fun fs hfs f hf e => hq2 (List.mem_flatMap.2 ⟨fs, hfs, List.mem_map.2 ⟨f, hf, e⟩⟩)
          rw [atM_no_path (h0 f0 (by simp)), atM_no_path (h0 f1 (by simp)), atM_no_path (h0 f2 (by simp)), merged_01]
          refine atM_no_path fun f hf e => ?_
          exact hq (by rw [← e]; exact (stand_mem.1 hf).1)
/-- A merge changes just what one of the two changes; and as that one does. -/
theorem merge_changes {f0 f1 f2 R : List Fl} (hm : mergeL f0 f1 f2 = (R, [], 0)) (p : ByteArray) :
    (p ∈ chL f0 R ↔ p ∈ chL f0 f1 ∨ p ∈ chL f0 f2) ∧ (p ∈ chL f0 f1 → atM R p = atM f1 p) ∧ (p ∈ chL f0 f2 → atM R p = atM f2 p) := by
  obtain ⟨h1, h2, _⟩ := merge_at hm p
  rw [chL_mem, chL_mem, chL_mem, h1]
  generalize atM f0 p = a at *
  generalize atM f1 p = b at *
  generalize atM f2 p = c at *
  unfold mergedM
  unfold clashM at h2
  by_cases e1 : a = b
  · subst e1
    simp
  · have e1' : b ≠ a := fun e => e1 e.symm
    by_cases e2 : a = c
    · subst e2
      simp [e1, e1']
    · have e3 : b = c := by
        rw [decide_eq_false e1, decide_eq_false e2] at h2
        simpa using h2
      subst e3
      simp [e1, e1']
end Go.Proofs.YtpcpcjejdngllaaDoor
