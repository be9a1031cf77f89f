/- Plain laws of merging: a base merged with itself; the two changed about. -/
import Derived.Test.YtpcpcjejdngllaaDoorMgF
namespace Go.Proofs.YtpcpcjejdngllaaDoor
open Go.RowKit
set_option linter.unusedVariables false
set_option linter.unusedSimpArgs false

theorem fsS_eq : ∀ {a b : List Fl}, FsS a → FsS b → (∀ x, x ∈ a ↔ x ∈ b) → a = b
  | [], [], _, _, _ => rfl
  | [], y :: b, _, _, h => absurd ((h y).2 (List.mem_cons_self ..)) (by simp)
  | x :: a, [], _, _, h => absurd ((h x).1 (List.mem_cons_self ..)) (by simp)
  | x :: a, y :: b, ha, hb, h => by
    have ha2 := List.pairwise_cons.1 ha
    have hb2 := List.pairwise_cons.1 hb
    have e : x = y := by
      rcases List.mem_cons.1 ((h x).1 (List.mem_cons_self ..)) with e | hx
      · exact e
      · rcases List.mem_cons.1 ((h y).2 (List.mem_cons_self ..)) with e | hy
        · exact e.symm
        · have h1 := hb2.1 x hx
          have h2 := ha2.1 y hy
          rw [bl_as h1] at h2
          cases h2
    subst e
    have : a = b := fsS_eq ha2.2 hb2.2 fun z => ⟨fun hz => by
      rcases List.mem_cons.1 ((h z).1 (List.mem_cons_of_mem _ hz)) with e | hz2
      · subst e; exact absurd rfl (bl_ne (ha2.1 z hz))
      · exact hz2, fun hz => by
      rcases List.mem_cons.1 ((h z).2 (List.mem_cons_of_mem _ hz)) with e | hz2
      · subst e; exact absurd rfl (bl_ne (hb2.1 z hz))
      · exact hz2⟩
    rw [this]
/-- What stands at paths. -/
def standL (m : ByteArray → Mb) (ps : List ByteArray) : List Fl := ps.flatMap fun p => if (m p).1 = true then [⟨p, (m p).2⟩] else []
theorem stand_mem {m : ByteArray → Mb} {ps : List ByteArray} {f : Fl} : f ∈ standL m ps ↔ f.path ∈ ps ∧ m f.path = (true, f.text) := by
  unfold standL
  rw [List.mem_flatMap]
  constructor
  · rintro ⟨p, hp, hf⟩
    split at hf
    · rename_i hm
      simp only [List.mem_cons, List.not_mem_nil, or_false] at hf
      subst hf
      exact ⟨hp, by rw [← hm]⟩
    · cases hf
  · rintro ⟨hp, hm⟩
    refine ⟨f.path, hp, ?_⟩
    rw [hm]
    simp
theorem stand_sorted {m : ByteArray → Mb} : ∀ {ps : List ByteArray}, PsS ps → FsS (standL m ps)
  | [], _ => List.Pairwise.nil
  | p :: ps, h => by
    have h2 := List.pairwise_cons.1 h
    have ih := stand_sorted (m := m) h2.2
    have e : standL m (p :: ps) = (if (m p).1 = true then [⟨p, (m p).2⟩] else []) ++ standL m ps := rfl
    rw [e]
    split
    · refine List.pairwise_cons.2 ⟨fun g hg => ?_, ih⟩
      exact h2.1 g.path (stand_mem.1 hg).1
    · exact ih
theorem getL_path {l : List Fl} {p : ByteArray} {f : Fl} (h : getL l p = some f) : f.path = p := by
  have := List.find?_some h
  exact beq_path.1 this
theorem atM_iff {l : List Fl} (hs : FsS l) {f : Fl} : atM l f.path = (true, f.text) ↔ f ∈ l := by
  constructor
  · intro h
    unfold atM at h
    cases hg : getL l f.path with
    | none => rw [hg] at h; simp at h
    | some g =>
      rw [hg] at h
      simp only [Prod.mk.injEq, true_and] at h
      have h1 := getL_path hg
      have : g = f := by cases g; cases f; simp_all
      rw [← this]
      exact getL_mem hg
  · intro h
    obtain ⟨i, hi, rfl⟩ := List.getElem_of_mem h
    unfold atM
    rw [getL_sorted hs hi]
theorem stand_at {l : List Fl} {ps : List ByteArray} (hs : FsS l) (hp : PsS ps) (h : ∀ f ∈ l, f.path ∈ ps) : standL (atM l) ps = l :=
  fsS_eq (stand_sorted hp) hs fun f => by
    rw [stand_mem, atM_iff hs]
    exact ⟨fun h => h.2, fun hf => ⟨h f hf, hf⟩⟩
theorem cls_no {f0 f1 f2 : List Fl} {ps : List ByteArray} (h : ∀ p ∈ ps, clashM (atM f0 p) (atM f1 p) (atM f2 p) = false) : clsL (trosL f0 f1 f2 ps) = [] := by
  unfold clsL trosL
  rw [List.filter_eq_nil_iff]
  intro x hx
  obtain ⟨p, hp, rfl⟩ := List.mem_map.1 hx
  show ¬ clashM _ _ _ = true
  rw [h p hp]
  decide
theorem mgd_stand {f0 f1 f2 : List Fl} : ∀ {ps : List ByteArray}, (∀ p ∈ ps, clashM (atM f0 p) (atM f1 p) (atM f2 p) = false) → mgdL (trosL f0 f1 f2 ps) = standL (fun p => mergedM (atM f0 p) (atM f1 p) (atM f2 p)) ps
  | [], _ => rfl
  | p :: ps, h => by
    have ih := mgd_stand (ps := ps) fun q hq => h q (List.mem_cons_of_mem _ hq)
    have e1 : mgdL (trosL f0 f1 f2 (p :: ps)) = (if clashM (atM f0 p) (atM f1 p) (atM f2 p) = true then [] else if (mergedM (atM f0 p) (atM f1 p) (atM f2 p)).1 = true then [⟨p, (mergedM (atM f0 p) (atM f1 p) (atM f2 p)).2⟩] else []) ++ mgdL (trosL f0 f1 f2 ps) := rfl
    rw [e1, ih, h p (List.mem_cons_self ..), if_neg (by decide)]
    rfl
theorem stand_congr {m m' : ByteArray → Mb} {ps : List ByteArray} (h : ∀ p ∈ ps, m p = m' p) : standL m ps = standL m' ps := by
  induction ps with
  | nil => rfl
  | cons p ps ih =>
    have e : ∀ m : ByteArray → Mb, standL m (p :: ps) = (if (m p).1 = true then [⟨p, (m p).2⟩] else []) ++ standL m ps := fun _ => rfl
    rw [e, e, h p (List.mem_cons_self ..), ih fun q hq => h q (List.mem_cons_of_mem _ hq)]
theorem path_in {fss : List (List Fl)} {fs : List Fl} (h : fs ∈ fss) : ∀ f ∈ fs, f.path ∈ pathsL fss := fun f hf => (pathsL_mem _ _).2 (List.mem_flatMap.2 ⟨fs, h, List.mem_map.2 ⟨f, hf, rfl⟩⟩)
theorem merge_none {f0 f1 f2 r : List Fl} (h0 : repoB f0 = true) (h1 : repoB f1 = true) (h2 : repoB f2 = true) (hr : repoB r = true) (hc : ∀ p ∈ pathsL [f0, f1, f2], clashM (atM f0 p) (atM f1 p) (atM f2 p) = false)
    (hm : ∀ p ∈ pathsL [f0, f1, f2], mergedM (atM f0 p) (atM f1 p) (atM f2 p) = atM r p) (hp : ∀ f ∈ r, f.path ∈ pathsL [f0, f1, f2]) : mergeL f0 f1 f2 = (r, [], 0) := by
  have e1 : clsL (trosM f0 f1 f2) = [] := cls_no hc
  have e2 : mgdL (trosM f0 f1 f2) = r := by
    unfold trosM
    rw [mgd_stand hc, stand_congr hm]
    exact stand_at (repo_sorted hr) (pathsL_sorted _) hp
  unfold mergeL
  rw [e1, e2, h0, h1, h2, if_neg (by decide), if_neg (by simp), if_neg (by rw [hr]; decide)]
theorem clash_02 (a b : Mb) : clashM a b a = false := by unfold clashM; simp
theorem clash_01 (a b : Mb) : clashM a a b = false := by unfold clashM; simp
theorem clash_12 (a b : Mb) : clashM a b b = false := by unfold clashM; simp
theorem merged_02 (a b : Mb) : mergedM a b a = b := by
  unfold mergedM
  split
  · rename_i h; exact (of_decide_eq_true h).symm
  · rfl
theorem merged_01 (a b : Mb) : mergedM a a b = b := by unfold mergedM; simp
theorem merged_12 (a b : Mb) : mergedM a b b = b := by unfold mergedM; split <;> rfl
theorem merge_self {f0 f1 : List Fl} (h0 : repoB f0 = true) (h1 : repoB f1 = true) : mergeL f0 f1 f0 = (f1, [], 0) ∧ mergeL f0 f0 f1 = (f1, [], 0) ∧ mergeL f0 f1 f1 = (f1, [], 0) :=
  ⟨merge_none h0 h1 h0 h1 (fun _ _ => clash_02 _ _) (fun _ _ => merged_02 _ _) (path_in (by simp)),
   merge_none h0 h0 h1 h1 (fun _ _ => clash_01 _ _) (fun _ _ => merged_01 _ _) (path_in (by simp)),
   merge_none h0 h1 h1 h1 (fun _ _ => clash_12 _ _) (fun _ _ => merged_12 _ _) (path_in (by simp))⟩
theorem merge_bad {f0 f1 f2 : List Fl} (h : (repoB f0 && (repoB f1 && repoB f2)) = false) : mergeL f0 f1 f2 = ([], [], 170) := by unfold mergeL; rw [if_pos h]

/-- The two changed about. -/
def turnT (x : Tr) : Tr := (x.1, x.2.1, x.2.2.2, x.2.2.1)
theorem clash_turn (a b c : Mb) : clashM a c b = clashM a b c := by
  unfold clashM
  have : decide (c = b) = decide (b = c) := by rw [Bool.eq_iff_iff, decide_eq_true_iff, decide_eq_true_iff]; exact eq_comm
  rw [this]
  cases decide (a = b) <;> cases decide (a = c) <;> rfl
theorem merged_turn {a b c : Mb} (h : clashM a b c = false) : mergedM a c b = mergedM a b c := by
  unfold mergedM
  unfold clashM at h
  by_cases h1 : b = a
  · subst h1
    by_cases h2 : c = b
    · subst h2; simp
    · simp [h2]
  · by_cases h2 : c = a
    · subst h2
      simp [h1]
    · have h3 : b = c := by
        have e1 : decide (a = b) = false := decide_eq_false (fun e => h1 e.symm)
        have e2 : decide (a = c) = false := decide_eq_false (fun e => h2 e.symm)
        rw [e1, e2] at h
        simpa using h
      subst h3
      simp
theorem paths_turn (f0 f1 f2 : List Fl) : pathsL [f0, f2, f1] = pathsL [f0, f1, f2] :=
  psS_eq (pathsL_sorted _) (pathsL_sorted _) fun x => by
    rw [pathsL_mem, pathsL_mem]
    simp only [allP, List.flatMap_cons, List.flatMap_nil, List.append_nil, List.mem_append]
    constructor
    · rintro (h | h | h)
      · exact .inl h
      · exact .inr (.inr h)
      · exact .inr (.inl h)
    · rintro (h | h | h)
      · exact .inl h
      · exact .inr (.inr h)
      · exact .inr (.inl h)
theorem tros_turn (f0 f1 f2 : List Fl) : trosM f0 f2 f1 = (trosM f0 f1 f2).map turnT := by
  unfold trosM trosL
  rw [paths_turn, List.map_map]
  rfl
theorem cls_turn (xs : List Tr) : clsL (xs.map turnT) = (clsL xs).map turnT := by
  unfold clsL
  rw [List.filter_map]
  congr 1
  refine List.filter_congr fun x _ => ?_
  exact clash_turn _ _ _
theorem mgd_turn : ∀ (xs : List Tr), mgdL (xs.map turnT) = mgdL xs
  | [] => rfl
  | x :: xs => by
    have ih := mgd_turn xs
    have e : ∀ (y : Tr) (ys : List Tr), mgdL (y :: ys) = (if isCl y = true then [] else if (mgOf y).1 = true then [⟨y.1, (mgOf y).2⟩] else []) ++ mgdL ys := fun y ys => by unfold mgdL; rw [List.flatMap_cons]
    rw [List.map_cons, e, e, ih]
    have h1 : isCl (turnT x) = isCl x := clash_turn _ _ _
    rw [h1]
    cases hc : isCl x with
    | true => rfl
    | false =>
      have h2 : mgOf (turnT x) = mgOf x := merged_turn hc
      rw [h2]
      rfl
theorem merge_turn (f0 f1 f2 : List Fl) : mergeL f0 f2 f1 = ((mergeL f0 f1 f2).1, (mergeL f0 f1 f2).2.1.map turnT, (mergeL f0 f1 f2).2.2) := by
  have hb : (repoB f0 && (repoB f2 && repoB f1)) = (repoB f0 && (repoB f1 && repoB f2)) := by rw [Bool.and_comm (repoB f2)]
  unfold mergeL
  rw [tros_turn, cls_turn, mgd_turn, hb, List.length_map]
  split
  · rfl
  · split
    · rfl
    · split <;> rfl
end Go.Proofs.YtpcpcjejdngllaaDoor
