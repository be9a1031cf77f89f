/- What differs, plain. -/
import Derived.Test.YtpadfabjihaapaaGreatDoorDfA
namespace Go.Proofs.YtpadfabjihaapaaGreatDoor
open Go.RowKit
set_option linter.unusedVariables false
set_option linter.unusedSimpArgs false

theorem perm_of_mem {α : Type} [DecidableEq α] : ∀ {l1 l2 : List α}, l1.Nodup → l2.Nodup → (∀ x, x ∈ l1 ↔ x ∈ l2) → l1.Perm l2
  | [], l2, _, _, h => by
    cases l2 with
    | nil => exact List.Perm.refl _
    | cons y s => exact absurd ((h y).2 (List.mem_cons_self ..)) (by simp)
  | x :: r, l2, h1, h2, h => by
    have hx : x ∈ l2 := (h x).1 (List.mem_cons_self ..)
    have h1' := List.nodup_cons.1 h1
    refine List.Perm.trans (List.Perm.cons x (perm_of_mem h1'.2 (h2.erase x) fun y => ?_)) (List.perm_cons_erase hx).symm
    rw [h2.mem_erase_iff]
    constructor
    · intro hy
      exact ⟨fun e => h1'.1 (e ▸ hy), (h y).1 (List.mem_cons_of_mem _ hy)⟩
    · rintro ⟨hne, hy⟩
      rcases List.mem_cons.1 ((h y).2 hy) with q | q
      · exact absurd q hne
      · exact q
/-- All files of both, rising. -/
def allF (a b : List Fl) : List Fl := b.foldl withL (a.foldl withL [])
def diffL (a b : List Fl) : List Dl := ((allF a b).map fun f => dlt a b f.path).filter dlB
def notIn (a : List Fl) (f : Fl) : Bool := (getL a f.path).isNone
def rawL (a b : List Fl) : List Dl := (a.map fun f => dlt a b f.path) ++ ((b.filter (notIn a)).map fun f => dlt a b f.path)
theorem fold_sorted : ∀ (l a : List Fl), FsS a → FsS (l.foldl withL a)
  | [], a, h => h
  | f :: r, a, h => by
    rw [List.foldl_cons]
    exact fold_sorted r _ (by rw [withL_ins f h]; exact insF_sorted h)
theorem ins_paths {l : List Fl} {f : Fl} (p : ByteArray) : (∃ g ∈ insF l f, g.path = p) ↔ (p = f.path ∨ ∃ g ∈ l, g.path = p) := by
  constructor
  · rintro ⟨g, hg, rfl⟩
    rcases insF_mem hg with rfl | q
    · exact .inl rfl
    · exact .inr ⟨g, q, rfl⟩
  · rintro (rfl | ⟨g, hg, rfl⟩)
    · exact ⟨f, by unfold insF; simp, rfl⟩
    · unfold insF
      cases h1 : bl g.path f.path with
      | true => exact ⟨g, List.mem_append_left _ (List.mem_filter.2 ⟨hg, h1⟩), rfl⟩
      | false =>
        cases h2 : bl f.path g.path with
        | true => exact ⟨g, List.mem_append_right _ (List.mem_cons_of_mem _ (List.mem_filter.2 ⟨hg, h2⟩)), rfl⟩
        | false => exact ⟨f, by simp, (bl_eq h1 h2).symm⟩
theorem fold_paths (p : ByteArray) : ∀ (l a : List Fl), FsS a → ((∃ g ∈ l.foldl withL a, g.path = p) ↔ ((∃ g ∈ l, g.path = p) ∨ ∃ g ∈ a, g.path = p))
  | [], a, h => by simp
  | f :: r, a, h => by
    rw [List.foldl_cons]
    have hs : FsS (withL a f) := by rw [withL_ins f h]; exact insF_sorted h
    rw [fold_paths p r _ hs, withL_ins f h, ins_paths]
    constructor
    · rintro (⟨g, hg, e⟩ | e | ⟨g, hg, e⟩)
      · exact .inl ⟨g, List.mem_cons_of_mem _ hg, e⟩
      · exact .inl ⟨f, List.mem_cons_self .., e.symm⟩
      · exact .inr ⟨g, hg, e⟩
    · rintro (⟨g, hg, e⟩ | ⟨g, hg, e⟩)
      · rcases List.mem_cons.1 hg with rfl | q
        · exact .inr (.inl e.symm)
        · exact .inl ⟨g, q, e⟩
      · exact .inr (.inr ⟨g, hg, e⟩)
theorem paths_nodup {l : List Fl} (h : FsS l) : (l.map (·.path)).Nodup := by
  unfold List.Nodup
  rw [List.pairwise_map]
  exact h.imp fun hb => bl_ne hb
theorem allF_sorted (a b : List Fl) : FsS (allF a b) := fold_sorted b _ (fold_sorted a [] List.Pairwise.nil)
theorem raw_perm {a b : List Fl} (sa : FsS a) (sb : FsS b) : (rawL a b).Perm ((allF a b).map fun f => dlt a b f.path) := by
  have e : rawL a b = ((a.map (·.path)) ++ ((b.filter (notIn a)).map (·.path))).map (dlt a b) := by
    unfold rawL
    rw [List.map_append, List.map_map, List.map_map]
    rfl
  have e2 : ((allF a b).map fun f => dlt a b f.path) = ((allF a b).map (·.path)).map (dlt a b) := by rw [List.map_map]; rfl
  rw [e, e2]
  refine List.Perm.map _ (perm_of_mem ?_ (paths_nodup (allF_sorted a b)) fun p => ?_)
  · rw [List.nodup_append]
    refine ⟨paths_nodup sa, paths_nodup (List.Pairwise.sublist List.filter_sublist sb), ?_⟩
    intro x hx y hy e
    subst e
    obtain ⟨g, hg, rfl⟩ := List.mem_map.1 hx
    obtain ⟨k, hk, he⟩ := List.mem_map.1 hy
    have hn := (List.mem_filter.1 hk).2
    unfold notIn at hn
    rw [he] at hn
    obtain ⟨i, hi, rfl⟩ := List.mem_iff_getElem.1 hg
    rw [getL_sorted sa hi] at hn
    cases hn
  · have h1 := fold_paths p b (a.foldl withL []) (fold_sorted a [] List.Pairwise.nil)
    have h2 := fold_paths p a [] List.Pairwise.nil
    constructor
    · intro hp
      have : ∃ g ∈ allF a b, g.path = p := by
        unfold allF
        rw [h1, h2]
        rcases List.mem_append.1 hp with q | q
        · obtain ⟨g, hg, e⟩ := List.mem_map.1 q
          exact .inr (.inl ⟨g, hg, e⟩)
        · obtain ⟨g, hg, e⟩ := List.mem_map.1 q
          exact .inl ⟨g, (List.mem_filter.1 hg).1, e⟩
      obtain ⟨g, hg, e⟩ := this
      exact List.mem_map.2 ⟨g, hg, e⟩
    · intro hp
      obtain ⟨g, hg, e⟩ := List.mem_map.1 hp
      have h3 : ∃ g ∈ b.foldl withL (a.foldl withL []), g.path = p := ⟨g, hg, e⟩
      rw [h1, h2] at h3
      have hA : (∃ g ∈ a, g.path = p) → p ∈ a.map (·.path) ++ (b.filter (notIn a)).map (·.path) := fun ⟨k, hk, e⟩ => List.mem_append_left _ (List.mem_map.2 ⟨k, hk, e⟩)
      rcases h3 with ⟨k, hk, e⟩ | q | ⟨k, hk, _⟩
      · cases hn : notIn a k with
        | true => exact List.mem_append_right _ (List.mem_map.2 ⟨k, List.mem_filter.2 ⟨hk, hn⟩, e⟩)
        | false =>
          unfold notIn at hn
          cases hg2 : getL a k.path with
          | none => rw [hg2] at hn; cases hn
          | some x => exact hA ⟨x, (get_path hg2).2, by rw [(get_path hg2).1, e]⟩
      · exact hA q
      · cases hk
/-- What the sort makes of it is what the document tells. -/
theorem diff_sorted {a b : List Fl} (sa : FsS a) (sb : FsS b) {ds : List Dl} (hp : ds.Perm ((rawL a b).filter dlB)) (hs : ds.Pairwise (fun x y => nl y.path x.path = false)) : ds = diffL a b := by
  refine sorted_uniq Dl.path (hp.trans ?_) hs ?_
  · unfold diffL
    exact (raw_perm sa sb).filter _
  · unfold diffL
    refine List.Pairwise.sublist List.filter_sublist ?_
    rw [List.pairwise_map]
    exact (allF_sorted a b).imp fun h => h
theorem allF_len (a b : List Fl) : (allF a b).length ≤ a.length + b.length := by
  have h1 : ∀ (l a : List Fl), FsS a → (l.foldl withL a).length ≤ l.length + a.length := by
    intro l
    induction l with
    | nil => intro a _; simp
    | cons f r ih =>
      intro a h
      rw [List.foldl_cons]
      have hs : FsS (withL a f) := by rw [withL_ins f h]; exact insF_sorted h
      have h2 := ih _ hs
      have h3 : (withL a f).length ≤ a.length + 1 := by
        rw [withL_ins f h]
        unfold insF
        rw [List.length_append, List.length_cons]
        have : (a.filter fun g => bl g.path f.path).length + (a.filter fun g => bl f.path g.path).length ≤ a.length := by
          clear h2 h hs ih
          induction a with
          | nil => simp
          | cons x s ih =>
            cases h1 : bl x.path f.path with
            | true => rw [List.filter_cons_of_pos (by rw [h1]), List.filter_cons_of_neg (by rw [bl_as h1]; decide)]; simp; omega
            | false =>
              rw [List.filter_cons_of_neg (by rw [h1]; decide)]
              have := List.length_filter_le (fun g : Fl => bl f.path g.path) [x]
              rw [← List.singleton_append, List.filter_append, List.length_append, List.length_append]
              simp only [List.length_singleton] at this ⊢
              omega
        omega
      rw [List.length_cons]
      omega
  unfold allF
  have h2 := h1 a [] List.Pairwise.nil
  have h3 := h1 b _ (fold_sorted a [] List.Pairwise.nil)
  simp only [List.length_nil] at h2
  omega
end Go.Proofs.YtpadfabjihaapaaGreatDoor
