/- What a move leaves, and what moving back leaves; plain. -/
import Derived.Test.YtglcjdiejnennaaGreatDoorRfL
import Derived.Test.YtglcjdiejnennaaGreatDoorOpn
import Derived.Test.YtglcjdiejnennaaGreatDoorRfI
import Derived.Test.YtglcjdiejnennaaGreatDoorHpI
import Derived.Deep.DeepCutAuto
import Derived.Test.YtglcjdiejnennaaGreatDoorRegG
import Derived.Test.YtglcjdiejnennaaGreatDoorRegC
import Derived.Test.YtglcjdiejnennaaGreatDoorRegP
namespace Go.Proofs.YtglcjdiejnennaaGreatDoor
open Go.RowKit
set_option linter.unusedVariables false
set_option linter.unusedSimpArgs false

theorem rs_ext : ∀ l1 l2 : List Rf, RsS l1 → RsS l2 → (∀ e, e ∈ l1 ↔ e ∈ l2) → l1 = l2
  | [], [], _, _, _ => rfl
  | [], b :: r, _, _, h => absurd ((h b).2 (List.mem_cons_self ..)) (by simp)
  | a :: r, [], _, _, h => absurd ((h a).1 (List.mem_cons_self ..)) (by simp)
  | a :: r1, b :: r2, h1, h2, h => by
    obtain ⟨a1, p1⟩ := List.pairwise_cons.1 h1
    obtain ⟨a2, p2⟩ := List.pairwise_cons.1 h2
    have hab : a = b := by
      rcases List.mem_cons.1 ((h a).1 (List.mem_cons_self ..)) with e | e
      · exact e
      rcases List.mem_cons.1 ((h b).2 (List.mem_cons_self ..)) with e' | e'
      · exact e'.symm
      have := nl_as (a2 a e)
      rw [a1 b e'] at this
      cases this
    subst hab
    rw [rs_ext r1 r2 p1 p2 fun e => ⟨fun he => by
      rcases List.mem_cons.1 ((h e).1 (List.mem_cons_of_mem _ he)) with rfl | q
      · have := a1 e he; rw [nl_irr] at this; cases this
      · exact q, fun he => by
      rcases List.mem_cons.1 ((h e).2 (List.mem_cons_of_mem _ he)) with rfl | q
      · have := a2 e he; rw [nl_irr] at this; cases this
      · exact q⟩]
theorem mem_keep {nm : ByteArray} {x e : Rf} : e ∈ keepL nm x ↔ e = x ∧ e.name ≠ nm := by
  unfold keepL
  cases h : (x.name.toList == nm.toList) with
  | true =>
    have := beq_nm.1 h
    simp only [if_true, List.not_mem_nil, false_iff, not_and]
    rintro rfl hn
    exact hn this
  | false =>
    have := nbeq_nm.1 h
    simp only [Bool.false_eq_true, if_false, List.mem_singleton]
    exact ⟨fun e1 => ⟨e1, by rw [e1]; exact this⟩, fun h => h.1⟩
theorem mem_step (nm : ByteArray) (dst : List UInt8) : ∀ (l : List Rf) (d : Bool) (e : Rf), e ∈ stepL nm dst l d ↔ (e ∈ l ∧ e.name ≠ nm) ∨ (d = false ∧ e = ⟨nm, dst⟩)
  | [], d, e => by cases d <;> simp [stepL]
  | x :: r, d, e => by
    have i1 := mem_step nm dst r true e
    have i2 := mem_step nm dst r d e
    unfold stepL
    split
    · rename_i h
      rw [List.mem_cons, List.mem_append, mem_keep, i1, List.mem_cons]
      simp only [h.1, true_and, Bool.true_eq_false, false_and, or_false]
      constructor
      · rintro (h | ⟨h, k⟩ | ⟨h, k⟩)
        · exact .inr h
        · exact .inl ⟨.inl h, k⟩
        · exact .inl ⟨.inr h, k⟩
      · rintro (⟨h | h, k⟩ | h)
        · exact .inr (.inl ⟨h, k⟩)
        · exact .inr (.inr ⟨h, k⟩)
        · exact .inl h
    · rw [List.mem_append, mem_keep, i2, List.mem_cons]
      constructor
      · rintro (⟨h, k⟩ | ⟨h, k⟩ | h)
        · exact .inl ⟨.inl h, k⟩
        · exact .inl ⟨.inr h, k⟩
        · exact .inr h
      · rintro (⟨h | h, k⟩ | h)
        · exact .inl ⟨h, k⟩
        · exact .inr (.inl ⟨h, k⟩)
        · exact .inr (.inr h)
theorem step_sorted (nm : ByteArray) (dst : List UInt8) : ∀ (l : List Rf) (d : Bool), RsS l → RsS (stepL nm dst l d)
  | [], d, _ => by cases d <;> simp [stepL, RsS]
  | x :: r, d, h => by
    obtain ⟨a1, p1⟩ := List.pairwise_cons.1 h
    have hk : ∀ d', (∀ e ∈ stepL nm dst r d', e.name ≠ nm ∨ d' = false) := fun d' e he => by
      rcases (mem_step nm dst r d' e).1 he with h | h
      · exact .inl h.2
      · exact .inr h.1
    have one : ∀ d', (d' = false → nl x.name nm = true) → RsS (keepL nm x ++ stepL nm dst r d') := fun d' hd => by
      unfold RsS
      rw [List.pairwise_append]
      refine ⟨?_, step_sorted nm dst r d' p1, ?_⟩
      · unfold keepL; split <;> simp
      · intro a ha b hb
        obtain ⟨rfl, hn⟩ := mem_keep.1 ha
        rcases (mem_step nm dst r d' b).1 hb with ⟨h, _⟩ | ⟨h, rfl⟩
        · exact a1 b h
        · exact hd h
    unfold stepL
    split
    · rename_i hc
      unfold RsS
      refine List.pairwise_cons.2 ⟨?_, one true (fun h => by cases h)⟩
      intro b hb
      show nl nm b.name = true
      have hb' : b ∈ x :: r ∧ b.name ≠ nm := by
        rcases List.mem_append.1 hb with h | h
        · obtain ⟨rfl, q⟩ := mem_keep.1 h
          exact ⟨List.mem_cons_self .., q⟩
        · rcases (mem_step nm dst r true b).1 h with ⟨q, q2⟩ | ⟨q, _⟩
          · exact ⟨List.mem_cons_of_mem _ q, q2⟩
          · cases q
      have hle : nl b.name nm = false := by
        rcases List.mem_cons.1 hb'.1 with rfl | q
        · exact hc.2
        · cases hq : nl b.name nm with
          | false => rfl
          | true =>
            have := nl_tr (a1 b q) hq
            rw [hc.2] at this
            cases this
      cases hq : nl nm b.name with
      | true => rfl
      | false => exact absurd (nl_eq hle hq) hb'.2
    · rename_i hc
      refine one d fun hd => ?_
      cases hq : nl x.name nm with
      | true => rfl
      | false => exact absurd ⟨hd, hq⟩ hc
theorem getR_mem {l : List Rf} (h : RsS l) {b : Rf} (hb : b ∈ l) : getR l b.name = some b := by
  obtain ⟨i, hi, rfl⟩ := List.mem_iff_getElem.1 hb
  exact getR_at h hi
theorem getR_some {l : List Rf} {p : ByteArray} {e : Rf} (h : getR l p = some e) : e ∈ l ∧ e.name = p := by
  unfold getR at h
  exact ⟨List.mem_of_find?_eq_some h, beq_nm.1 (List.find?_some (p := fun e : Rf => e.name.toList == p.toList) h)⟩
theorem getR_none {l : List Rf} {p : ByteArray} (h : ∀ e ∈ l, e.name ≠ p) : getR l p = none := by
  unfold getR
  rw [List.find?_eq_none]
  intro x hx
  rw [beq_nm]
  exact h x hx
/-- The move that leads back. -/
def backM (m : Mv) : Mv := ⟨m.nm, m.dst, m.fr⟩
structure Moved (l : List Rf) (m : Mv) (x : List Rf) : Prop where
  ok : okR x = true
  others : ∀ b ∈ l, b.name ≠ m.nm → getA x b.name = (b.id, 0)
  own : getA x m.nm = if zr m.dst = true then (z32, 4) else (m.dst, 0)
  back : applyR x (backM m) = (l, 0)
theorem step_len (nm : ByteArray) (dst : List UInt8) : ∀ (l : List Rf), (stepL nm dst l true).length ≤ l.length ∧ (stepL nm dst l false).length ≤ l.length + 1 ∧ ((∃ e ∈ l, e.name = nm) → (stepL nm dst l true).length < l.length ∧ (stepL nm dst l false).length ≤ l.length)
  | [] => by simp [stepL]
  | x :: r => by
    obtain ⟨i1, i2, i3⟩ := step_len nm dst r
    have k1 : (keepL nm x).length ≤ 1 := by unfold keepL; split <;> simp
    have k0 : x.name = nm → (keepL nm x).length = 0 := fun h => by unfold keepL; rw [if_pos (beq_nm.2 h)]; rfl
    have e1 : stepL nm dst (x :: r) true = keepL nm x ++ stepL nm dst r true := by simp [stepL]
    rw [e1, List.length_append, List.length_cons]
    have e2 : (stepL nm dst (x :: r) false).length = if nl x.name nm = false then 1 + ((keepL nm x).length + (stepL nm dst r true).length) else (keepL nm x).length + (stepL nm dst r false).length := by
      simp only [stepL, true_and]
      split
      · rw [List.length_cons, List.length_append]; omega
      · rw [List.length_append]
    rw [e2]
    refine ⟨by omega, by split <;> omega, ?_⟩
    rintro ⟨e, he, hn⟩
    rcases List.mem_cons.1 he with rfl | h
    · have := k0 hn
      have hirr : nl e.name nm = false := by rw [hn]; exact nl_irr _
      rw [if_pos hirr]
      omega
    · obtain ⟨j1, j2⟩ := i3 ⟨e, h, hn⟩
      refine ⟨by omega, by split <;> omega⟩
theorem moved_of {l : List Rf} {m : Mv} (h : (applyR l m).2 = 0) : Moved l m (applyR l m).1 := by
  rw [← apply_eq] at h ⊢
  unfold applyS at h ⊢
  cases hb : (!okR l || (!nameB m.nm || (zr m.fr && zr m.dst))) with
  | true => rw [hb] at h; simp at h
  | false =>
    rw [hb] at h
    simp only [Bool.false_eq_true, if_false] at h ⊢
    simp only [Bool.or_eq_false_iff, Bool.not_eq_false', Bool.and_eq_false_iff] at hb
    obtain ⟨hr, hnm, hz⟩ := hb
    obtain ⟨hlen, hs, hnames⟩ := ok_facts hr
    have key : (if zr m.fr = true then getR l m.nm = none ∧ l.length ≠ 8 else ∃ e, getR l m.nm = some e ∧ e.id = m.fr) → Moved l m (stepL m.nm m.dst l (zr m.dst)) := by
      intro hcase
      obtain ⟨X, hX⟩ : ∃ X, stepL m.nm m.dst l (zr m.dst) = X := ⟨_, rfl⟩
      have hmem : ∀ e, e ∈ X ↔ (e ∈ l ∧ e.name ≠ m.nm) ∨ (zr m.dst = false ∧ e = ⟨m.nm, m.dst⟩) := fun e => by rw [← hX]; exact mem_step _ _ _ _ _
      have hsX : RsS X := by rw [← hX]; exact step_sorted _ _ _ _ hs
      have hnX : ∀ e ∈ X, nameB e.name = true := fun e he => by
        rcases (hmem e).1 he with ⟨q, _⟩ | ⟨_, rfl⟩
        · exact hnames e q
        · exact hnm
      obtain ⟨s1, s2, s3⟩ := step_len m.nm m.dst l
      have hl8 : X.length ≤ 8 ∧ (zr m.dst = true → X.length ≠ 8) := by
        cases hzf : zr m.fr with
        | true =>
          rw [hzf, if_pos rfl] at hcase
          have hd : zr m.dst = false := by
            rcases hz with q | q
            · rw [hzf] at q; cases q
            · exact q
          rw [hd] at hX
          rw [hX] at s2
          have := hcase.2
          exact ⟨by omega, fun q => by rw [hd] at q; cases q⟩
        | false =>
          rw [hzf, if_neg Bool.false_ne_true] at hcase
          obtain ⟨e, he, _⟩ := hcase
          obtain ⟨q1, q2⟩ := s3 ⟨e, getR_some he⟩
          cases hd : zr m.dst with
          | true =>
            rw [hd] at hX
            rw [hX] at q1
            exact ⟨by omega, fun _ => by omega⟩
          | false =>
            rw [hd] at hX
            rw [hX] at q2
            exact ⟨by omega, fun q => by cases q⟩
      have hokX := ok_of hl8.1 hsX hnX
      have hown : getR X m.nm = if zr m.dst = true then none else some ⟨m.nm, m.dst⟩ := by
        cases hd : zr m.dst with
        | true =>
          rw [if_pos rfl]
          refine getR_none fun e he => ?_
          rcases (hmem e).1 he with ⟨_, q⟩ | ⟨q, _⟩
          · exact q
          · rw [hd] at q; cases q
        | false =>
          rw [if_neg Bool.false_ne_true]
          exact getR_mem hsX (b := ⟨m.nm, m.dst⟩) ((hmem _).2 (.inr ⟨hd, rfl⟩))
      rw [hX]
      refine ⟨hokX, fun b hb hne => ?_, ?_, ?_⟩
      · unfold getA
        rw [if_neg (by rw [hokX]; decide), getR_mem hsX ((hmem b).2 (.inl ⟨hb, hne⟩))]
      · unfold getA
        rw [if_neg (by rw [hokX]; decide), hown]
        cases zr m.dst <;> rfl
      · rw [← apply_eq]
        unfold applyS backM
        have hb2 : (!okR X || (!nameB m.nm || (zr m.dst && zr m.fr))) = false := by
          rw [hokX, hnm]
          rcases hz with q | q <;> rw [q] <;> simp
        simp only [hb2, Bool.false_eq_true, if_false]
        have hY : stepL m.nm m.fr X (zr m.fr) = l := by
          refine rs_ext _ _ (step_sorted _ _ _ _ hsX) hs fun e => ?_
          rw [mem_step, hmem]
          constructor
          · rintro (⟨⟨q, _⟩ | ⟨_, rfl⟩, hn⟩ | ⟨q, rfl⟩)
            · exact q
            · exact absurd rfl hn
            · rw [q, if_neg Bool.false_ne_true] at hcase
              obtain ⟨e, he, hid⟩ := hcase
              obtain ⟨g1, g2⟩ := getR_some he
              have : e = ⟨m.nm, m.fr⟩ := by cases e; simp only at hid g2; rw [hid, g2]
              rw [← this]; exact g1
          · intro he
            by_cases hn : e.name = m.nm
            · have hg := getR_mem hs he
              rw [hn] at hg
              cases hzf : zr m.fr with
              | true =>
                rw [hzf, if_pos rfl] at hcase
                rw [hcase.1] at hg
                cases hg
              | false =>
                rw [hzf, if_neg Bool.false_ne_true] at hcase
                obtain ⟨e', he', hid⟩ := hcase
                rw [he'] at hg
                obtain rfl := Option.some.inj hg
                exact .inr ⟨rfl, by cases e'; simp only at hid hn; rw [hid, hn]⟩
            · exact .inl ⟨.inl ⟨he, hn⟩, hn⟩
        rw [hown]
        cases hd : zr m.dst with
        | true =>
          simp only [if_true, Bool.true_eq_false, if_false, if_neg (hl8.2 hd), hY]
        | false =>
          simp only [Bool.false_eq_true, if_false, ne_eq, not_true_eq_false, hY]
    cases hg : getR l m.nm with
    | none =>
      rw [hg] at h key
      simp only at h ⊢
      cases hzf : zr m.fr with
      | false => rw [hzf] at h; simp at h
      | true =>
        rw [hzf] at h
        simp only [Bool.true_eq_false, if_false] at h ⊢
        by_cases h8 : l.length = 8
        · rw [if_pos h8] at h; simp at h
        · rw [if_neg h8]
          exact key (by rw [hzf, if_pos rfl]; exact ⟨rfl, h8⟩)
    | some e =>
      rw [hg] at h key
      simp only at h ⊢
      cases hzf : zr m.fr with
      | true => rw [hzf] at h; simp at h
      | false =>
        rw [hzf] at h
        simp only [Bool.false_eq_true, if_false] at h ⊢
        by_cases hid : e.id = m.fr
        · rw [if_neg (by simpa using hid)]
          exact key (by rw [hzf, if_neg Bool.false_ne_true]; exact ⟨e, rfl, hid⟩)
        · rw [if_pos hid] at h; simp at h
theorem apply_nil {l : List Rf} {m : Mv} (h : (applyR l m).2 ≠ 0) : (applyR l m).1 = [] := by
  unfold applyR at h ⊢
  split
  · rfl
  · rename_i hc
    rw [if_neg hc] at h
    cases hg : getR l m.nm with
    | none =>
      rw [hg] at h
      simp only at h ⊢
      split
      · rfl
      split
      · rfl
      · rename_i h1 h2; rw [if_neg h1, if_neg h2] at h; exact absurd rfl h
    | some e =>
      rw [hg] at h
      simp only at h ⊢
      split
      · rfl
      split
      · rfl
      split
      · rename_i h1 h2 h3; rw [if_neg h1, if_neg h2, if_pos h3] at h; exact absurd rfl h
      · rename_i h1 h2 h3; rw [if_neg h1, if_neg h2, if_neg h3] at h; exact absurd rfl h
end Go.Proofs.YtglcjdiejnennaaGreatDoor

namespace Go.Proofs.YtglcjdiejnennaaGreatDoor
open Go.RowKit Go.Deep Go.ChangeShapes Go.WideShapes
set_option linter.unusedVariables false

section
variable {H : Type} {enc : TypeId × Value → H} {w : World}
theorem opens_idR : Opens enc Tryz.prog w 33 (fun cs => ∃ l : List UInt8, cs = l.map bc ∧ l.length = 32) :=
  opens_array1 32 bc Tryz.underlying33 (by kernel_rfl) (by kernel_rfl) ((opens_u8 Tryz.underlying5).mono fun cs ⟨c, e⟩ => ⟨c, e⟩)
set_option maxRecDepth 100000 in
theorem opens_ref : Opens enc Tryz.prog w 78 (fun cs => ∃ e : Rf, cs = rfC e ∧ (rfC e).length = 33 ∧ RfOk e) := by
  refine (opens_struct Tryz.underlying78 33 (by kernel_rfl)
    [fun cs => ∃ s : ByteArray, cs = [.string s] ∧ s.size ≤ 140737488351232, fun cs => ∃ l : List UInt8, cs = l.map bc ∧ l.length = 32] rfl ?_).mono ?_
  · intro i f hf ok hok
    match i with
    | 0 => cases hf; cases hok; exact opens_string Tryz.underlying9
    | 1 => cases hf; cases hok; exact opens_idR
    | i + 2 => cases hok
  · rintro cs ⟨hl, h⟩
    obtain ⟨s, e0, hs⟩ := h 0 _ rfl _ rfl
    obtain ⟨l, e1, h1⟩ := h 1 _ rfl _ rfl
    have ho : RfOk ⟨s, l⟩ := ⟨h1, Nat.le_trans hs (by omega)⟩
    have k0 : cs = rfC ⟨s, l⟩ := by
      have a2 : cs.drop (1 + 32) = [] := List.drop_eq_nil_of_le (by omega)
      have a1 := cut_at 1 32 a2
      have a0 := cut_at 0 1 a1
      rw [List.drop_zero] at a0
      rw [a0]
      unfold rfC
      exact congr (congrArg _ e0) (congr (congrArg _ e1) rfl) |>.trans (by simp)
    exact ⟨⟨s, l⟩, k0, rfC_len ho, ho⟩
set_option maxRecDepth 100000 in
theorem opens_refs : Opens enc Tryz.prog w 63 (fun cs => ∃ (v : Value) (l : List Rf), cs = [v] ∧ IsR w v l) := by
  refine (opens_struct Tryz.underlying63 1 (by kernel_rfl)
    [fun cs => ∃ (v : Value) (xs : List Rf), cs = [v] ∧ IsSl w v 33 xs.length (xs.flatMap rfC) ∧ (∀ x ∈ xs, RfOk x) ∧ xs.length * 48 ≤ 140737488351232] rfl ?_).mono ?_
  · intro i f hf ok hok
    match i with
    | 0 => cases hf; cases hok; exact opens_slice 33 48 rfC RfOk Tryz.underlying61 (by kernel_rfl) (by omega) (by kernel_rfl) opens_ref
    | i + 1 => cases hok
  · rintro cs ⟨hl, h⟩
    obtain ⟨v, l, e0, h1, h2, _⟩ := h 0 _ rfl _ rfl
    have a1 : cs.drop (0 + 1) = [] := List.drop_eq_nil_of_le (by omega)
    have a0 := cut_at 0 1 a1
    rw [List.drop_zero] at a0
    refine ⟨v, l, ?_, ⟨h1, h2⟩⟩
    rw [a0]
    exact congr (congrArg _ e0) rfl |>.trans (by simp)
set_option maxRecDepth 100000 in
theorem opens_move : Opens enc Tryz.prog w 65 (fun cs => ∃ m : Mv, cs = mvC m ∧ MvOk m) := by
  refine (opens_struct Tryz.underlying65 65 (by kernel_rfl)
    [fun cs => ∃ s : ByteArray, cs = [.string s] ∧ s.size ≤ 140737488351232, fun cs => ∃ l : List UInt8, cs = l.map bc ∧ l.length = 32, fun cs => ∃ l : List UInt8, cs = l.map bc ∧ l.length = 32] rfl ?_).mono ?_
  · intro i f hf ok hok
    match i with
    | 0 => cases hf; cases hok; exact opens_string Tryz.underlying9
    | 1 => cases hf; cases hok; exact opens_idR
    | 2 => cases hf; cases hok; exact opens_idR
    | i + 3 => cases hok
  · rintro cs ⟨hl, h⟩
    obtain ⟨s, e0, hs⟩ := h 0 _ rfl _ rfl
    obtain ⟨f, e1, h1⟩ := h 1 _ rfl _ rfl
    obtain ⟨d, e2, h2⟩ := h 2 _ rfl _ rfl
    have k0 : cs = mvC ⟨s, f, d⟩ := by
      have a3 : cs.drop (33 + 32) = [] := List.drop_eq_nil_of_le (by omega)
      have a2 := cut_at 33 32 a3
      have a1 := cut_at 1 32 a2
      have a0 := cut_at 0 1 a1
      rw [List.drop_zero] at a0
      rw [a0]
      unfold mvC
      exact congr (congrArg _ e0) (congr (congrArg _ e1) (congr (congrArg _ e2) rfl)) |>.trans (by simp)
    exact ⟨⟨s, f, d⟩, k0, h1, h2, Nat.le_trans hs (by omega)⟩
end
/-- Branches as an argument. -/
def ArgRefs (w : World) (v : Value) (l : List Rf) : Prop := ∃ u : Value, v = .agg #[u] ∧ IsR w u l
def ArgMove (w : World) (v : Value) (m : Mv) : Prop := v = .agg (mvC m).toArray ∧ MvOk m
set_option maxRecDepth 100000 in
theorem open_refs {H : Type} {enc : TypeId × Value → H} {w : World} {v : Value} {d : DataW H} {p : List MemPlace} {r : Reach} {b0 : Nat}
    (hv : Value.okWide Tryz.prog w r b0 63 v) (h : DataW.Trod enc Tryz.prog w 0 (fun _ => true) true 63 v d p) (hL : Light Tryz.prog 63 d) : ∃ l, ArgRefs w v l := by
  obtain ⟨cs, rfl⟩ := agg_arg Tryz.underlying63 hv
  obtain ⟨u, l, e, k⟩ := arg_of opens_refs h hL
  have e : cs.toList = [u] := by simpa [Value.cells] using e
  exact ⟨l, u, by rw [← Array.toArray_toList (xs := cs), e], k⟩
set_option maxRecDepth 100000 in
theorem open_move {H : Type} {enc : TypeId × Value → H} {w : World} {v : Value} {d : DataW H} {p : List MemPlace} {r : Reach} {b0 : Nat}
    (hv : Value.okWide Tryz.prog w r b0 65 v) (h : DataW.Trod enc Tryz.prog w 0 (fun _ => true) true 65 v d p) (hL : Light Tryz.prog 65 d) : ∃ m, ArgMove w v m := by
  obtain ⟨cs, rfl⟩ := agg_arg Tryz.underlying65 hv
  obtain ⟨m, e, k⟩ := arg_of opens_move h hL
  have e : cs.toList = mvC m := by simpa [Value.cells] using e
  exact ⟨m, by rw [← Array.toArray_toList (xs := cs), e], k⟩
end Go.Proofs.YtglcjdiejnennaaGreatDoor

namespace Go.Proofs.YtglcjdiejnennaaGreatDoor
open Go.RowKit
set_option linter.unusedVariables false
set_option linter.unusedSimpArgs false

def mv0 : Mv := ⟨⟨#[]⟩, z32, z32⟩
set_option maxRecDepth 1000000 in
theorem places_mv : (match Tryz.prog.underlying 65 with | some (.struct fs) => fs.toList.mapM (fun f => (Tryz.prog.info? f.type).map fun i => (f.offset, i.size)) | _ => none) = some [(0, 1), (1, 32), (33, 32)] := by kernel_rfl
set_option maxRecDepth 1000000 in
theorem zero_mv : (Tryz.prog.info? 65).map (fun i => i.zero.map (fun z => z.cells)) = some (some (mvC mv0).toArray) := by kernel_rfl
set_option maxRecDepth 1000000 in
theorem built_mv (m : Mv) (hm : MvOk m) : Tryz.prog.built 65 [(0, .string m.nm), (1, .agg (m.fr.map bc).toArray), (2, .agg (m.dst.map bc).toArray)] = some (mvC m).toArray := by
  rw [built_fill places_mv zero_mv]
  have e1 := fill_step (fun i => #[(0, 1), (1, 32), (33, 32)][i]?) 0 0 1 rfl (.string m.nm) [.string m.nm] rfl rfl [] [.string ⟨#[]⟩] (z32.map bc ++ z32.map bc) rfl rfl [(1, .agg (m.fr.map bc).toArray), (2, .agg (m.dst.map bc).toArray)]
  have e2 := fill_step (fun i => #[(0, 1), (1, 32), (33, 32)][i]?) 1 1 32 rfl (.agg (m.fr.map bc).toArray) (m.fr.map bc) rfl (by simp [hm.1]) [.string m.nm] (z32.map bc) (z32.map bc) rfl rfl [(2, .agg (m.dst.map bc).toArray)]
  have e3 := fill_step (fun i => #[(0, 1), (1, 32), (33, 32)][i]?) 2 33 32 rfl (.agg (m.dst.map bc).toArray) (m.dst.map bc) rfl (by simp [hm.2.1]) ([.string m.nm] ++ m.fr.map bc) (z32.map bc) [] (by simp [hm.1]) rfl []
  simp only [List.append_assoc, List.cons_append, List.nil_append, List.append_nil] at e1 e2 e3
  have := e1.trans (e2.trans e3)
  simpa [mvC, mv0, Instr.fill] using this
theorem mv_info {m : Mv} (hm : MvOk m) : (Tryz.prog.info? 65).map (·.size) = some (mvC m).toArray.size := by
  have : (mvC m).toArray.size = 65 := by simp [mvC, hm.1, hm.2.1]
  exact (show (Tryz.prog.info? 65).map (·.size) = some 65 from by kernel_rfl).trans (by rw [this])
theorem refs_self (l : List Rf) : listEq rfEq l l = true := (listEq_same rfEq rfEq_iff l l).2 rfl
theorem getA_len (l : List Rf) (h : ∀ e ∈ l, RfOk e) (p : ByteArray) : (getA l p).1.length = 32 := by
  unfold getA
  split
  · rfl
  · split
    · rename_i e he
      exact (h _ (getR_some he).1).1
    · rfl
theorem new2s {w : World} {N : Nat} (hN : w.heap.size = N) (a b : Obj) : Ext w ((w.alloc a).alloc b) ∧ ((w.alloc a).alloc b).heap[N]? = some a ∧ ((w.alloc a).alloc b).heap[N + 1]? = some b :=
  ⟨((Ext.refl w).alloc _).alloc _, blk_old (blk_new hN), blk_new (by simp [hN])⟩

set_option maxHeartbeats 8000000 in
set_option maxRecDepth 100000 in
theorem walkRefsHold (w : World) (v : Value) (l : List Rf) (h : ArgRefs w v l) (v2 : Value) (m : Mv) (hm : ArgMove w v2 m) (hT : Tabs w) :
    Calls Tryz.prog 5 #[v, v2] w fun e w' => e = .returned (.bool true) ∧ Ext w w' := by
  obtain ⟨u, rfl, hu⟩ := h
  obtain ⟨rfl, hm⟩ := hm
  obtain ⟨ao, cap, rfl⟩ := sl_len hu.sl
  obtain ⟨_, k1, m1⟩ := sl_cap hu.sl
  have hmi := mv_info hm
  go_enter Tryz.func5, Tryz.ntmps5
  go_upto_region 1 with fail
  generalize hG : w.heap.size = G at *
  refine wp_forgetH (fun W => Ext w W ∧ W.heap[G]? = some (.cells #[.slice ao l.length cap] 63 (0, 0)) ∧ W.heap[G + 1]? = some (.cells (mvC m).toArray 65 (0, 0))) (new2s hG _ _) ?_
  rintro w1 ⟨x1, b0, bM⟩
  go_wp2_with fail
  refine Calls.mono (wakes09 _ (hT.ext x1)) ?_
  rintro e wA ⟨rfl, y⟩
  have X := x1.trans y
  have HU := Lib.hid (hu.ext X)
  have b0 := y.keeps b0
  have bM := y.keeps bM
  have HX := Lib.hid X
  have HM := Lib.hid hm
  clear x1 y hu X hT
  obtain ⟨cM, hfr, hto⟩ := mv_parts hm bM
  have k0 := block_allH b0
  clear hm
  by_cases hlen : l.length ≤ 100
  rotate_left
  · have hl : (100 : Int) < (l.length : Int) := by omega
    go_wp2_with fail
    go_ret
    exact ⟨rfl, HX.out⟩
  have hl : ¬ (100 : Int) < (l.length : Int) := by omega
  go_upto_region 5 with fail
  go_wp2_with ((with_reducible refine at_load 65 (.tmp 3) ?_); refine wpl_load (by rfl) 65 (.tmp 3) rfl (G + 1) (by rfl) 65 (mvC m).toArray (0, 0) _ bM Tryz.underlying65 rfl hmi ?_)
  refine Calls.mono (refsApply _ _ l HU.out m HM.out) ?_
  rintro e w2 ⟨vx, rfl, hx, x2⟩
  have hmv : (applyR l m).2 = 0 → Moved l m (applyR l m).1 := moved_of
  have hnl : (applyR l m).2 ≠ 0 → (applyR l m).1 = [] := apply_nil
  obtain ⟨R, hR⟩ : ∃ R, applyR l m = R := ⟨_, rfl⟩
  rw [hR] at hx hmv hnl ⊢
  obtain ⟨XL, c⟩ := R
  simp only at hx hmv hnl ⊢
  clear hR
  obtain ⟨ax, cx, rfl⟩ := sl_len hx.sl
  go_upto_region 6 with fail
  obtain ⟨B5, hB5⟩ : ∃ B5, w2.heap.size = B5 := ⟨_, rfl⟩
  refine wp_forgetH (fun W => Ext w2 W ∧ W.heap[B5]? = some (.cells #[.slice ax XL.length cx] 63 (0, 0))) ⟨(Ext.refl w2).alloc _, blk_new hB5⟩ ?_
  rintro w3 ⟨x3, b5⟩
  rw [hB5]
  have y := x2.trans x3
  have HXL := Lib.hid (hx.ext x3)
  have HX := Lib.hid (HX.out.trans y)
  have HU := Lib.hid (HU.out.ext y)
  have b0 := y.keeps b0
  have bM := y.keeps bM
  obtain ⟨cM, hfr, hto⟩ := mv_parts HM.out bM
  have k0 := block_allH b0
  have k5 := block_allH b5
  clear hx x2 x3 y hl hlen
  by_cases hc : c = 0
  rotate_left
  · have hX := hnl hc
    subst hX
    go_wp2_with fail
    go_ret
    exact ⟨rfl, HX.out⟩
  subst hc
  have hMv := hmv rfl
  clear hmv hnl
  have HMV := Lib.hid hMv
  clear hMv
  have HB0 := Lib.hid b0
  have HBM := Lib.hid bM
  have HB5 := Lib.hid b5
  obtain ⟨wL, rfl⟩ : ∃ x, x = w3 := ⟨_, rfl⟩
  have HT := Lib.hid cM
  have HTO := Lib.hid hto
  have HFR := Lib.hid hfr
  clear b0 bM b5 cM hfr hto k5
  go_wp2_with fail
  clear k0
  go_loopg [34] l.length (fun g s34 wr => ∃ i : Nat, i ≤ l.length ∧ l.length - i ≤ g ∧ s34 = .int .i64 (i : Int) ∧ Ext wL wr)
  case atStart => exact ⟨0, Nat.zero_le _, by omega, rfl, Ext.refl _⟩
  case round =>
  obtain ⟨i, hi, hg, rfl, xr⟩ := hrel
  by_cases hlt : i < l.length
  · obtain ⟨pb, o, rfl, hraL⟩ := rf_at HU.out.sl HU.out.ok i hlt
    have hra := rangeAt_ext hraL xr
    have hxo := HU.out.ok _ (List.getElem_mem hlt)
    have hxm : l[i] ∈ l := List.getElem_mem hlt
    generalize l[i] = x at *
    have hinf := rf_info hxo
    have hinA : (Tryz.prog.info? 78).map (·.size) = some (rfC x).toArray.size := by rw [List.size_toArray]; exact hinf
    have hold : ∀ A : Array Value, A.size = 33 → A.size = (rfC x).toArray.size := fun A hA => by rw [hA, List.size_toArray, rfC_len hxo]
    have honx : (rfC x).toArray.all (·.oneCell') = true := by rw [Array.all_eq_true_iff_forall_mem]; intro v hv; exact rf_one x v (by simpa using hv)
    have cM := xr.cell HT.out
    have i0 : (0 : Int) ≤ (i : Int) := Int.natCast_nonneg _
    have i1 : (i : Int) < (l.length : Int) := by omega
    clear hraL
    go_upto_region 11 with (first
      | ((with_reducible refine at_load 78 (.tmp 36) ?_); refine wpl_mid (by rfl) 78 (.tmp 36) rfl pb (o + i * 33) (by rfl) (rfC x) _ hra Tryz.underlying78 rfl hinf ?_)
      | ((with_reducible refine at_store 78 (.tmp 8) (.tmp 37) ?_); refine wpl_store (by rfl) 78 (.tmp 8) (.tmp 37) rfl _ (rfC x).toArray (by rfl) (by rfl) 78 _ (heap_alloc_new _ _) hinA (hold _ rfl) honx ?_; rw [World.setRow_alloc_new]))
    obtain ⟨BX, hBX⟩ : ∃ BX, wr.heap.size = BX := ⟨_, rfl⟩
    refine wp_forgetH (fun W => Ext wr W ∧ W.heap[BX]? = some (.cells (rfC x).toArray 78 (0, 0))) ⟨(Ext.refl wr).alloc _, blk_new hBX⟩ ?_
    rintro w4 ⟨x4, bX⟩
    rw [hBX]
    have hrX := range_blk bX
    obtain ⟨cN, hXi⟩ := rf_parts hrX
    have cM := x4.cell cM
    have k5 := block_allH (x4.keeps (xr.keeps HB5.out))
    have x24 := xr.trans x4
    have HBX := Lib.hid bX
    clear hrX hra bX x4 xr
    cases hnm : (x.name.toList == m.nm.toList) with
    | true =>
      go_wp2_with fail
      go_roundg (l.length - (i + 1))
      case measure => omega
      case rel => exact ⟨i + 1, by omega, by omega, by go_num, x24⟩
    | false =>
      have hg := HMV.out.others x hxm (nbeq_nm.1 hnm)
      have hidl := hxo.1
      have hii := id_info hidl
      have HG := Lib.hid hg
      clear hg
      go_wp2_with fail
      refine Calls.mono (refsGet _ _ XL (HXL.out.ext x24) x.name) ?_
      rintro e w5 ⟨rfl, x5⟩
      rw [HG.out]
      have b9 := heap_alloc_new w5 (.cells (x.id.map bc).toArray 33)
      have nid := fun w => neq_id w x.id x.id hidl hidl
      rw [decide_eq_true (rfl : x.id = x.id)] at nid
      go_upto_region 13 with ((with_reducible refine at_store 33 (.tmp 9) (.tmp 48) ?_); refine wpl_store (by rfl) 33 (.tmp 9) (.tmp 48) rfl _ (x.id.map bc).toArray (by rfl) (by rfl) 33 _ (heap_alloc_new _ _) (id_size hidl) (id_same (a := z32) rfl hidl) (id_one _) ?_; rw [World.setRow_alloc_new])
      have y5 : Ext w5 (w5.alloc (.cells (x.id.map bc).toArray 33)) := (Ext.refl w5).alloc _
      have hX5 := rangeAt_ext hXi (x5.trans y5)
      go_wp2_with (first
        | ((with_reducible refine at_load 33 (.tmp 9) ?_); refine wpl_load (by rfl) 33 (.tmp 9) rfl w5.heap.size (by rfl) 33 (x.id.map bc).toArray (0, 0) _ b9 Tryz.underlying33 rfl (id_size hidl) ?_)
        | ((with_reducible refine at_load 33 (.tmp 54) ?_); refine wpl_mid (by rfl) 33 (.tmp 54) rfl BX 1 (by rfl) (x.id.map bc) _ hX5 Tryz.underlying33 rfl hii ?_))
      go_roundg (l.length - (i + 1))
      case measure => omega
      case rel => exact ⟨i + 1, by omega, by omega, by go_num, x24.trans (x5.trans y5)⟩
  · have e : i = l.length := by omega
    subst e
    have hdl := HM.out.2.1
    have hti := id_info HM.out.2.1
    have hfi := id_info HM.out.1
    have HMB := Lib.hid (show MvOk (backM m) from ⟨HM.out.2.1, HM.out.1, HM.out.2.2⟩)
    have hbm := built_mv (backM m) HMB.out
    have ez := fun w => eql_zero w m.dst hdl
    have hz32 : z32.length = 32 := rfl
    have cM := xr.cell HT.out
    have k5 := block_allH (xr.keeps HB5.out)
    have hown := HMV.out.own
    clear hi hg hlt
    go_wp2_with fail
    refine Calls.mono (refsGet _ _ XL (HXL.out.ext xr) m.nm) ?_
    rintro e w5 ⟨rfl, x5⟩
    rw [hown]
    clear hown cM k5
    cases hz : zr m.dst with
    | true =>
      rw [if_pos rfl]
      have hd0 : m.dst = z32 := of_decide_eq_true hz
      rw [show decide (m.dst = z32) = true from hz] at ez
      have nid := fun w => neq_id w z32 m.dst rfl hdl
      rw [decide_eq_true hd0.symm] at nid
      have HZ := Lib.hid hz
      clear hz hd0
      have b11 := heap_alloc_new w5 (.cells (z32.map bc).toArray 33)
      go_upto_region 17 with ((with_reducible refine at_store 33 (.tmp 11) (.tmp 64) ?_); refine wpl_store (by rfl) 33 (.tmp 11) (.tmp 64) rfl _ (z32.map bc).toArray (by rfl) (by rfl) 33 _ (heap_alloc_new _ _) (id_size hz32) (id_same (a := z32) rfl hz32) (id_one _) ?_; rw [World.setRow_alloc_new])
      have y5 : Ext w5 (w5.alloc (.cells (z32.map bc).toArray 33)) := (Ext.refl w5).alloc _
      have x25 := xr.trans (x5.trans y5)
      generalize w5.alloc (.cells (z32.map bc).toArray 33) = w6 at *
      generalize w5.heap.size = B11 at *
      have hto := rangeAt_ext HTO.out x25
      have hfr := rangeAt_ext HFR.out x25
      have cM := x25.cell HT.out
      have k5 := block_allH (x25.keeps HB5.out)
      go_wp2_with (first
        | ((with_reducible refine at_load 33 (.tmp 66) ?_); refine wpl_mid (by rfl) 33 (.tmp 66) rfl (G + 1) 33 (by rfl) (m.dst.map bc) _ hto Tryz.underlying33 rfl hti ?_)
        | ((with_reducible refine at_load 33 (.tmp 75) ?_); refine wpl_mid (by rfl) 33 (.tmp 75) rfl (G + 1) 33 (by rfl) (m.dst.map bc) _ hto Tryz.underlying33 rfl hti ?_)
        | ((with_reducible refine at_load 33 (.tmp 83) ?_); refine wpl_mid (by rfl) 33 (.tmp 83) rfl (G + 1) 33 (by rfl) (m.dst.map bc) _ hto Tryz.underlying33 rfl hti ?_)
        | ((with_reducible refine at_load 33 (.tmp 85) ?_); refine wpl_mid (by rfl) 33 (.tmp 85) rfl (G + 1) 1 (by rfl) (m.fr.map bc) _ hfr Tryz.underlying33 rfl hfi ?_)
        | ((with_reducible refine at_load 33 (.tmp 11) ?_); refine wpl_load (by rfl) 33 (.tmp 11) rfl B11 (by rfl) 33 (z32.map bc).toArray (0, 0) _ b11 Tryz.underlying33 rfl (id_size hz32) ?_)
        | ((with_reducible refine at_bldT 65 ?_); refine wpl_bldG (by rfl) 65 _ rfl [(0, .string m.nm), (1, .agg (m.dst.map bc).toArray), (2, .agg (m.fr.map bc).toArray)] (by rfl) _ hbm ?_))
      refine Calls.mono (refsApply _ _ XL (HXL.out.ext x25) (backM m) HMB.out) ?_
      rintro e w7 ⟨v7, rfl, h7, x7⟩
      rw [HMV.out.back] at h7 ⊢
      obtain ⟨a7, c7, rfl⟩ := sl_len h7.sl
      go_upto_region 20 with fail
      have x27 := x25.trans x7
      have y7 : Ext w7 (w7.alloc (.cells #[.slice a7 l.length c7] 63)) := (Ext.refl w7).alloc _
      have k7 := block_allH (heap_alloc_new w7 (.cells #[.slice a7 l.length c7] 63))
      have h7 := h7.ext y7
      have x28 := x27.trans y7
      have k0 := block_allH (x28.keeps HB0.out)
      have hu8 := HU.out.ext x28
      have H7 := Lib.hid h7
      have HU8 := Lib.hid hu8
      clear hu8 h7
      go_wp2_with fail
      refine Calls.mono (refsSame _ _ _ l l H7.out HU8.out) ?_
      rintro e w8 ⟨rfl, x8⟩
      rw [refs_self]
      go_wp2_with fail
      go_ret
      exact ⟨rfl, HX.out.trans (x28.trans x8)⟩
    | false =>
      rw [if_neg Bool.false_ne_true]
      rw [show decide (m.dst = z32) = false from hz] at ez
      have nid := fun w => neq_id w m.dst m.dst hdl hdl
      rw [decide_eq_true (rfl : m.dst = m.dst)] at nid
      have HZ := Lib.hid hz
      clear hz
      have b11 := heap_alloc_new w5 (.cells (m.dst.map bc).toArray 33)
      go_upto_region 17 with ((with_reducible refine at_store 33 (.tmp 11) (.tmp 64) ?_); refine wpl_store (by rfl) 33 (.tmp 11) (.tmp 64) rfl _ (m.dst.map bc).toArray (by rfl) (by rfl) 33 _ (heap_alloc_new _ _) (id_size hdl) (id_same (a := z32) rfl hdl) (id_one _) ?_; rw [World.setRow_alloc_new])
      have y5 : Ext w5 (w5.alloc (.cells (m.dst.map bc).toArray 33)) := (Ext.refl w5).alloc _
      have x25 := xr.trans (x5.trans y5)
      generalize w5.alloc (.cells (m.dst.map bc).toArray 33) = w6 at *
      generalize w5.heap.size = B11 at *
      have hto := rangeAt_ext HTO.out x25
      have hfr := rangeAt_ext HFR.out x25
      have cM := x25.cell HT.out
      have k5 := block_allH (x25.keeps HB5.out)
      go_wp2_with (first
        | ((with_reducible refine at_load 33 (.tmp 66) ?_); refine wpl_mid (by rfl) 33 (.tmp 66) rfl (G + 1) 33 (by rfl) (m.dst.map bc) _ hto Tryz.underlying33 rfl hti ?_)
        | ((with_reducible refine at_load 33 (.tmp 75) ?_); refine wpl_mid (by rfl) 33 (.tmp 75) rfl (G + 1) 33 (by rfl) (m.dst.map bc) _ hto Tryz.underlying33 rfl hti ?_)
        | ((with_reducible refine at_load 33 (.tmp 83) ?_); refine wpl_mid (by rfl) 33 (.tmp 83) rfl (G + 1) 33 (by rfl) (m.dst.map bc) _ hto Tryz.underlying33 rfl hti ?_)
        | ((with_reducible refine at_load 33 (.tmp 85) ?_); refine wpl_mid (by rfl) 33 (.tmp 85) rfl (G + 1) 1 (by rfl) (m.fr.map bc) _ hfr Tryz.underlying33 rfl hfi ?_)
        | ((with_reducible refine at_load 33 (.tmp 11) ?_); refine wpl_load (by rfl) 33 (.tmp 11) rfl B11 (by rfl) 33 (m.dst.map bc).toArray (0, 0) _ b11 Tryz.underlying33 rfl (id_size hdl) ?_)
        | ((with_reducible refine at_bldT 65 ?_); refine wpl_bldG (by rfl) 65 _ rfl [(0, .string m.nm), (1, .agg (m.dst.map bc).toArray), (2, .agg (m.fr.map bc).toArray)] (by rfl) _ hbm ?_))
      refine Calls.mono (refsApply _ _ XL (HXL.out.ext x25) (backM m) HMB.out) ?_
      rintro e w7 ⟨v7, rfl, h7, x7⟩
      rw [HMV.out.back] at h7 ⊢
      obtain ⟨a7, c7, rfl⟩ := sl_len h7.sl
      go_upto_region 20 with fail
      have x27 := x25.trans x7
      have y7 : Ext w7 (w7.alloc (.cells #[.slice a7 l.length c7] 63)) := (Ext.refl w7).alloc _
      have k7 := block_allH (heap_alloc_new w7 (.cells #[.slice a7 l.length c7] 63))
      have h7 := h7.ext y7
      have x28 := x27.trans y7
      have k0 := block_allH (x28.keeps HB0.out)
      have hu8 := HU.out.ext x28
      have H7 := Lib.hid h7
      have HU8 := Lib.hid hu8
      clear hu8 h7
      go_wp2_with fail
      refine Calls.mono (refsSame _ _ _ l l H7.out HU8.out) ?_
      rintro e w8 ⟨rfl, x8⟩
      rw [refs_self]
      go_wp2_with fail
      go_ret
      exact ⟨rfl, HX.out.trans (x28.trans x8)⟩
end Go.Proofs.YtglcjdiejnennaaGreatDoor

namespace Go.Proofs.YtglcjdiejnennaaGreatDoor
open Go.RowKit
set_option linter.unusedVariables false
set_option linter.unusedSimpArgs false

set_option maxHeartbeats 4000000 in
set_option maxRecDepth 100000 in
theorem copiedC (w : World) (v : Value) (l : List Rf) (h : IsR w v l) (hl : l.length ≤ 1000000) :
    Calls Tryz.prog 20 #[.agg #[v]] w fun e w' => ∃ v', e = .returned (.agg #[v']) ∧ IsR w' v' l ∧ Ext w w' := by
  obtain ⟨zE, tyE⟩ := tyRf
  obtain ⟨ao, cap, rfl⟩ := sl_len h.sl
  obtain ⟨_, k1, m1⟩ := sl_cap h.sl
  go_enter Tryz.func20, Tryz.ntmps20
  go_upto_region 1 with fail
  generalize hG : w.heap.size = G at *
  refine wp_forgetH (fun W => Ext w W ∧ W.heap[G]? = some (.cells #[.slice ao l.length cap] 63 (0, 0)) ∧ W.heap[G + 1]? = some (.cells #[.slice none 0 0] 63 (0, 0))) (new2s hG _ _) ?_
  rintro w1 ⟨x1, b0, b1⟩
  have o0 := World.ownsRow_made (base := w1.heap.size) (e := 78) (size := 33) w1 #[] 0 (Nat.le_refl _) (by decide) rfl
  have hh := h.ext x1
  have x2 : Ext w1 (w1.alloc (.cells #[] 78)) := (Ext.refl w1).alloc _
  have k0 := block_allH (x2.keeps b0)
  have b1 := x2.keeps b1
  have HB1 := Lib.hid b1
  have HH := Lib.hid hh
  clear h hh b0 b1
  go_wp2_with (first
    | (at_builtin; refine wp_app (w := w1.alloc (.cells #[] 78)) tyE rfl (.tmp 3) (.tmp 5) rfl w1.heap.size _ 0 [] o0 (by rfl) _ l.length (l.flatMap rfC) (HH.out.sl.ext x2) (by rfl) (rfC_one l) (by omega) (by omega) (by have := x2.size; omega) ?_; intro v2 w2 own2 gr2; obtain ⟨a2, c2, rfl⟩ := ownSh own2; have b2 := grown_keep gr2 HB1.out (own_neH o0 HB1.out (by decide)); have kk2 := block_allH b2; have ff2 := fun z => block_free b2 z))
  have gF : w2.grownBy (w2.setCell ⟨G + 1, 0, none⟩ (.slice a2 l.length c2)) (some (G + 1)) := grown_setCell _ _ _ _
  have hfin := block_setCell b2 (i := 0) (.slice a2 l.length c2)
  rw [Nat.zero_add, List.nil_append] at own2
  have oF := ownsRow_grown own2 gF (own_neH own2 b2 (by decide))
  have hs1 := x1.size
  have xF := ((own_base o0 gr2 (x1.trans x2) (by omega)).grown gF (fun k hk => by cases hk; omega))
  refine bodyPost_ret (results_cellH rfl _ _ (G + 1) _ _ _ _ (by rfl) hfin Tryz.underlying63 rfl (info63 _)) rfl ⟨_, rfl, isR_own oF rfl HH.out.ok, xF⟩

/-- Branches do not lie in a variable that holds a slice. -/
theorem isR_apart {w w' : World} {v : Value} {l : List Rf} {g : Nat} {a : Option Addr} {n c : Nat} {t : TypeId} {f : Nat × Nat} (h : IsR w v l) (hg : w.heap[g]? = some (.cells #[.slice a n c] t f)) (gr : w.grownBy w' (some g)) : IsR w' v l := by
  obtain ⟨h1, ao, cap, e, h2, h3, h4, h5⟩ := h.sl
  refine ⟨⟨h1, ao, cap, e, h2, h3, h4, fun i hi => ?_⟩, h.ok⟩
  obtain ⟨b, off, e1, e2⟩ := h5 i hi
  have hb : b ≠ g := by
    rintro rfl
    have h0 : 0 < (l.flatMap rfC).length := by omega
    obtain ⟨b', off', e1', e2'⟩ := h5 0 h0
    rw [e1] at e1'
    simp only [Option.some.injEq, Addr.mk.injEq] at e1'
    obtain ⟨rfl, rfl, _⟩ := e1'
    cases l with
    | nil => simp at h0
    | cons x r =>
      rw [block_cell hg] at e2'
      simp only [List.flatMap_cons, rfC, List.cons_append, List.getElem?_cons_zero, Nat.add_zero] at e2'
      match off, e2' with
      | 0, e2' => simp at e2'
      | k + 1, e2' => simp at e2'
  refine ⟨b, off, e1, ?_⟩
  rw [List.getElem?_eq_getElem hi] at e2 ⊢
  exact gr.cell e2 (by simpa using hb)
theorem gtV_len (l : List Rf) (h : ∀ e ∈ l, RfOk e) (p : ByteArray) : (gtV l p).1.length = 32 := by
  rw [gtV_is]
  split
  · rename_i e he
    exact (h _ (getR_some he).1).1
  · rfl

set_option maxHeartbeats 8000000 in
set_option maxRecDepth 100000 in
theorem walkRefsMoves (w : World) (v : Value) (l : List Rf) (h : ArgRefs w v l) (v2 : Value) (m : Mv) (hm : ArgMove w v2 m) (nm : ByteArray) (hnm : nm.size ≤ 9223372036854775807) (hT : Tabs w) :
    Calls Tryz.prog 4 #[v, v2, .string nm] w fun e w' => e = .returned (.bool true) ∧ Ext w w' := by
  obtain ⟨u, rfl, hu⟩ := h
  obtain ⟨rfl, hm⟩ := hm
  obtain ⟨ao, cap, rfl⟩ := sl_len hu.sl
  obtain ⟨_, k1, m1⟩ := sl_cap hu.sl
  have hmi := mv_info hm
  go_enter Tryz.func4, Tryz.ntmps4
  go_upto_region 1 with fail
  generalize hG : w.heap.size = G at *
  refine wp_forgetH (fun W => Ext w W ∧ W.heap[G]? = some (.cells #[.slice ao l.length cap] 63 (0, 0)) ∧ W.heap[G + 1]? = some (.cells (mvC m).toArray 65 (0, 0))) (new2s hG _ _) ?_
  rintro w1 ⟨x1, b0, bM⟩
  go_wp2_with fail
  refine Calls.mono (wakes09 _ (hT.ext x1)) ?_
  rintro e wA ⟨rfl, y⟩
  have X := x1.trans y
  have HU := Lib.hid (hu.ext X)
  have b0 := y.keeps b0
  have bM := y.keeps bM
  have HX := Lib.hid X
  have HM := Lib.hid hm
  clear x1 y hu X hT
  obtain ⟨cM, -, -⟩ := mv_parts hm bM
  have k0 := block_allH b0
  clear hm
  by_cases q1 : l.length ≤ 100
  rotate_left
  · have q1' : (100 : Int) < (l.length : Int) := by omega
    go_wp2_with fail
    go_ret
    exact ⟨rfl, HX.out⟩
  have q1' : ¬ (100 : Int) < (l.length : Int) := by omega
  by_cases q2 : nm.size ≤ 1000
  rotate_left
  · have q2' : (1000 : Int) < (nm.size : Int) := by omega
    go_wp2_with fail
    go_ret
    exact ⟨rfl, HX.out⟩
  have q2' : ¬ (1000 : Int) < (nm.size : Int) := by omega
  by_cases q3 : m.nm.size ≤ 1000
  rotate_left
  · have q3' : (1000 : Int) < (m.nm.size : Int) := by omega
    go_wp2_with fail
    go_ret
    exact ⟨rfl, HX.out⟩
  have q3' : ¬ (1000 : Int) < (m.nm.size : Int) := by omega
  go_upto_region 5 with fail
  any_goals (exfalso; omega)
  have HB0 := Lib.hid b0
  have HBM := Lib.hid bM
  have Q1 := Lib.hid q1
  obtain ⟨R, hR⟩ : ∃ R, applyR l m = R := ⟨_, rfl⟩
  have HR := Lib.hid hR
  clear q1 q2 q3 q1' q2' q3' cM k0 b0 bM hR
  go_cut [7, 8] from 32 to 38 (fun t7 t8 wx => ∃ B7 vx, t7 = .pointer (some ⟨B7, 0, none⟩) ∧ t8 = .int .i64 R.2 ∧ wx.heap[B7]? = some (.cells #[vx] 63 (0, 0)) ∧ IsR wx vx R.1 ∧ Ext wA wx)
  case first =>
    have K0 := fun v (h : Ext wA v) => block_allH (h.keeps HB0.out)
    have hml : (Tryz.prog.info? 65).map (·.size) = some (mvC m).length := by simpa using hmi
    refine wp_region_G 8 (fun v => Ext wA v) (by kernel_rfl) fun wd hqd hHeld => ?_
    refine G_take (i := 0) (u := ?vmv1_0) rfl (by kernel_rfl) (by kernel_rfl) (by kernel_rfl) (fun _ _ _ h => h) rfl (by kernel_rfl) (by decide) (by rfl) (Or.inl ⟨by rfl, ?hymv1_0⟩) hHeld ?_
    case hymv1_0 => (intro w hSw; have kk := K0 _ hSw; go_simp; try with_reducible rfl)
    simp only [Act.put, List.setIfInBounds_toArray, List.set_cons_zero, List.set_cons_succ, List.getElem_toArray, List.getElem_cons_zero, List.getElem_cons_succ]
    refine G_take (i := 2) (u := _) rfl (by kernel_rfl) (by kernel_rfl) (by kernel_rfl) (fun _ _ _ h => h) rfl (by kernel_rfl) (by decide) (by rfl) (yieldsIf_load_mid (by rfl) _ _ rfl _ _ rfl (mvC m) _ (fun w hSw => range_blk (hSw.keeps HBM.out)) Tryz.underlying65 rfl hml) hHeld ?_
    simp only [Act.put, List.setIfInBounds_toArray, List.set_cons_zero, List.set_cons_succ, List.getElem_toArray, List.getElem_cons_zero, List.getElem_cons_succ]
    refine G_all (rs := [1, 7]) (by kernel_rfl) (by simp) ?_
    intro i hi; have hi' : i = 1 ∨ i = 7 := by simpa using hi
    clear hi; rcases hi' with rfl | rfl
    · refine wpOp_run rfl (by rfl) ?_
      go_simp
      refine Calls.mono (copiedC _ _ l (HU.out.ext hHeld) (by have := Q1.out; omega)) ?_
      rintro e wc ⟨vc, rfl, ic, xc⟩
      have hHeld := hHeld.trans xc
      first | refine ⟨fun _ => hHeld, ?_⟩ | refine ⟨hHeld, ?_⟩
      try simp only [Act.put, List.setIfInBounds_toArray, List.set_cons_zero, List.set_cons_succ, List.getElem_toArray, List.getElem_cons_zero, List.getElem_cons_succ]
      try have b7 := xc.keeps b7
      try have ic := ic.ext xc
      try have hx := hx.ext xc
      skip
      obtain ⟨wd, rfl⟩ : ∃ x, x = wc := ⟨_, rfl⟩
      refine G_all (rs := [3, 7]) (by kernel_rfl) (by simp) ?_
      intro i hi; have hi' : i = 3 ∨ i = 7 := by simpa using hi
      clear hi; rcases hi' with rfl | rfl
      · refine wpOp_run rfl (by rfl) ?_
        go_simp
        refine Calls.mono (refsApply _ _ l ic m HM.out) ?_
        rintro e wd3 ⟨vx, rfl, hx, xd3⟩
        rw [HR.out] at hx ⊢
        obtain ⟨ax, cx, rfl⟩ := sl_len hx.sl
        have hHeld := hHeld.trans xd3
        first | refine ⟨fun _ => hHeld, ?_⟩ | refine ⟨hHeld, ?_⟩
        try simp only [Act.put, List.setIfInBounds_toArray, List.set_cons_zero, List.set_cons_succ, List.getElem_toArray, List.getElem_cons_zero, List.getElem_cons_succ]
        try have b7 := xd3.keeps b7
        try have ic := ic.ext xd3
        try have hx := hx.ext xd3
        skip
        obtain ⟨wd, rfl⟩ : ∃ x, x = wd3 := ⟨_, rfl⟩
        refine G_pure (i := 4) (u := ?vmv3_4) rfl (by kernel_rfl) (by kernel_rfl) (by kernel_rfl) (fun _ _ _ h => h) (by decide) (Or.inl ⟨by rfl, ?hymv3_4⟩) hHeld ?_
        case hymv3_4 => (intro w hSw; go_simp; try with_reducible rfl)
        simp only [Act.put, List.setIfInBounds_toArray, List.set_cons_zero, List.set_cons_succ, List.getElem_toArray, List.getElem_cons_zero, List.getElem_cons_succ]
        refine G_pure (i := 5) (u := ?vmv4_5) rfl (by kernel_rfl) (by kernel_rfl) (by kernel_rfl) (fun _ _ _ h => h) (by decide) (Or.inl ⟨by rfl, ?hymv4_5⟩) hHeld ?_
        case hymv4_5 => (intro w hSw; go_simp; try with_reducible rfl)
        simp only [Act.put, List.setIfInBounds_toArray, List.set_cons_zero, List.set_cons_succ, List.getElem_toArray, List.getElem_cons_zero, List.getElem_cons_succ]
        refine G_pure (i := 6) (u := ?vmv5_6) rfl (by kernel_rfl) (by kernel_rfl) (by kernel_rfl) (fun _ _ _ h => h) (by decide) (Or.inl ⟨by rfl, ?hymv5_6⟩) hHeld ?_
        case hymv5_6 => (intro w hSw; go_simp; try with_reducible rfl)
        simp only [Act.put, List.setIfInBounds_toArray, List.set_cons_zero, List.set_cons_succ, List.getElem_toArray, List.getElem_cons_zero, List.getElem_cons_succ]
        refine G_all (rs := [7]) (by kernel_rfl) (by simp) ?_
        intro i hi; obtain rfl : i = 7 := by simpa using hi
        refine wpOp_run rfl (by rfl) ?_
        go_simp
        have b7 := heap_alloc_new wd (.cells #[.slice none 0 0] 63)
        have xa : Ext wd (wd.alloc (.cells #[.slice none 0 0] 63)) := (Ext.refl wd).alloc _
        have nw7 : _ ≤ wd.heap.size := hHeld.size
        have hHeld := hHeld.trans xa
        first | refine ⟨fun _ => hHeld, ?_⟩ | refine ⟨hHeld, ?_⟩
        try simp only [Act.put, List.setIfInBounds_toArray, List.set_cons_zero, List.set_cons_succ, List.getElem_toArray, List.getElem_cons_zero, List.getElem_cons_succ]
        try have ic := ic.ext xa
        try have hx := hx.ext xa
        clear xa
        generalize wd.heap.size = B7 at *
        generalize wd.alloc (.cells #[.slice none 0 0] 63) = wn at *
        obtain ⟨wd, rfl⟩ : ∃ x, x = wn := ⟨_, rfl⟩
        refine G_all (rs := [8]) (by kernel_rfl) (by simp) ?_
        intro i hi; obtain rfl : i = 8 := by simpa using hi
        refine wpOp_run rfl (by rfl) ?_
        refine wp_store_row 63 (.tmp 7) (.tmp 37) rfl B7 #[.slice ax R.1.length cx] (by rfl) (by rfl) 63 _ b7 (info63 _) rfl (by kernel_rfl) ?_
        try refine ⟨fun e => absurd e (by decide), ?_⟩
        refine G_free _ _ _ _ (by kernel_rfl) ?_
        try simp only [Act.put, List.setIfInBounds_toArray, List.set_cons_zero, List.set_cons_succ, List.getElem_toArray, List.getElem_cons_zero, List.getElem_cons_succ]
        refine wpAny_take (i := 9) (v := ?vmv6_9) rfl (by kernel_rfl) (by kernel_rfl) (by kernel_rfl) (fun _ _ _ h => h) (Or.inl ⟨by rfl, ?hymv6_9⟩) ?_
        case hymv6_9 => (intro w; go_simp; try with_reducible rfl)
        simp only [Act.put, List.setIfInBounds_toArray, List.set_cons_zero, List.set_cons_succ, List.getElem_toArray, List.getElem_cons_zero, List.getElem_cons_succ]
        refine wpAny_done (by kernel_rfl) ?_ _
        refine NoPanic.normal ?_
        have hF := setRow_heap wd B7 _ #[.slice ax R.1.length cx] _ _ b7
        have gg : wd.grownBy (wd.setRow B7 #[.slice ax R.1.length cx]) (some B7) := grown_setRow'
        have hxx := hHeld.grown gg (fun k hk => by cases hk; exact nw7)
        have hx := isR_apart hx b7 gg
        clear gg b7 ic
        have HFF := Lib.hid hF
        have HXR := Lib.hid hx
        clear hF hx
        go_wp2_with fail
        go_meet
        exact ⟨B7, _, rfl, rfl, HFF.out, HXR.out, hxx⟩
      · refine wpOp_run rfl (by rfl) ?_
        go_simp
        have b7 := heap_alloc_new wd (.cells #[.slice none 0 0] 63)
        have xa : Ext wd (wd.alloc (.cells #[.slice none 0 0] 63)) := (Ext.refl wd).alloc _
        have nw7 : _ ≤ wd.heap.size := hHeld.size
        have hHeld := hHeld.trans xa
        first | refine ⟨fun _ => hHeld, ?_⟩ | refine ⟨hHeld, ?_⟩
        try simp only [Act.put, List.setIfInBounds_toArray, List.set_cons_zero, List.set_cons_succ, List.getElem_toArray, List.getElem_cons_zero, List.getElem_cons_succ]
        try have ic := ic.ext xa
        try have hx := hx.ext xa
        clear xa
        generalize wd.heap.size = B7 at *
        generalize wd.alloc (.cells #[.slice none 0 0] 63) = wn at *
        obtain ⟨wd, rfl⟩ : ∃ x, x = wn := ⟨_, rfl⟩
        refine G_all (rs := [3]) (by kernel_rfl) (by simp) ?_
        intro i hi; obtain rfl : i = 3 := by simpa using hi
        refine wpOp_run rfl (by rfl) ?_
        go_simp
        refine Calls.mono (refsApply _ _ l ic m HM.out) ?_
        rintro e wd3 ⟨vx, rfl, hx, xd3⟩
        rw [HR.out] at hx ⊢
        obtain ⟨ax, cx, rfl⟩ := sl_len hx.sl
        have hHeld := hHeld.trans xd3
        first | refine ⟨fun _ => hHeld, ?_⟩ | refine ⟨hHeld, ?_⟩
        try simp only [Act.put, List.setIfInBounds_toArray, List.set_cons_zero, List.set_cons_succ, List.getElem_toArray, List.getElem_cons_zero, List.getElem_cons_succ]
        try have b7 := xd3.keeps b7
        try have ic := ic.ext xd3
        try have hx := hx.ext xd3
        skip
        obtain ⟨wd, rfl⟩ : ∃ x, x = wd3 := ⟨_, rfl⟩
        refine G_pure (i := 4) (u := ?vmv7_4) rfl (by kernel_rfl) (by kernel_rfl) (by kernel_rfl) (fun _ _ _ h => h) (by decide) (Or.inl ⟨by rfl, ?hymv7_4⟩) hHeld ?_
        case hymv7_4 => (intro w hSw; go_simp; try with_reducible rfl)
        simp only [Act.put, List.setIfInBounds_toArray, List.set_cons_zero, List.set_cons_succ, List.getElem_toArray, List.getElem_cons_zero, List.getElem_cons_succ]
        refine G_pure (i := 5) (u := ?vmv8_5) rfl (by kernel_rfl) (by kernel_rfl) (by kernel_rfl) (fun _ _ _ h => h) (by decide) (Or.inl ⟨by rfl, ?hymv8_5⟩) hHeld ?_
        case hymv8_5 => (intro w hSw; go_simp; try with_reducible rfl)
        simp only [Act.put, List.setIfInBounds_toArray, List.set_cons_zero, List.set_cons_succ, List.getElem_toArray, List.getElem_cons_zero, List.getElem_cons_succ]
        refine G_pure (i := 6) (u := ?vmv9_6) rfl (by kernel_rfl) (by kernel_rfl) (by kernel_rfl) (fun _ _ _ h => h) (by decide) (Or.inl ⟨by rfl, ?hymv9_6⟩) hHeld ?_
        case hymv9_6 => (intro w hSw; go_simp; try with_reducible rfl)
        simp only [Act.put, List.setIfInBounds_toArray, List.set_cons_zero, List.set_cons_succ, List.getElem_toArray, List.getElem_cons_zero, List.getElem_cons_succ]
        refine G_all (rs := [8]) (by kernel_rfl) (by simp) ?_
        intro i hi; obtain rfl : i = 8 := by simpa using hi
        refine wpOp_run rfl (by rfl) ?_
        refine wp_store_row 63 (.tmp 7) (.tmp 37) rfl B7 #[.slice ax R.1.length cx] (by rfl) (by rfl) 63 _ b7 (info63 _) rfl (by kernel_rfl) ?_
        try refine ⟨fun e => absurd e (by decide), ?_⟩
        refine G_free _ _ _ _ (by kernel_rfl) ?_
        try simp only [Act.put, List.setIfInBounds_toArray, List.set_cons_zero, List.set_cons_succ, List.getElem_toArray, List.getElem_cons_zero, List.getElem_cons_succ]
        refine wpAny_take (i := 9) (v := ?vmv10_9) rfl (by kernel_rfl) (by kernel_rfl) (by kernel_rfl) (fun _ _ _ h => h) (Or.inl ⟨by rfl, ?hymv10_9⟩) ?_
        case hymv10_9 => (intro w; go_simp; try with_reducible rfl)
        simp only [Act.put, List.setIfInBounds_toArray, List.set_cons_zero, List.set_cons_succ, List.getElem_toArray, List.getElem_cons_zero, List.getElem_cons_succ]
        refine wpAny_done (by kernel_rfl) ?_ _
        refine NoPanic.normal ?_
        have hF := setRow_heap wd B7 _ #[.slice ax R.1.length cx] _ _ b7
        have gg : wd.grownBy (wd.setRow B7 #[.slice ax R.1.length cx]) (some B7) := grown_setRow'
        have hxx := hHeld.grown gg (fun k hk => by cases hk; exact nw7)
        have hx := isR_apart hx b7 gg
        clear gg b7 ic
        have HFF := Lib.hid hF
        have HXR := Lib.hid hx
        clear hF hx
        go_wp2_with fail
        go_meet
        exact ⟨B7, _, rfl, rfl, HFF.out, HXR.out, hxx⟩
    · refine wpOp_run rfl (by rfl) ?_
      go_simp
      have b7 := heap_alloc_new wd (.cells #[.slice none 0 0] 63)
      have xa : Ext wd (wd.alloc (.cells #[.slice none 0 0] 63)) := (Ext.refl wd).alloc _
      have nw7 : _ ≤ wd.heap.size := hHeld.size
      have hHeld := hHeld.trans xa
      first | refine ⟨fun _ => hHeld, ?_⟩ | refine ⟨hHeld, ?_⟩
      try simp only [Act.put, List.setIfInBounds_toArray, List.set_cons_zero, List.set_cons_succ, List.getElem_toArray, List.getElem_cons_zero, List.getElem_cons_succ]
      try have ic := ic.ext xa
      try have hx := hx.ext xa
      clear xa
      generalize wd.heap.size = B7 at *
      generalize wd.alloc (.cells #[.slice none 0 0] 63) = wn at *
      obtain ⟨wd, rfl⟩ : ∃ x, x = wn := ⟨_, rfl⟩
      refine G_all (rs := [1]) (by kernel_rfl) (by simp) ?_
      intro i hi; obtain rfl : i = 1 := by simpa using hi
      refine wpOp_run rfl (by rfl) ?_
      go_simp
      refine Calls.mono (copiedC _ _ l (HU.out.ext hHeld) (by have := Q1.out; omega)) ?_
      rintro e wc ⟨vc, rfl, ic, xc⟩
      have hHeld := hHeld.trans xc
      first | refine ⟨fun _ => hHeld, ?_⟩ | refine ⟨hHeld, ?_⟩
      try simp only [Act.put, List.setIfInBounds_toArray, List.set_cons_zero, List.set_cons_succ, List.getElem_toArray, List.getElem_cons_zero, List.getElem_cons_succ]
      try have b7 := xc.keeps b7
      try have ic := ic.ext xc
      try have hx := hx.ext xc
      skip
      obtain ⟨wd, rfl⟩ : ∃ x, x = wc := ⟨_, rfl⟩
      refine G_all (rs := [3]) (by kernel_rfl) (by simp) ?_
      intro i hi; obtain rfl : i = 3 := by simpa using hi
      refine wpOp_run rfl (by rfl) ?_
      go_simp
      refine Calls.mono (refsApply _ _ l ic m HM.out) ?_
      rintro e wd3 ⟨vx, rfl, hx, xd3⟩
      rw [HR.out] at hx ⊢
      obtain ⟨ax, cx, rfl⟩ := sl_len hx.sl
      have hHeld := hHeld.trans xd3
      first | refine ⟨fun _ => hHeld, ?_⟩ | refine ⟨hHeld, ?_⟩
      try simp only [Act.put, List.setIfInBounds_toArray, List.set_cons_zero, List.set_cons_succ, List.getElem_toArray, List.getElem_cons_zero, List.getElem_cons_succ]
      try have b7 := xd3.keeps b7
      try have ic := ic.ext xd3
      try have hx := hx.ext xd3
      skip
      obtain ⟨wd, rfl⟩ : ∃ x, x = wd3 := ⟨_, rfl⟩
      refine G_pure (i := 4) (u := ?vmv11_4) rfl (by kernel_rfl) (by kernel_rfl) (by kernel_rfl) (fun _ _ _ h => h) (by decide) (Or.inl ⟨by rfl, ?hymv11_4⟩) hHeld ?_
      case hymv11_4 => (intro w hSw; go_simp; try with_reducible rfl)
      simp only [Act.put, List.setIfInBounds_toArray, List.set_cons_zero, List.set_cons_succ, List.getElem_toArray, List.getElem_cons_zero, List.getElem_cons_succ]
      refine G_pure (i := 5) (u := ?vmv12_5) rfl (by kernel_rfl) (by kernel_rfl) (by kernel_rfl) (fun _ _ _ h => h) (by decide) (Or.inl ⟨by rfl, ?hymv12_5⟩) hHeld ?_
      case hymv12_5 => (intro w hSw; go_simp; try with_reducible rfl)
      simp only [Act.put, List.setIfInBounds_toArray, List.set_cons_zero, List.set_cons_succ, List.getElem_toArray, List.getElem_cons_zero, List.getElem_cons_succ]
      refine G_pure (i := 6) (u := ?vmv13_6) rfl (by kernel_rfl) (by kernel_rfl) (by kernel_rfl) (fun _ _ _ h => h) (by decide) (Or.inl ⟨by rfl, ?hymv13_6⟩) hHeld ?_
      case hymv13_6 => (intro w hSw; go_simp; try with_reducible rfl)
      simp only [Act.put, List.setIfInBounds_toArray, List.set_cons_zero, List.set_cons_succ, List.getElem_toArray, List.getElem_cons_zero, List.getElem_cons_succ]
      refine G_all (rs := [8]) (by kernel_rfl) (by simp) ?_
      intro i hi; obtain rfl : i = 8 := by simpa using hi
      refine wpOp_run rfl (by rfl) ?_
      refine wp_store_row 63 (.tmp 7) (.tmp 37) rfl B7 #[.slice ax R.1.length cx] (by rfl) (by rfl) 63 _ b7 (info63 _) rfl (by kernel_rfl) ?_
      try refine ⟨fun e => absurd e (by decide), ?_⟩
      refine G_free _ _ _ _ (by kernel_rfl) ?_
      try simp only [Act.put, List.setIfInBounds_toArray, List.set_cons_zero, List.set_cons_succ, List.getElem_toArray, List.getElem_cons_zero, List.getElem_cons_succ]
      refine wpAny_take (i := 9) (v := ?vmv14_9) rfl (by kernel_rfl) (by kernel_rfl) (by kernel_rfl) (fun _ _ _ h => h) (Or.inl ⟨by rfl, ?hymv14_9⟩) ?_
      case hymv14_9 => (intro w; go_simp; try with_reducible rfl)
      simp only [Act.put, List.setIfInBounds_toArray, List.set_cons_zero, List.set_cons_succ, List.getElem_toArray, List.getElem_cons_zero, List.getElem_cons_succ]
      refine wpAny_done (by kernel_rfl) ?_ _
      refine NoPanic.normal ?_
      have hF := setRow_heap wd B7 _ #[.slice ax R.1.length cx] _ _ b7
      have gg : wd.grownBy (wd.setRow B7 #[.slice ax R.1.length cx]) (some B7) := grown_setRow'
      have hxx := hHeld.grown gg (fun k hk => by cases hk; exact nw7)
      have hx := isR_apart hx b7 gg
      clear gg b7 ic
      have HFF := Lib.hid hF
      have HXR := Lib.hid hx
      clear hF hx
      go_wp2_with fail
      go_meet
      exact ⟨B7, _, rfl, rfl, HFF.out, HXR.out, hxx⟩
  case rest =>
    obtain ⟨B7, vx, rfl, rfl, b7, hx, x2⟩ := hcut
    have k0 := block_allH (x2.keeps HB0.out)
    have bM := x2.keeps HBM.out
    have HB7 := Lib.hid b7
    have HXX := Lib.hid hx
    obtain ⟨ax, cx, rfl⟩ := sl_len hx.sl
    clear b7 hx
    go_wp2_with ((with_reducible refine at_load 65 (.tmp 4) ?_); refine wpl_load (by rfl) 65 (.tmp 4) rfl (G + 1) (by rfl) 65 (mvC m).toArray (0, 0) _ bM Tryz.underlying65 rfl hmi ?_)
    refine Calls.mono (refApply09 _ _ l (HU.out.ext x2) Q1.out m HM.out) ?_
    rintro e w3 ⟨vw, rfl, hw, x3⟩
    rw [apply_eq, HR.out] at hw ⊢
    obtain ⟨aw, cw, rfl⟩ := sl_len hw.sl
    have HW := Lib.hid hw
    clear hw k0 bM
    go_upto_region 7 with fail
    refine wp_forgetH (fun W => Ext w3 W ∧ W.heap[w3.heap.size]? = some (.cells #[.slice aw R.1.length cw] 63 (0, 0))) ⟨(Ext.refl w3).alloc _, heap_alloc_new _ _⟩ ?_
    rintro w4 ⟨x4, b9⟩
    generalize w3.heap.size = B9 at *
    have x24 := x3.trans x4
    have X4 := x2.trans x24
    obtain ⟨q, hq⟩ : ∃ q, listEq rfEq l R.1 = q := ⟨_, rfl⟩
    have HQ := Lib.hid hq
    have HU4 := Lib.hid (HU.out.ext X4)
    have HX4 := Lib.hid (HXX.out.ext x24)
    have HW4 := Lib.hid (HW.out.ext x4)
    have K7 := fun v (h : Ext w4 v) => block_allH (h.keeps (x24.keeps HB7.out))
    have K9 := fun v (h : Ext w4 v) => block_allH (h.keeps b9)
    have K0 := fun v (h : Ext w4 v) => block_allH (h.keeps (X4.keeps HB0.out))
    clear hq x2 x3 x4 b9 x24
    go_cut [69] from 45 to 69 (fun t69 wx => t69 = .bool false ∧ Ext w4 wx)
    case first =>
      refine wp_region_S (fun v => Ext w4 v) (by kernel_rfl) (fun w' h => h) fun wd hqd xd hHeld => ?_
      refine wpAnyH_take (i := 0) (v := ?vck0) rfl (by kernel_rfl) (by kernel_rfl) (by kernel_rfl) (fun _ _ _ h => h) (Or.inl ⟨by rfl, ?hyck0⟩) hHeld ?_
      case hyck0 => (intro w hSw; go_simp; try with_reducible rfl)
      simp only [Act.put, List.setIfInBounds_toArray, List.set_cons_zero, List.set_cons_succ, List.getElem_toArray, List.getElem_cons_zero, List.getElem_cons_succ]
      refine wpAnyH_take (i := 1) (v := ?vck1) rfl (by kernel_rfl) (by kernel_rfl) (by kernel_rfl) (fun _ _ _ h => h) (Or.inl ⟨by rfl, ?hyck1⟩) hHeld ?_
      case hyck1 => (intro w hSw; go_simp; try with_reducible rfl)
      simp only [Act.put, List.setIfInBounds_toArray, List.set_cons_zero, List.set_cons_succ, List.getElem_toArray, List.getElem_cons_zero, List.getElem_cons_succ]
      refine wpAnyH_take (i := 2) (v := ?vck2) rfl (by kernel_rfl) (by kernel_rfl) (by kernel_rfl) (fun _ _ _ h => h) (Or.inl ⟨by rfl, ?hyck2⟩) hHeld ?_
      case hyck2 => (intro w hSw; go_simp; try with_reducible rfl)
      simp only [Act.put, List.setIfInBounds_toArray, List.set_cons_zero, List.set_cons_succ, List.getElem_toArray, List.getElem_cons_zero, List.getElem_cons_succ]
      refine wpAnyH_take (i := 3) (v := ?vck3) rfl (by kernel_rfl) (by kernel_rfl) (by kernel_rfl) (fun _ _ _ h => h) (Or.inl ⟨by rfl, ?hyck3⟩) hHeld ?_
      case hyck3 => (intro w hSw; go_simp; try with_reducible rfl)
      simp only [Act.put, List.setIfInBounds_toArray, List.set_cons_zero, List.set_cons_succ, List.getElem_toArray, List.getElem_cons_zero, List.getElem_cons_succ]
      refine wpAnyH_take (i := 4) (v := ?vck4) rfl (by kernel_rfl) (by kernel_rfl) (by kernel_rfl) (fun _ _ _ h => h) (Or.inl ⟨by rfl, ?hyck4⟩) hHeld ?_
      case hyck4 => (intro w hSw; have kk := K7 _ hSw; go_simp; try with_reducible rfl)
      simp only [Act.put, List.setIfInBounds_toArray, List.set_cons_zero, List.set_cons_succ, List.getElem_toArray, List.getElem_cons_zero, List.getElem_cons_succ]
      refine wpAnyH_take (i := 5) (v := ?vck5) rfl (by kernel_rfl) (by kernel_rfl) (by kernel_rfl) (fun _ _ _ h => h) (Or.inl ⟨by rfl, ?hyck5⟩) hHeld ?_
      case hyck5 => (intro w hSw; have kk := K9 _ hSw; go_simp; try with_reducible rfl)
      simp only [Act.put, List.setIfInBounds_toArray, List.set_cons_zero, List.set_cons_succ, List.getElem_toArray, List.getElem_cons_zero, List.getElem_cons_succ]
      refine wpAnyH_all (rs := [6]) (by kernel_rfl) (by simp) ?_
      intro i hi; obtain rfl : i = 6 := by simpa using hi
      refine wpOp_run rfl (by rfl) ?_
      go_simp
      refine Calls.mono (refSame09 _ _ _ R.1 R.1 (HX4.out.ext hHeld) (HW4.out.ext hHeld)) ?_
      rintro e u6 ⟨rfl, xu6⟩
      rw [refs_self]
      have hHeld := hHeld.trans xu6
      first | refine ⟨fun _ => hHeld, ?_⟩ | refine ⟨hHeld, ?_⟩
      try simp only [Act.put, List.setIfInBounds_toArray, List.set_cons_zero, List.set_cons_succ, List.getElem_toArray, List.getElem_cons_zero, List.getElem_cons_succ]
      refine wpAnyH_take (i := 7) (v := ?vck7) rfl (by kernel_rfl) (by kernel_rfl) (by kernel_rfl) (fun _ _ _ h => h) (Or.inl ⟨by rfl, ?hyck7⟩) hHeld ?_
      case hyck7 => (intro w hSw; go_simp; try with_reducible rfl)
      simp only [Act.put, List.setIfInBounds_toArray, List.set_cons_zero, List.set_cons_succ, List.getElem_toArray, List.getElem_cons_zero, List.getElem_cons_succ]
      refine wpAnyH_take (i := 8) (v := ?vck8) rfl (by kernel_rfl) (by kernel_rfl) (by kernel_rfl) (fun _ _ _ h => h) (Or.inl ⟨by rfl, ?hyck8⟩) hHeld ?_
      case hyck8 => (intro w hSw; go_simp; try with_reducible rfl)
      simp only [Act.put, List.setIfInBounds_toArray, List.set_cons_zero, List.set_cons_succ, List.getElem_toArray, List.getElem_cons_zero, List.getElem_cons_succ]
      refine wpAnyH_take (i := 9) (v := ?vck9) rfl (by kernel_rfl) (by kernel_rfl) (by kernel_rfl) (fun _ _ _ h => h) (Or.inl ⟨by rfl, ?hyck9⟩) hHeld ?_
      case hyck9 => (intro w hSw; go_simp; try with_reducible rfl)
      simp only [Act.put, List.setIfInBounds_toArray, List.set_cons_zero, List.set_cons_succ, List.getElem_toArray, List.getElem_cons_zero, List.getElem_cons_succ]
      refine wpAnyH_take (i := 10) (v := ?vck10) rfl (by kernel_rfl) (by kernel_rfl) (by kernel_rfl) (fun _ _ _ h => h) (Or.inl ⟨by rfl, ?hyck10⟩) hHeld ?_
      case hyck10 => (intro w hSw; have kk := K0 _ hSw; go_simp; try with_reducible rfl)
      simp only [Act.put, List.setIfInBounds_toArray, List.set_cons_zero, List.set_cons_succ, List.getElem_toArray, List.getElem_cons_zero, List.getElem_cons_succ]
      refine wpAnyH_take (i := 11) (v := ?vck11) rfl (by kernel_rfl) (by kernel_rfl) (by kernel_rfl) (fun _ _ _ h => h) (Or.inl ⟨by rfl, ?hyck11⟩) hHeld ?_
      case hyck11 => (intro w hSw; have kk := K0 _ hSw; go_simp; try with_reducible rfl)
      simp only [Act.put, List.setIfInBounds_toArray, List.set_cons_zero, List.set_cons_succ, List.getElem_toArray, List.getElem_cons_zero, List.getElem_cons_succ]
      refine wpAnyH_all (rs := [12]) (by kernel_rfl) (by simp) ?_
      intro i hi; obtain rfl : i = 12 := by simpa using hi
      refine wpOp_run rfl (by rfl) ?_
      go_simp
      refine Calls.mono (copiedC _ _ l (HU4.out.ext hHeld) (by have := Q1.out; omega)) ?_
      rintro e u12 ⟨vc, rfl, hc, xu12⟩
      have hHeld := hHeld.trans xu12
      first | refine ⟨fun _ => hHeld, ?_⟩ | refine ⟨hHeld, ?_⟩
      try simp only [Act.put, List.setIfInBounds_toArray, List.set_cons_zero, List.set_cons_succ, List.getElem_toArray, List.getElem_cons_zero, List.getElem_cons_succ]
      refine wpAnyH_all (rs := [13]) (by kernel_rfl) (by simp) ?_
      intro i hi; obtain rfl : i = 13 := by simpa using hi
      refine wpOp_run rfl (by rfl) ?_
      go_simp
      refine Calls.mono (refsSame _ _ _ l l (HU4.out.ext hHeld) hc) ?_
      rintro e u13 ⟨rfl, xu13⟩
      rw [refs_self]
      have hHeld := hHeld.trans xu13
      first | refine ⟨fun _ => hHeld, ?_⟩ | refine ⟨hHeld, ?_⟩
      try simp only [Act.put, List.setIfInBounds_toArray, List.set_cons_zero, List.set_cons_succ, List.getElem_toArray, List.getElem_cons_zero, List.getElem_cons_succ]
      refine wpAnyH_take (i := 14) (v := ?vck14) rfl (by kernel_rfl) (by kernel_rfl) (by kernel_rfl) (fun _ _ _ h => h) (Or.inl ⟨by rfl, ?hyck14⟩) hHeld ?_
      case hyck14 => (intro w hSw; go_simp; try with_reducible rfl)
      simp only [Act.put, List.setIfInBounds_toArray, List.set_cons_zero, List.set_cons_succ, List.getElem_toArray, List.getElem_cons_zero, List.getElem_cons_succ]
      refine wpAnyH_take (i := 15) (v := ?vck15) rfl (by kernel_rfl) (by kernel_rfl) (by kernel_rfl) (fun _ _ _ h => h) (Or.inl ⟨by rfl, ?hyck15⟩) hHeld ?_
      case hyck15 => (intro w hSw; go_simp; try with_reducible rfl)
      simp only [Act.put, List.setIfInBounds_toArray, List.set_cons_zero, List.set_cons_succ, List.getElem_toArray, List.getElem_cons_zero, List.getElem_cons_succ]
      refine wpAnyH_take (i := 16) (v := ?vck16) rfl (by kernel_rfl) (by kernel_rfl) (by kernel_rfl) (fun _ _ _ h => h) (Or.inl ⟨by rfl, ?hyck16⟩) hHeld ?_
      case hyck16 => (intro w hSw; go_simp; try with_reducible rfl)
      simp only [Act.put, List.setIfInBounds_toArray, List.set_cons_zero, List.set_cons_succ, List.getElem_toArray, List.getElem_cons_zero, List.getElem_cons_succ]
      refine wpAnyH_take (i := 17) (v := ?vck17) rfl (by kernel_rfl) (by kernel_rfl) (by kernel_rfl) (fun _ _ _ h => h) (Or.inl ⟨by rfl, ?hyck17⟩) hHeld ?_
      case hyck17 => (intro w hSw; have kk := K0 _ hSw; go_simp; try with_reducible rfl)
      simp only [Act.put, List.setIfInBounds_toArray, List.set_cons_zero, List.set_cons_succ, List.getElem_toArray, List.getElem_cons_zero, List.getElem_cons_succ]
      refine wpAnyH_take (i := 18) (v := ?vck18) rfl (by kernel_rfl) (by kernel_rfl) (by kernel_rfl) (fun _ _ _ h => h) (Or.inl ⟨by rfl, ?hyck18⟩) hHeld ?_
      case hyck18 => (intro w hSw; have kk := K7 _ hSw; go_simp; try with_reducible rfl)
      simp only [Act.put, List.setIfInBounds_toArray, List.set_cons_zero, List.set_cons_succ, List.getElem_toArray, List.getElem_cons_zero, List.getElem_cons_succ]
      refine wpAnyH_take (i := 20) (v := ?vck20) rfl (by kernel_rfl) (by kernel_rfl) (by kernel_rfl) (fun _ _ _ h => h) (Or.inl ⟨by rfl, ?hyck20⟩) hHeld ?_
      case hyck20 => (intro w hSw; have kk := K0 _ hSw; go_simp; try with_reducible rfl)
      simp only [Act.put, List.setIfInBounds_toArray, List.set_cons_zero, List.set_cons_succ, List.getElem_toArray, List.getElem_cons_zero, List.getElem_cons_succ]
      refine wpAnyH_take (i := 21) (v := ?vck21) rfl (by kernel_rfl) (by kernel_rfl) (by kernel_rfl) (fun _ _ _ h => h) (Or.inl ⟨by rfl, ?hyck21⟩) hHeld ?_
      case hyck21 => (intro w hSw; have kk := K7 _ hSw; go_simp; try with_reducible rfl)
      simp only [Act.put, List.setIfInBounds_toArray, List.set_cons_zero, List.set_cons_succ, List.getElem_toArray, List.getElem_cons_zero, List.getElem_cons_succ]
      refine wpAnyH_all (rs := [19]) (by kernel_rfl) (by simp) ?_
      intro i hi; obtain rfl : i = 19 := by simpa using hi
      refine wpOp_run rfl (by rfl) ?_
      go_simp
      refine Calls.mono (refsSame _ _ _ l R.1 (HU4.out.ext hHeld) (HX4.out.ext hHeld)) ?_
      rintro e u19 ⟨rfl, xu19⟩
      rw [HQ.out]
      have hHeld := hHeld.trans xu19
      first | refine ⟨fun _ => hHeld, ?_⟩ | refine ⟨hHeld, ?_⟩
      try simp only [Act.put, List.setIfInBounds_toArray, List.set_cons_zero, List.set_cons_succ, List.getElem_toArray, List.getElem_cons_zero, List.getElem_cons_succ]
      refine wpAnyH_all (rs := [22]) (by kernel_rfl) (by simp) ?_
      intro i hi; obtain rfl : i = 22 := by simpa using hi
      refine wpOp_run rfl (by rfl) ?_
      go_simp
      refine Calls.mono (refSame09 _ _ _ l R.1 (HU4.out.ext hHeld) (HX4.out.ext hHeld)) ?_
      rintro e u22 ⟨rfl, xu22⟩
      rw [HQ.out]
      have hHeld := hHeld.trans xu22
      first | refine ⟨fun _ => hHeld, ?_⟩ | refine ⟨hHeld, ?_⟩
      try simp only [Act.put, List.setIfInBounds_toArray, List.set_cons_zero, List.set_cons_succ, List.getElem_toArray, List.getElem_cons_zero, List.getElem_cons_succ]
      refine wpAnyH_take (i := 23) (v := ?vck23) rfl (by kernel_rfl) (by kernel_rfl) (by kernel_rfl) (fun _ _ _ h => h) (Or.inl ⟨by rfl, ?hyck23⟩) hHeld ?_
      case hyck23 => (intro w hSw; go_simp; try with_reducible rfl)
      simp only [Act.put, List.setIfInBounds_toArray, List.set_cons_zero, List.set_cons_succ, List.getElem_toArray, List.getElem_cons_zero, List.getElem_cons_succ]
      refine wpAnyH_take (i := 24) (v := ?vck24) rfl (by kernel_rfl) (by kernel_rfl) (by kernel_rfl) (fun _ _ _ h => h) (Or.inl ⟨by rfl, ?hyck24⟩) hHeld ?_
      case hyck24 => (intro w hSw; go_simp; try with_reducible rfl)
      simp only [Act.put, List.setIfInBounds_toArray, List.set_cons_zero, List.set_cons_succ, List.getElem_toArray, List.getElem_cons_zero, List.getElem_cons_succ]
      refine wpAnyH_done (by kernel_rfl) ?_ _
      refine NoPanic.normal ?_
      go_wp2_with fail
      go_meet
      exact ⟨rfl, hHeld⟩
    case rest =>
    obtain ⟨rfl, x5⟩ := hcut
    rename_i w5
    have XW := X4.trans x5
    have k0 := block_allH (XW.keeps HB0.out)
    have hlok := HU.out.ok
    have hz32 : z32.length = 32 := rfl
    clear K7 K9 K0 X4 x5
    cases hok : okR l with
    | false =>
      have HOK := Lib.hid hok
      have HGA := Lib.hid (show getA l nm = (z32, 190) by unfold getA; rw [if_pos hok])
      obtain ⟨gv, hgv⟩ : ∃ gv, gtV l nm = gv := ⟨_, rfl⟩
      have hvl : gv.1.length = 32 := by rw [← hgv]; exact gtV_len l hlok nm
      have HGV := Lib.hid hgv
      have ez := fun w => eql_zero w z32 rfl
      rw [decide_eq_true (rfl : z32 = z32)] at ez
      clear hok hgv hlok
      go_wp2_with fail
      refine Calls.mono (copiedC _ _ l (HU.out.ext XW) (by have := Q1.out; omega)) ?_
      rintro e wc ⟨vc, rfl, hc, xc⟩
      have HC := Lib.hid hc
      clear hc k0
      go_wp2_with fail
      refine Calls.mono (refsGet _ _ l HC.out nm) ?_
      rintro e wg ⟨rfl, xg⟩
      rw [HGA.out]
      go_upto_region 10 with ((with_reducible refine at_store 33 (.tmp 11) (.tmp 75) ?_); refine wpl_store (by rfl) 33 (.tmp 11) (.tmp 75) rfl _ (z32.map bc).toArray (by rfl) (by rfl) 33 _ (heap_alloc_new _ _) (id_size hz32) (id_same (a := z32) rfl hz32) (id_one _) ?_; rw [World.setRow_alloc_new])
      have XG := XW.trans (xc.trans xg)
      refine wp_forgetH (fun W => Ext wg W ∧ W.heap[wg.heap.size]? = some (.cells (z32.map bc).toArray 33 (0, 0))) ⟨(Ext.refl wg).alloc _, heap_alloc_new _ _⟩ ?_
      rintro wh ⟨xh, b11⟩
      generalize wg.heap.size = B11 at *
      have XH := XG.trans xh
      have k0 := block_allH (XH.keeps HB0.out)
      clear xc xg xh XG XW HC
      go_wp2_with fail
      refine Calls.mono (refGet09 _ _ l (HU.out.ext XH) nm) ?_
      rintro e wi ⟨rfl, xi⟩
      rw [HGV.out]
      have b11 := xi.keeps b11
      go_upto_region 11 with ((with_reducible refine at_store 33 (.tmp 13) (.tmp 81) ?_); refine wpl_store (by rfl) 33 (.tmp 13) (.tmp 81) rfl _ (gv.1.map bc).toArray (by rfl) (by rfl) 33 _ (heap_alloc_new _ _) (id_size hvl) (id_same (a := z32) rfl hvl) (id_one _) ?_; rw [World.setRow_alloc_new])
      have XI := XH.trans xi
      refine wp_forgetH (fun W => Ext wi W ∧ W.heap[wi.heap.size]? = some (.cells (gv.1.map bc).toArray 33 (0, 0))) ⟨(Ext.refl wi).alloc _, heap_alloc_new _ _⟩ ?_
      rintro wj ⟨xj, b13⟩
      generalize wi.heap.size = B13 at *
      have XJ := XI.trans xj
      have b11 := xj.keeps b11
      have k0 := block_allH (XJ.keeps HB0.out)
      clear xi xj XI XH
      go_wp2_with fail
      refine Calls.mono (refRight09 _ _ l (HU.out.ext XJ)) ?_
      rintro e wk ⟨rfl, xk⟩
      rw [HOK.out]
      have b11 := xk.keeps b11
      have b13 := xk.keeps b13
      have XK := XJ.trans xk
      have k0 := block_allH (XK.keeps HB0.out)
      clear XJ xk
      go_wp2_with (first
        | ((with_reducible refine at_load 33 (.tmp 11) ?_); refine wpl_load (by rfl) 33 (.tmp 11) rfl B11 (by rfl) 33 (z32.map bc).toArray (0, 0) _ b11 Tryz.underlying33 rfl (id_size hz32) ?_)
        | ((with_reducible refine at_load 33 (.tmp 13) ?_); refine wpl_load (by rfl) 33 (.tmp 13) rfl B13 (by rfl) 33 (gv.1.map bc).toArray (0, 0) _ b13 Tryz.underlying33 rfl (id_size hvl) ?_))
      refine Calls.mono (copiedC _ _ l (HU.out.ext XK) (by have := Q1.out; omega)) ?_
      rintro e wl ⟨vl2, rfl, hl2, xl⟩
      have HL2 := Lib.hid hl2
      clear hl2 k0
      go_wp2_with fail
      refine Calls.mono (refsCheck _ _ l HL2.out) ?_
      rintro e wn ⟨rfl, xn⟩
      rw [HOK.out]
      have hck : chkR false = 190 := rfl
      rw [hck]
      go_wp2_with fail
      go_ret
      exact ⟨rfl, HX.out.trans (XK.trans (xl.trans xn))⟩
    | true =>
    have hga : getA l nm = match getR l nm with | some e => (e.id, 0) | none => (z32, 4) := by unfold getA; rw [if_neg (by rw [hok]; decide)]; cases getR l nm <;> rfl
    have hgv := gtV_is nm l
    have HOK := Lib.hid hok
    clear hok
    cases hg : getR l nm with
    | none =>
      rw [hg] at hga hgv
      have HGA := Lib.hid hga
      have HGV := Lib.hid hgv
      have ez := fun w => eql_id w z32 z32 rfl rfl
      rw [decide_eq_true (rfl : z32 = z32)] at ez
      clear hga hgv hg hlok
      go_wp2_with fail
      refine Calls.mono (copiedC _ _ l (HU.out.ext XW) (by have := Q1.out; omega)) ?_
      rintro e wc ⟨vc, rfl, hc, xc⟩
      have HC := Lib.hid hc
      clear hc k0
      go_wp2_with fail
      refine Calls.mono (refsGet _ _ l HC.out nm) ?_
      rintro e wg ⟨rfl, xg⟩
      rw [HGA.out]
      go_upto_region 10 with ((with_reducible refine at_store 33 (.tmp 11) (.tmp 75) ?_); refine wpl_store (by rfl) 33 (.tmp 11) (.tmp 75) rfl _ (z32.map bc).toArray (by rfl) (by rfl) 33 _ (heap_alloc_new _ _) (id_size hz32) (id_same (a := z32) rfl hz32) (id_one _) ?_; rw [World.setRow_alloc_new])
      have XG := XW.trans (xc.trans xg)
      refine wp_forgetH (fun W => Ext wg W ∧ W.heap[wg.heap.size]? = some (.cells (z32.map bc).toArray 33 (0, 0))) ⟨(Ext.refl wg).alloc _, heap_alloc_new _ _⟩ ?_
      rintro wh ⟨xh, b11⟩
      generalize wg.heap.size = B11 at *
      have XH := XG.trans xh
      have k0 := block_allH (XH.keeps HB0.out)
      clear xc xg xh XG XW HC
      go_wp2_with fail
      refine Calls.mono (refGet09 _ _ l (HU.out.ext XH) nm) ?_
      rintro e wi ⟨rfl, xi⟩
      rw [HGV.out]
      have b11 := xi.keeps b11
      go_upto_region 11 with ((with_reducible refine at_store 33 (.tmp 13) (.tmp 81) ?_); refine wpl_store (by rfl) 33 (.tmp 13) (.tmp 81) rfl _ (z32.map bc).toArray (by rfl) (by rfl) 33 _ (heap_alloc_new _ _) (id_size hz32) (id_same (a := z32) rfl hz32) (id_one _) ?_; rw [World.setRow_alloc_new])
      have XI := XH.trans xi
      refine wp_forgetH (fun W => Ext wi W ∧ W.heap[wi.heap.size]? = some (.cells (z32.map bc).toArray 33 (0, 0))) ⟨(Ext.refl wi).alloc _, heap_alloc_new _ _⟩ ?_
      rintro wj ⟨xj, b13⟩
      generalize wi.heap.size = B13 at *
      have XJ := XI.trans xj
      have b11 := xj.keeps b11
      have k0 := block_allH (XJ.keeps HB0.out)
      clear xi xj XI XH
      go_wp2_with fail
      refine Calls.mono (refRight09 _ _ l (HU.out.ext XJ)) ?_
      rintro e wk ⟨rfl, xk⟩
      rw [HOK.out]
      have b11 := xk.keeps b11
      have b13 := xk.keeps b13
      have XK := XJ.trans xk
      have k0 := block_allH (XK.keeps HB0.out)
      clear XJ xk
      go_wp2_with (first
        | ((with_reducible refine at_load 33 (.tmp 11) ?_); refine wpl_load (by rfl) 33 (.tmp 11) rfl B11 (by rfl) 33 (z32.map bc).toArray (0, 0) _ b11 Tryz.underlying33 rfl (id_size hz32) ?_)
        | ((with_reducible refine at_load 33 (.tmp 13) ?_); refine wpl_load (by rfl) 33 (.tmp 13) rfl B13 (by rfl) 33 (z32.map bc).toArray (0, 0) _ b13 Tryz.underlying33 rfl (id_size hz32) ?_))
      refine Calls.mono (copiedC _ _ l (HU.out.ext XK) (by have := Q1.out; omega)) ?_
      rintro e wl ⟨vl2, rfl, hl2, xl⟩
      have HL2 := Lib.hid hl2
      clear hl2 k0
      go_wp2_with fail
      refine Calls.mono (refsCheck _ _ l HL2.out) ?_
      rintro e wn ⟨rfl, xn⟩
      rw [HOK.out]
      have hck : chkR true = 0 := rfl
      rw [hck]
      go_wp2_with fail
      go_ret
      exact ⟨rfl, HX.out.trans (XK.trans (xl.trans xn))⟩
    | some e1 =>
      rw [hg] at hga hgv
      obtain ⟨i1, hi1⟩ : ∃ i1, e1.id = i1 := ⟨_, rfl⟩
      have hvl : i1.length = 32 := by rw [← hi1]; exact (hlok _ (getR_some hg).1).1
      simp only [hi1] at hga hgv
      have HGA := Lib.hid hga
      have HGV := Lib.hid hgv
      have ez := fun w => eql_id w i1 i1 hvl hvl
      rw [decide_eq_true (rfl : i1 = i1)] at ez
      clear hga hgv hg hlok hi1
      go_wp2_with fail
      refine Calls.mono (copiedC _ _ l (HU.out.ext XW) (by have := Q1.out; omega)) ?_
      rintro e wc ⟨vc, rfl, hc, xc⟩
      have HC := Lib.hid hc
      clear hc k0
      go_wp2_with fail
      refine Calls.mono (refsGet _ _ l HC.out nm) ?_
      rintro e wg ⟨rfl, xg⟩
      rw [HGA.out]
      go_upto_region 10 with ((with_reducible refine at_store 33 (.tmp 11) (.tmp 75) ?_); refine wpl_store (by rfl) 33 (.tmp 11) (.tmp 75) rfl _ (i1.map bc).toArray (by rfl) (by rfl) 33 _ (heap_alloc_new _ _) (id_size hvl) (id_same (a := z32) rfl hvl) (id_one _) ?_; rw [World.setRow_alloc_new])
      have XG := XW.trans (xc.trans xg)
      refine wp_forgetH (fun W => Ext wg W ∧ W.heap[wg.heap.size]? = some (.cells (i1.map bc).toArray 33 (0, 0))) ⟨(Ext.refl wg).alloc _, heap_alloc_new _ _⟩ ?_
      rintro wh ⟨xh, b11⟩
      generalize wg.heap.size = B11 at *
      have XH := XG.trans xh
      have k0 := block_allH (XH.keeps HB0.out)
      clear xc xg xh XG XW HC
      go_wp2_with fail
      refine Calls.mono (refGet09 _ _ l (HU.out.ext XH) nm) ?_
      rintro e wi ⟨rfl, xi⟩
      rw [HGV.out]
      have b11 := xi.keeps b11
      go_upto_region 11 with ((with_reducible refine at_store 33 (.tmp 13) (.tmp 81) ?_); refine wpl_store (by rfl) 33 (.tmp 13) (.tmp 81) rfl _ (i1.map bc).toArray (by rfl) (by rfl) 33 _ (heap_alloc_new _ _) (id_size hvl) (id_same (a := z32) rfl hvl) (id_one _) ?_; rw [World.setRow_alloc_new])
      have XI := XH.trans xi
      refine wp_forgetH (fun W => Ext wi W ∧ W.heap[wi.heap.size]? = some (.cells (i1.map bc).toArray 33 (0, 0))) ⟨(Ext.refl wi).alloc _, heap_alloc_new _ _⟩ ?_
      rintro wj ⟨xj, b13⟩
      generalize wi.heap.size = B13 at *
      have XJ := XI.trans xj
      have b11 := xj.keeps b11
      have k0 := block_allH (XJ.keeps HB0.out)
      clear xi xj XI XH
      go_wp2_with fail
      refine Calls.mono (refRight09 _ _ l (HU.out.ext XJ)) ?_
      rintro e wk ⟨rfl, xk⟩
      rw [HOK.out]
      have b11 := xk.keeps b11
      have b13 := xk.keeps b13
      have XK := XJ.trans xk
      have k0 := block_allH (XK.keeps HB0.out)
      clear XJ xk
      go_wp2_with (first
        | ((with_reducible refine at_load 33 (.tmp 11) ?_); refine wpl_load (by rfl) 33 (.tmp 11) rfl B11 (by rfl) 33 (i1.map bc).toArray (0, 0) _ b11 Tryz.underlying33 rfl (id_size hvl) ?_)
        | ((with_reducible refine at_load 33 (.tmp 13) ?_); refine wpl_load (by rfl) 33 (.tmp 13) rfl B13 (by rfl) 33 (i1.map bc).toArray (0, 0) _ b13 Tryz.underlying33 rfl (id_size hvl) ?_))
      refine Calls.mono (copiedC _ _ l (HU.out.ext XK) (by have := Q1.out; omega)) ?_
      rintro e wl ⟨vl2, rfl, hl2, xl⟩
      have HL2 := Lib.hid hl2
      clear hl2 k0
      go_wp2_with fail
      refine Calls.mono (refsCheck _ _ l HL2.out) ?_
      rintro e wn ⟨rfl, xn⟩
      rw [HOK.out]
      have hck : chkR true = 0 := rfl
      rw [hck]
      go_wp2_with fail
      go_ret
      exact ⟨rfl, HX.out.trans (XK.trans (xl.trans xn))⟩
end Go.Proofs.YtglcjdiejnennaaGreatDoor
