/- The walks of edit.of and edit.fits. -/
import Derived.Test.YtgcbkhmaabmdjaaDoorEdD
namespace Go.Proofs.YtgcbkhmaabmdjaaDoor
open Go.RowKit
set_option linter.unusedVariables false

theorem dw {α : Type} {q : α → Bool} : ∀ (A X : List α), (∀ a ∈ A, q a = true) → (X = [] ∨ ∃ x X', X = x :: X' ∧ q x = false) → (A ++ X).dropWhile q = X
  | [], X, _, hX => by
    rcases hX with rfl | ⟨x, X', rfl, hx⟩
    · rfl
    · simp [hx]
  | a :: A, X, hA, hX => by
    rw [List.cons_append, List.dropWhile_cons, hA a (List.mem_cons_self ..), if_pos rfl]
    exact dw A X (fun b hb => hA b (List.mem_cons_of_mem _ hb)) hX
theorem tw {α : Type} {p : α → Bool} : ∀ (B C : List α), (∀ b ∈ B, p b = true) → (C = [] ∨ ∃ x C', C = x :: C' ∧ p x = false) → (B ++ C).takeWhile p = B
  | [], C, _, hC => by
    rcases hC with rfl | ⟨x, C', rfl, hx⟩
    · rfl
    · simp [hx]
  | b :: B, C, hB, hC => by
    rw [List.cons_append, List.takeWhile_cons, hB b (List.mem_cons_self ..), if_pos rfl, tw B C (fun c hc => hB c (List.mem_cons_of_mem _ hc)) hC]
/-- The edits of a path, as the code cuts them. -/
def ofL (l : List Ed) (s : ByteArray) : List Ed := (l.dropWhile fun e => !(e.path.toList == s.toList)).takeWhile fun e => e.path.toList == s.toList
theorem ofL_none (l : List Ed) (s : ByteArray) (h : ∀ j (hj : j < l.length), (l[j].path.toList == s.toList) = false) : ofL l s = [] := by
  unfold ofL
  have h2 := dw (q := fun e : Ed => !(e.path.toList == s.toList)) l [] (fun a ha => by
    obtain ⟨j, hj, rfl⟩ := List.getElem_of_mem ha
    rw [h j hj]; rfl) (.inl rfl)
  rw [List.append_nil] at h2
  rw [h2]
  rfl
theorem head_of {l : List Ed} {p : Ed → Bool} {i : Nat} (hi : i < l.length) (h : p l[i] = false) : l.drop i = [] ∨ ∃ x X', l.drop i = x :: X' ∧ p x = false :=
  .inr ⟨l[i], l.drop (i + 1), List.drop_eq_getElem_cons hi, h⟩
theorem ofL_some (l : List Ed) (s : ByteArray) (i t : Nat) (hi : i < l.length) (h0 : ∀ j (hj : j < l.length), j < i → (l[j].path.toList == s.toList) = false) (h1 : (l[i].path.toList == s.toList) = true) (hit : i ≤ t) (ht : t ≤ l.length)
    (h2 : ∀ j (hj : j < l.length), i ≤ j → j < t → (l[j].path.toList == s.toList) = true) (h3 : t = l.length ∨ ∃ h : t < l.length, (l[t].path.toList == s.toList) = false) : ofL l s = (l.drop i).take (t - i) := by
  unfold ofL
  have e1 := dw (q := fun e : Ed => !(e.path.toList == s.toList)) (l.take i) (l.drop i) (fun a ha => by
    obtain ⟨j, hj, rfl⟩ := List.getElem_of_mem ha
    rw [List.length_take] at hj
    rw [List.getElem_take, h0 j (by omega) (by omega)]; rfl) (head_of (p := fun e : Ed => !(e.path.toList == s.toList)) hi (by simp only [h1, Bool.not_true]))
  rw [List.take_append_drop] at e1
  rw [e1]
  have e2 := tw (p := fun e : Ed => e.path.toList == s.toList) ((l.drop i).take (t - i)) ((l.drop i).drop (t - i)) (fun b hb => by
    obtain ⟨j, hj, rfl⟩ := List.getElem_of_mem hb
    rw [List.length_take, List.length_drop] at hj
    rw [List.getElem_take, List.getElem_drop]
    exact h2 (i + j) (by omega) (by omega) (by omega)) (by
      rw [List.drop_drop, show i + (t - i) = t from by omega]
      rcases h3 with h3 | ⟨h4, h5⟩
      · exact .inl (List.drop_of_length_le (by omega))
      · exact head_of h4 h5)
  rw [List.take_append_drop] at e2
  exact e2

set_option maxHeartbeats 4000000 in
set_option maxRecDepth 100000 in
theorem editOf (w : World) (v : Value) (l : List Ed) (s : ByteArray) (hE : IsE w v l) :
    Calls Tryd.prog 30 #[v, .string s] w fun e w' => ∃ v', e = .returned v' ∧ IsE w' v' (ofL l s) ∧ Ext w w' := by
  have hx := hE.ext ((Ext.refl w).alloc (.cells #[.string s] 9))
  obtain ⟨ao, cap, rfl, b1, m1, z1, g1⟩ := hE.opened
  have G1 := Lib.hid g1
  clear z1 g1
  go_enter Tryd.func30, Tryd.ntmps30
  go_wp2_with fail
  refine Calls.mono (indexFuncOf _ _ l hx ⟨w.heap.size, 0, none⟩ (.string s) (by rw [World.cell?_alloc_new]; rfl) (fun e => e.path.toList == s.toList) (fun W x hq _ => ofClosure W x _ s hq)) ?_
  rintro e w1 ⟨r, rfl, hf, x1⟩
  have xr := ((Ext.refl w).alloc _).trans x1
  have hc := x1.cell (show (w.alloc (.cells #[.string s] 9)).cell? ⟨w.heap.size, 0, none⟩ = some (.string s) from by rw [World.cell?_alloc_new]; rfl)
  rcases hf with ⟨i, hi, rfl, hp, hlt⟩ | ⟨rfl, hno⟩
  · have HP := Lib.hid hp
    have HLT := Lib.hid hlt
    clear hp hlt
    go_wp2_with fail
    go_loopg [6] l.length (fun g s6 wr => ∃ (k q : Nat), i ≤ k ∧ k ≤ l.length ∧ l.length - k ≤ g ∧ s6 = .int .i64 k ∧ (∀ j (hj : j < l.length), i ≤ j → j < k → (l[j].path.toList == s.toList) = true) ∧ wr = w1.drewN q)
    case atStart => exact ⟨i, 0, Nat.le_refl _, by omega, by omega, rfl, fun j hj h1 h2 => absurd h2 (by omega), rfl⟩
    case round =>
      obtain ⟨k, q, hik, hk, hg, rfl, hall, rfl⟩ := hrel
      have HALL := Lib.hid hall
      clear hall
      by_cases hlt : k < l.length
      · obtain ⟨p, o, rfl, e0, e1, e2, e3⟩ := G1.out k hlt
        have e0 := xr.cell e0
        clear e1 e2 e3
        generalize hxx : l[k] = x at *
        have HX := Lib.hid hxx
        clear hxx
        have hlt' : ((k : Int) < (l.length : Int)) := by omega
        have hd : decide (k < l.length) = true := by simpa using hlt
        cases hb : (x.path.toList == s.toList)
        · have HB := Lib.hid hb
          go_wp2_with fail
          go_quiet (fail)
          clear hb
          have hol := ofL_some l s i k hi HLT.out HP.out hik (by omega) HALL.out (.inr ⟨hlt, by rw [HX.out]; exact HB.out⟩)
          have HOL := Lib.hid hol
          clear hol
          have hik' : (i : Int) ≤ k := by omega
          go_wp2
          all_goals go_ret
          all_goals
            have hcut := hE.cut i k k (by omega) (by omega) (Nat.le_refl _) (by omega)
            refine ⟨_, rfl, ?_, xr.drewN _⟩
            rw [HOL.out]
            refine IsE.ext (w := w) ?_ (xr.drewN _)
            by_cases hki : k = i
            · rw [if_pos hki] at hcut; subst hki; first | (simpa using hcut) | (exfalso; simp_all; done)
            · rw [if_neg hki] at hcut; first | (simpa [Addr.add_lit] using hcut) | (exfalso; simp_all; done)
        · have HB := Lib.hid hb
          go_wp2_with fail
          go_quiet (fail)
          go_wp2
          go_roundg (l.length - (k + 1))
          case measure => omega
          case rel =>
            refine ⟨k + 1, _, by omega, by omega, by omega, by go_num, fun j hj h1 h2 => ?_, rfl⟩
            by_cases e : j = k
            · subst e; rw [HX.out]; exact HB.out
            · exact HALL.out j hj h1 (by omega)
      · have : k = l.length := by omega
        subst this
        have hd : decide (l.length < l.length) = false := by simp
        go_wp2_with fail
        go_quiet (fail)
        have hol := ofL_some l s i l.length hi HLT.out HP.out hik (by omega) HALL.out (.inl rfl)
        have HOL := Lib.hid hol
        clear hol
        go_wp2
        all_goals go_ret
        all_goals
          have hcut := hE.cut i l.length l.length (by omega) (by omega) (Nat.le_refl _) (by omega)
          refine ⟨_, rfl, ?_, xr.drewN _⟩
          rw [HOL.out]
          refine IsE.ext (w := w) ?_ (xr.drewN _)
          rw [if_neg (by omega)] at hcut; first | exact hcut | (simpa [Addr.add_lit] using hcut)
  · have hol := ofL_none l s hno
    have HOL := Lib.hid hol
    clear hno hol
    go_wp2
    go_ret
    exact ⟨_, rfl, by rw [HOL.out]; exact ⟨IsSl.nil _ _, by simp⟩, xr⟩

set_option maxHeartbeats 4000000 in
theorem containsFits (w : World) (v : Value) (l : List Ed) (h : IsE w v l) (q : Addr) (n : Int) (hq : w.cell? q = some (.int .i64 n)) :
    Calls Tryd.prog 51 #[v, .func (Fn.func 52) #[] #[.pointer (some q)]] w fun e w' => e = .returned (.bool (l.any fun e => decide (n < wrap64 (e.at_ + e.n)))) ∧ Ext w w' := by
  obtain ⟨ao, cap, rfl, b1, m1, z1, g1⟩ := h.opened
  clear z1 g1
  go_enter Tryd.func51, Tryd.ntmps51
  go_wp2_with fail
  refine Calls.mono (indexFuncFits _ _ l h q (.int .i64 n) hq (fun e => decide (n < wrap64 (e.at_ + e.n))) (fun W x hq hx => fitsClosure W x _ n hq hx)) ?_
  rintro e w1 ⟨r, rfl, hf, x1⟩
  rcases hf with ⟨i, hi, rfl, hp, hlt⟩ | ⟨rfl, hno⟩
  · have hr : (l.any fun e => decide (n < wrap64 (e.at_ + e.n))) = true := List.any_eq_true.2 ⟨l[i], List.getElem_mem hi, hp⟩
    have HR := Lib.hid hr
    clear hr hp hlt
    go_wp2
    go_ret
    exact ⟨ret_bool HR.out.symm, x1⟩
  · have hr : (l.any fun e => decide (n < wrap64 (e.at_ + e.n))) = false := by
      rw [List.any_eq_false]
      intro x hx
      obtain ⟨j, hj, rfl⟩ := List.getElem_of_mem hx
      have := hno j hj
      simp only [this]
      simp
    have HR := Lib.hid hr
    clear hr hno
    go_wp2
    go_ret
    exact ⟨ret_bool HR.out.symm, x1⟩

/-- Do edits fit a text of n bytes? -/
def fitsL (l : List Ed) (n : Int) : Bool := !(l.any fun e => decide (n < wrap64 (e.at_ + e.n)))

set_option maxHeartbeats 4000000 in
theorem editFits (w : World) (v : Value) (l : List Ed) (n : Int) (h : IsE w v l) :
    Calls Tryd.prog 31 #[v, .int .i64 n] w fun e w' => e = .returned (.bool (fitsL l n)) ∧ Ext w w' := by
  have hx := h.ext ((Ext.refl w).alloc (.cells #[.int .i64 n] 3))
  obtain ⟨ao, cap, rfl, b1, m1, z1, g1⟩ := h.opened
  clear z1 g1
  go_enter Tryd.func31, Tryd.ntmps31
  go_wp2_with fail
  refine Calls.mono (containsFits _ _ l hx ⟨w.heap.size, 0, none⟩ n (by rw [World.cell?_alloc_new]; rfl)) ?_
  rintro e w1 ⟨rfl, x1⟩
  have hfl : fitsL l n = !(l.any fun e => decide (n < wrap64 (e.at_ + e.n))) := rfl
  generalize (l.any fun e => decide (n < wrap64 (e.at_ + e.n))) = b at *
  have HF := Lib.hid hfl
  clear hfl
  go_wp2
  go_ret
  exact ⟨ret_bool (by rw [HF.out]), ((Ext.refl w).alloc _).trans x1⟩
end Go.Proofs.YtgcbkhmaabmdjaaDoor
