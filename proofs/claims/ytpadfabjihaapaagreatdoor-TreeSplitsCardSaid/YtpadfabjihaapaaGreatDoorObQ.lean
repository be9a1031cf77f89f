/- What decoding computes, piece by piece; an object's bytes. Plain lists. -/
import Derived.Test.YtpadfabjihaapaaGreatDoorObI
namespace Go.Proofs.YtpadfabjihaapaaGreatDoor
open Go.RowKit
set_option linter.unusedVariables false
set_option linter.unusedSimpArgs false

theorem rd_ok' {l : List UInt8} {a m : Nat} (h : a + m ≤ l.length) : rS l (a, 0) m = (a + m, 0) ∧ rTake l a 0 m = (l.drop a).take m := rd_ok (by omega)
theorem rd_bad {l : List UInt8} {a m : Nat} (h : l.length < a + m) : rS l (a, 0) m = (a, 7) ∧ rTake l a 0 m = [] := rd_short (by omega) (by omega)
theorem rd_stick {l : List UInt8} {s : St} {n : Int} (h : s.2 ≠ 0) : rS l s n = s := (rd_err h).1
theorem num_one (c : UInt8) : num [c] = c.toNat := by
  have := c.toNat_lt
  simp [num]
theorem take_one {l : List UInt8} {a : Nat} (h : a < l.length) : (l.drop a).take 1 = [l[a]] := by rw [List.drop_eq_getElem_cons h]; rfl
theorem rN_one {l : List UInt8} {a : Nat} (h : a < l.length) : rN l (a, 0) 1 = l[a].toNat := by
  have := (rd_ok' (l := l) (a := a) (m := 1) (by omega)).2
  unfold rN
  rw [this, take_one h, num_one]
theorem rS_one {l : List UInt8} {a : Nat} (h : a < l.length) : rS l (a, 0) 1 = (a + 1, 0) := (rd_ok' (l := l) (a := a) (m := 1) (by omega)).1
theorem rS_two {l : List UInt8} {a : Nat} (h : a + 2 ≤ l.length) : rS l (a, 0) 2 = (a + 2, 0) := (rd_ok' (l := l) (a := a) (m := 2) (by omega)).1
theorem rS_four {l : List UInt8} {a : Nat} (h : a + 4 ≤ l.length) : rS l (a, 0) 4 = (a + 4, 0) := (rd_ok' (l := l) (a := a) (m := 4) (by omega)).1
theorem rS_id {l : List UInt8} {a : Nat} (h : a + 32 ≤ l.length) : rS l (a, 0) 32 = (a + 32, 0) := (rd_ok' (l := l) (a := a) (m := 32) (by omega)).1
theorem rT_id {l : List UInt8} {a : Nat} (h : a + 32 ≤ l.length) : rTake l a 0 32 = (l.drop a).take 32 := (rd_ok' (l := l) (a := a) (m := 32) (by omega)).2
theorem pad_all {t : List UInt8} (h : t.length = 32) : padId t = t := by unfold padId; rw [h]; simp [z32]
theorem id_at {l : List UInt8} {a : Nat} (h : a + 32 ≤ l.length) : padId (rTake l a 0 32) = (l.drop a).take 32 := by
  rw [rT_id h, pad_all (by simp; omega)]
theorem bad_one {l : List UInt8} {a : Nat} (h : l.length < a + 1) : (rS l (a, 0) 1).2 ≠ 0 := by
  have := (rd_bad (l := l) (a := a) (m := 1) h).1
  intro q
  rw [show (1 : Int) = ((1 : Nat) : Int) from rfl, this] at q
  simp at q
theorem bad_n {l : List UInt8} {a m : Nat} (h : l.length < a + m) : (rS l (a, 0) m).2 ≠ 0 := by
  have := (rd_bad (l := l) (a := a) (m := m) h).1
  intro q
  rw [this] at q
  simp at q
theorem bad_id {l : List UInt8} {a : Nat} (h : l.length < a + 32) : (rS l (a, 0) 32).2 ≠ 0 := bad_n (m := 32) h
theorem stick {l : List UInt8} {s : St} {n : Int} (h : s.2 ≠ 0) : (rS l s n).2 ≠ 0 := by rw [rd_stick h]; exact h
theorem t_stick {l : List UInt8} {s : St} (h : s.2 ≠ 0) : (tNext l s.1 s.2).2 ≠ 0 := by
  unfold tNext
  exact stick (l := l) (s := rNext l s.1 s.2 1) (stick (l := l) (s := s) h)
theorem t_ok {l : List UInt8} {a : Nat} (h : a < l.length) (h2 : a + 1 + l[a].toNat ≤ l.length) : tTake l a 0 = (l.drop (a + 1)).take l[a].toNat ∧ tNext l a 0 = (a + 1 + l[a].toNat, 0) := by
  have e1 : rNext l a 0 1 = (a + 1, 0) := rS_one h
  have e2 : num (rTake l a 0 1) = l[a].toNat := rN_one h
  unfold tTake tNext
  rw [e1, e2]
  exact ⟨(rd_ok' h2).2, (rd_ok' h2).1⟩
theorem t_bad {l : List UInt8} {a : Nat} (h : ∀ q : a < l.length, l.length < a + 1 + l[a].toNat) (ha : a ≤ l.length) : (tNext l a 0).2 ≠ 0 := by
  by_cases q : a < l.length
  · have e1 : rNext l a 0 1 = (a + 1, 0) := rS_one q
    have e2 : num (rTake l a 0 1) = l[a].toNat := rN_one q
    unfold tNext
    rw [e1, e2]
    exact bad_n (h q)
  · unfold tNext
    exact stick (l := l) (s := rNext l a 0 1) (bad_one (l := l) (by omega))

/-- An entry at a place. -/
def entAt (l : List UInt8) (a : Nat) : EntL :=
  let n := (l.getD a 0).toNat
  { name := ⟨((l.drop (a + 1)).take n).toArray⟩, folder := decide ((l.getD (a + 1 + n) 0).toNat = 1), id := (l.drop (a + 2 + n)).take 32 }
theorem getD_at {l : List UInt8} {a : Nat} (h : a < l.length) : l.getD a 0 = l[a] := by rw [List.getD_eq_getElem?_getD, List.getElem?_eq_getElem h]; rfl
theorem stepE_ok {l : List UInt8} {es : List EntL} {a : Nat} {ok : Bool} (h : a + 34 + (l.getD a 0).toNat ≤ l.length) :
    stepE l (es, (a, 0), ok) = (es ++ [entAt l a], (a + 34 + (l.getD a 0).toNat, 0), ok && decide ((l.getD (a + 1 + (l.getD a 0).toNat) 0).toNat ≤ 1)) := by
  have h1 : a < l.length := by omega
  rw [show (l.getD a 0) = l[a] from getD_at h1] at h ⊢
  have t := t_ok h1 (by omega)
  have h3 : a + 1 + l[a].toNat < l.length := by omega
  unfold stepE entAt
  simp only [t.1, t.2]
  rw [show (l.getD a 0) = l[a] from getD_at h1, rN_one h3, rS_one h3, getD_at h3]
  have e : a + 1 + l[a].toNat + 1 = a + 2 + l[a].toNat := by omega
  simp only [e]
  rw [id_at (by omega), rS_id (by omega)]
  have e : a + 2 + l[a].toNat + 32 = a + 34 + l[a].toNat := by omega
  rw [e]
theorem stepE_stick {l : List UInt8} {x : List EntL × St × Bool} (h : x.2.1.2 ≠ 0) : (stepE l x).2.1.2 ≠ 0 := by
  unfold stepE
  exact stick (stick (t_stick h))
theorem stepE_bad {l : List UInt8} {es : List EntL} {a : Nat} {ok : Bool} (ha : a ≤ l.length) (h : l.length < a + 34 + (l.getD a 0).toNat ∨ l.length ≤ a) : (stepE l (es, (a, 0), ok)).2.1.2 ≠ 0 := by
  by_cases h1 : a < l.length
  · rw [getD_at h1] at h
    by_cases h2 : a + 1 + l[a].toNat ≤ l.length
    · have t := t_ok h1 h2
      unfold stepE
      simp only [t.1, t.2]
      by_cases h3 : a + 1 + l[a].toNat < l.length
      · rw [rS_one h3]
        exact bad_id (by omega)
      · exact stick (bad_one (by omega))
    · unfold stepE
      exact stick (stick (t_bad (fun q => Nat.lt_of_not_le h2) ha))
  · unfold stepE
    exact stick (stick (t_bad (fun q => absurd q h1) ha))
theorem itE_stick {l : List UInt8} {s : St} {i : Nat} (h : (itE l s i).2.1.2 ≠ 0) : ∀ j, i ≤ j → (itE l s j).2.1.2 ≠ 0 := by
  intro j hj
  obtain ⟨d, rfl⟩ := Nat.exists_eq_add_of_le hj
  induction d with
  | zero => exact h
  | succ d ih => exact stepE_stick (ih (by omega))
theorem itP_stick {l : List UInt8} {s : St} (h : s.2 ≠ 0) : ∀ j, (itP l s j).2 = s := by
  intro j
  induction j with
  | zero => rfl
  | succ d ih =>
    show rS l (itP l s d).2 32 = s
    rw [ih]
    exact rd_stick h
theorem itP_stick' {l : List UInt8} {s : St} {i : Nat} (h : (itP l s i).2.2 ≠ 0) : ∀ j, i ≤ j → (itP l s j).2.2 ≠ 0 := by
  intro j hj
  obtain ⟨d, rfl⟩ := Nat.exists_eq_add_of_le hj
  induction d with
  | zero => exact h
  | succ d ih => exact stick (ih (by omega))
/-- The parents at a place. -/
def idsAt (l : List UInt8) (a : Nat) : Nat → List (List UInt8)
  | 0 => []
  | i + 1 => idsAt l a i ++ [(l.drop (a + 32 * i)).take 32]
theorem itP_ok {l : List UInt8} {a : Nat} : ∀ i, a + 32 * i ≤ l.length → itP l (a, 0) i = (idsAt l a i, (a + 32 * i, 0)) := by
  intro i
  induction i with
  | zero => intro _; rfl
  | succ i ih =>
    intro h
    have h := ih (by omega)
    unfold itP idsAt
    rw [h, id_at (by show a + 32 * i + 32 ≤ _; omega), rS_id (by omega)]
    have e : a + 32 * i + 32 = a + 32 * (i + 1) := by omega
    rw [e]
theorem itP_bad {l : List UInt8} {a : Nat} (ha : a ≤ l.length) : ∀ i, l.length < a + 32 * i → (itP l (a, 0) i).2.2 ≠ 0 := by
  intro i
  induction i with
  | zero => intro h; omega
  | succ i ih =>
    intro h
    by_cases h2 : l.length < a + 32 * i
    · exact stick (ih h2)
    · show (rS l (itP l (a, 0) i).2 32).2 ≠ 0
      rw [itP_ok i (by omega)]
      exact bad_id (by omega)

/-- Decoding, kind by kind. -/
theorem dec_nil : decP [] = (zObj 0, 7) := by rfl
theorem dec_other {l : List UInt8} (h0 : 0 < l.length) (h : ¬ (l[0].toNat = 1 ∨ l[0].toNat = 2 ∨ l[0].toNat = 3)) : decP l = (zObj 0, 150) := by
  unfold decP
  rw [if_pos ⟨by rw [rN_one h0]; exact h, h0⟩]
/-- What comes of what has been read. -/
def endP (l : List UInt8) (o : ObjL) (a : Nat) (ok : Bool) : ObjL × Int := if ((l.length : Int) - a > 0 || !ok || !checkB o) = true then (zObj 0, 150) else (o, 0)
theorem dec_read {l : List UInt8} (h0 : 0 < l.length) (h : l[0].toNat = 1 ∨ l[0].toNat = 2 ∨ l[0].toNat = 3) : decP l = if (readP l).2.1.2 ≠ 0 then (zObj 0, 7) else endP l (readP l).1 (readP l).2.1.1 (readP l).2.2 := by
  unfold decP endP
  rw [if_neg (by rw [rN_one h0]; simp [h])]
theorem dec1_bad {l : List UInt8} (h0 : 0 < l.length) (h : l[0].toNat = 1) (hs : l.length < 3 ∨ l.length < 3 + num ((l.drop 1).take 2)) : decP l = (zObj 0, 7) := by
  rw [dec_read h0 (.inl h), if_pos]
  unfold readP
  simp only [rN_one h0, h, if_true, rS_one h0]
  by_cases h3 : l.length < 3
  · exact stick (bad_n (m := 2) (by omega))
  · have e : rN l (0 + 1, 0) 2 = num ((l.drop 1).take 2) := by unfold rN; rw [(rd_ok' (by omega)).2]
    rw [e, rS_two (by omega)]
    exact bad_n (by omega)
theorem dec1_ok {l : List UInt8} (h0 : 0 < l.length) (h : l[0].toNat = 1) (h3 : 3 ≤ l.length) (hs : 3 + num ((l.drop 1).take 2) ≤ l.length) :
    decP l = endP l { zObj 1 with bytes := (l.drop 3).take (num ((l.drop 1).take 2)) } (3 + num ((l.drop 1).take 2)) true := by
  have e : rN l (0 + 1, 0) 2 = num ((l.drop 1).take 2) := by unfold rN; rw [(rd_ok' (by omega)).2]
  have hr : readP l = ({ zObj 1 with bytes := (l.drop 3).take (num ((l.drop 1).take 2)) }, (3 + num ((l.drop 1).take 2), 0), true) := by
    unfold readP
    simp only [rN_one h0, h, if_true, rS_one h0, e]
    rw [rS_two (by omega), (rd_ok' (by omega)).1, (rd_ok' (by omega)).2]
  rw [dec_read h0 (.inl h), hr, if_neg (by simp)]
theorem dec2_read {l : List UInt8} (h0 : 0 < l.length) (h : l[0].toNat = 2) : readP l = ({ zObj 2 with ents := (itE l (rS l (1, 0) 1) (rN l (1, 0) 1)).1 }, (itE l (rS l (1, 0) 1) (rN l (1, 0) 1)).2.1, (itE l (rS l (1, 0) 1) (rN l (1, 0) 1)).2.2) := by
  unfold readP
  simp only [rN_one h0, h, if_true, rS_one h0]
  rw [if_neg (by decide)]
theorem dec2_short {l : List UInt8} (h0 : 0 < l.length) (h : l[0].toNat = 2) (hs : l.length < 2) : decP l = (zObj 0, 7) := by
  rw [dec_read h0 (.inr (.inl h)), dec2_read h0 h, if_pos]
  exact itE_stick (i := 0) (bad_one (by omega)) _ (Nat.zero_le _)
theorem dec2_bad {l : List UInt8} (h0 : 0 < l.length) (h : l[0].toNat = 2) (h2 : 1 < l.length) {i : Nat} (hi : i ≤ l[1].toNat) (hs : (itE l (2, 0) i).2.1.2 ≠ 0) : decP l = (zObj 0, 7) := by
  rw [dec_read h0 (.inr (.inl h)), dec2_read h0 h, if_pos]
  rw [rS_one h2, rN_one h2]
  exact itE_stick hs _ hi
theorem dec2_ok {l : List UInt8} (h0 : 0 < l.length) (h : l[0].toNat = 2) (h2 : 1 < l.length) {es : List EntL} {a : Nat} {ok : Bool} (hs : itE l (2, 0) l[1].toNat = (es, (a, 0), ok)) :
    decP l = endP l { zObj 2 with ents := es } a ok := by
  rw [dec_read h0 (.inr (.inl h)), dec2_read h0 h, rS_one h2, rN_one h2, hs, if_neg (by simp)]
theorem dec3_read {l : List UInt8} (h0 : 0 < l.length) (h : l[0].toNat = 3) : readP l =
    (let s2 := rS l (1, 0) 32
     let r := itP l (rS l s2 1) (rN l s2 1)
     let s4 := rS l r.2 4
     ({ zObj 3 with tree := padId (rTake l 1 0 32), pars := r.1, num := rN l r.2 4, note := ⟨(tTake l s4.1 s4.2).toArray⟩ }, tNext l s4.1 s4.2, true)) := by
  unfold readP
  simp only [rN_one h0, h, if_true, rS_one h0]
  rw [if_neg (by decide), if_neg (by decide)]
theorem dec3_bad {l : List UInt8} (h0 : 0 < l.length) (h : l[0].toNat = 3) (hs : l.length < 34 ∨ ∃ q : 33 < l.length, l.length < 39 + 32 * l[33].toNat ∨ ∃ q2 : 38 + 32 * l[33].toNat < l.length, l.length < 39 + 32 * l[33].toNat + l[38 + 32 * l[33].toNat].toNat) : decP l = (zObj 0, 7) := by
  rw [dec_read h0 (.inr (.inr h)), if_pos]
  rw [dec3_read h0 h]
  by_cases h1 : l.length < 33
  · have e1 : (rS l (1, 0) 32).2 ≠ 0 := bad_id (by omega)
    have e2 : (itP l (rS l (rS l (1, 0) 32) 1) (rN l (rS l (1, 0) 32) 1)).2.2 ≠ 0 := by rw [itP_stick (stick e1)]; exact stick e1
    exact t_stick (stick e2)
  · have e1 : rS l (1, 0) 32 = (33, 0) := rS_id (by omega)
    simp only [e1]
    by_cases h2 : l.length < 34
    · have e2 : (rS l (33, 0) 1).2 ≠ 0 := bad_one (by omega)
      have e3 : (itP l (rS l (33, 0) 1) (rN l (33, 0) 1)).2.2 ≠ 0 := by rw [itP_stick e2]; exact e2
      exact t_stick (stick e3)
    · have h3 : 33 < l.length := by omega
      rw [rS_one h3, rN_one h3]
      rcases hs with hs | ⟨q, hs⟩
      · omega
      · by_cases h4 : l.length < 34 + 32 * l[33].toNat
        · exact t_stick (stick (itP_bad (by omega) _ h4))
        · rw [itP_ok _ (by omega)]
          by_cases h5 : l.length < 34 + 32 * l[33].toNat + 4
          · exact t_stick (bad_n (m := 4) h5)
          · rw [rS_four (by omega)]
            have e : 34 + 32 * l[33].toNat + 4 = 38 + 32 * l[33].toNat := by omega
            simp only [e]
            refine t_bad (fun q2 => ?_) (by omega)
            rcases hs with hs | ⟨q3, hs⟩ <;> omega
theorem dec3_ok {l : List UInt8} (h0 : 0 < l.length) (h : l[0].toNat = 3) (q : 33 < l.length) (q2 : 38 + 32 * l[33].toNat < l.length) (hs : 39 + 32 * l[33].toNat + l[38 + 32 * l[33].toNat].toNat ≤ l.length) :
    decP l = endP l { zObj 3 with tree := (l.drop 1).take 32, pars := idsAt l 34 l[33].toNat, num := num ((l.drop (34 + 32 * l[33].toNat)).take 4), note := ⟨((l.drop (39 + 32 * l[33].toNat)).take l[38 + 32 * l[33].toNat].toNat).toArray⟩ } (39 + 32 * l[33].toNat + l[38 + 32 * l[33].toNat].toNat) true := by
  have hr : readP l = ({ zObj 3 with tree := (l.drop 1).take 32, pars := idsAt l 34 l[33].toNat, num := num ((l.drop (34 + 32 * l[33].toNat)).take 4), note := ⟨((l.drop (39 + 32 * l[33].toNat)).take l[38 + 32 * l[33].toNat].toNat).toArray⟩ }, (39 + 32 * l[33].toNat + l[38 + 32 * l[33].toNat].toNat, 0), true) := by
    have e1 : rS l (1, 0) 32 = (33, 0) := rS_id (by omega)
    have e : 34 + 32 * l[33].toNat + 4 = 38 + 32 * l[33].toNat := by omega
    have t := t_ok q2 (by omega)
    have en : rN l (34 + 32 * l[33].toNat, 0) 4 = num ((l.drop (34 + 32 * l[33].toNat)).take 4) := by unfold rN; rw [(rd_ok' (by omega)).2]
    rw [dec3_read h0 h]
    simp only [e1, rS_one q, rN_one q, itP_ok (l := l) (a := 34) l[33].toNat (by omega), rS_four (l := l) (a := 34 + 32 * l[33].toNat) (by omega), e, t.1, t.2, en, id_at (l := l) (a := 1) (by omega)]
    have e' : 38 + 32 * l[33].toNat + 1 = 39 + 32 * l[33].toNat := by omega
    simp only [e']
  rw [dec_read h0 (.inr (.inr h)), hr, if_neg (by simp)]
end Go.Proofs.YtpadfabjihaapaaGreatDoor
