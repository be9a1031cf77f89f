/- What has been decoded is encoded into the same bytes; less of an object's bytes is too short. Plain lists. -/
import Derived.Test.YtcdlmappcbbacaaObS
namespace Go.Proofs.Ytcdlmappcbbacaa
open Go.RowKit
set_option linter.unusedVariables false
set_option linter.unusedSimpArgs false

theorem dec_err {l : List UInt8} (h : (decP l).2 ≠ 0) : (decP l).1 = zObj 0 := by
  unfold decP at h ⊢
  simp only at h ⊢
  split
  · rfl
  · split
    · rfl
    · split
      · rfl
      · rename_i h1 h2 h3
        rw [if_neg h1, if_neg h2, if_neg h3] at h
        exact absurd rfl h
theorem cut_join (l : List UInt8) (a m n : Nat) : (l.drop a).take (m + n) = (l.drop a).take m ++ (l.drop (a + m)).take n := by
  rw [List.take_add, List.drop_drop]
theorem u8_of {c : UInt8} {k : Nat} (h : c.toNat = k) (hk : k < 256) : UInt8.ofNat k = c := by
  subst h
  apply UInt8.toNat_inj.1
  rw [UInt8.toNat_ofNat']
  omega
theorem ba_size (l : List UInt8) : (⟨l.toArray⟩ : ByteArray).size = l.length := rfl
theorem encE_at {l : List UInt8} {a : Nat} (h : a + 34 + (l.getD a 0).toNat ≤ l.length) (hb : (l.getD (a + 1 + (l.getD a 0).toNat) 0).toNat ≤ 1) :
    encE (entAt l a) = (l.drop a).take (34 + (l.getD a 0).toNat) ∧ EntOk (entAt l a) := by
  have h1 : a < l.length := by omega
  have e1 : l.getD a 0 = l[a] := getD_at h1
  rw [e1] at h hb
  have h2 : a + 1 + l[a].toNat < l.length := by omega
  have e2 : l.getD (a + 1 + l[a].toNat) 0 = l[a + 1 + l[a].toNat] := getD_at h2
  rw [e2] at hb
  have hn := l[a].toNat_lt
  have hlen : ((l.drop (a + 1)).take l[a].toNat).length = l[a].toNat := by rw [List.length_take, List.length_drop]; omega
  constructor
  · unfold encE txtB entAt
    simp only [e1, e2, ba_size, hlen]
    have e3 : UInt8.ofNat l[a].toNat = l[a] := u8_of rfl hn
    have e4 : (if decide (l[a + 1 + l[a].toNat].toNat = 1) = true then (1 : UInt8) else 0) = l[a + 1 + l[a].toNat] := by
      by_cases q : l[a + 1 + l[a].toNat].toNat = 1
      · rw [if_pos (by simpa using q)]
        exact UInt8.toNat_inj.1 (by rw [q]; rfl)
      · rw [if_neg (by simpa using q)]
        exact UInt8.toNat_inj.1 (by show 0 = _; omega)
    rw [e3, e4]
    have s1 : 34 + l[a].toNat = 1 + (l[a].toNat + (1 + 32)) := by omega
    rw [s1, cut_join l a 1, cut_join l (a + 1), cut_join l (a + 1 + l[a].toNat) 1, take_one h1, take_one h2]
    have s2 : a + 1 + l[a].toNat + 1 = a + 2 + l[a].toNat := by omega
    rw [s2]
    simp
  · unfold EntOk entAt
    simp only [e1, e2, ba_size, hlen]
    refine ⟨?_, by omega⟩
    rw [List.length_take, List.length_drop]
    omega
/-- What has been read as entries is what the bytes are. -/
theorem itE_back {l : List UInt8} (h2 : 2 ≤ l.length) : ∀ (i : Nat), (itE l (2, 0) i).2.1.2 = 0 → (itE l (2, 0) i).2.2 = true →
    ∃ es a, itE l (2, 0) i = (es, (a, 0), true) ∧ a ≤ l.length ∧ 2 ≤ a ∧ es.length = i ∧ l.take a = l.take 2 ++ es.flatMap encE ∧ ∀ e ∈ es, EntOk e := by
  intro i
  induction i with
  | zero => intro _ _; exact ⟨[], 2, rfl, h2, Nat.le_refl _, rfl, by simp, by simp⟩
  | succ i ih =>
    intro he hk
    have he0 : (itE l (2, 0) i).2.1.2 = 0 := by
      by_cases q : (itE l (2, 0) i).2.1.2 = 0
      · exact q
      · exact absurd he (stepE_stick q)
    have hk0 : (itE l (2, 0) i).2.2 = true := by
      have : (itE l (2, 0) (i + 1)).2.2 = ((itE l (2, 0) i).2.2 && decide (rN l (tNext l (itE l (2, 0) i).2.1.1 (itE l (2, 0) i).2.1.2) 1 ≤ 1)) := rfl
      rw [this] at hk
      exact (Bool.and_eq_true_iff.1 hk).1
    obtain ⟨es, a, q, ha, ha2, hl, ht, ho⟩ := ih he0 hk0
    have hs : itE l (2, 0) (i + 1) = stepE l (es, (a, 0), true) := by rw [← q]; rfl
    rw [hs] at he hk ⊢
    by_cases hb : a + 34 + (l.getD a 0).toNat ≤ l.length
    · rw [stepE_ok hb] at hk ⊢
      simp only [Bool.true_and, decide_eq_true_eq] at hk
      obtain ⟨k1, k2⟩ := encE_at hb hk
      refine ⟨_, _, by rw [decide_eq_true hk]; rfl, hb, by omega, by simp [hl], ?_, ?_⟩
      · rw [show a + 34 + (l.getD a 0).toNat = a + (34 + (l.getD a 0).toNat) from by omega, List.take_add, ht, ← k1, List.flatMap_append, List.append_assoc]
        simp
      · intro e hm
        rcases List.mem_append.1 hm with h | h
        · exact ho e h
        · rw [List.mem_singleton.1 h]; exact k2
    · exact absurd he (stepE_bad ha (.inl (by omega)))
theorem ids_len (l : List UInt8) (a : Nat) : ∀ n, (idsAt l a n).length = n
  | 0 => rfl
  | n + 1 => by unfold idsAt; rw [List.length_append, ids_len l a n]; rfl
theorem ids_flat (l : List UInt8) (a : Nat) : ∀ n, (idsAt l a n).flatten = (l.drop a).take (32 * n)
  | 0 => by simp [idsAt]
  | n + 1 => by
    unfold idsAt
    rw [List.flatten_append, ids_flat l a n, show 32 * (n + 1) = 32 * n + 32 from by omega, cut_join]
    simp
theorem ids_32 {l : List UInt8} {a : Nat} : ∀ n, a + 32 * n ≤ l.length → ∀ p ∈ idsAt l a n, p.length = 32
  | 0, _, p, hp => by cases hp
  | n + 1, h, p, hp => by
    rcases List.mem_append.1 hp with q | q
    · exact ids_32 n (by omega) p q
    · rw [List.mem_singleton.1 q, List.length_take, List.length_drop]
      omega
theorem cons_drop {l : List UInt8} {a : Nat} (h : a < l.length) : l.drop a = l[a] :: l.drop (a + 1) := List.drop_eq_getElem_cons h
theorem tri_eq {x : List EntL × St × Bool} (h : x.2.1.2 = 0) : x = (x.1, ((x.2.1.1, (0 : Int)) : St), x.2.2) := by
  obtain ⟨a, ⟨b, c⟩, d⟩ := x
  simp only at h
  rw [h]
theorem take_2 {l t : List UInt8} {c d : UInt8} (h : l = c :: d :: t) : l.take 2 = [c, d] := by rw [h]; rfl
theorem encB1 (b : List UInt8) : encB { zObj 1 with bytes := b } = 1 :: (be b.length 2 ++ b) := rfl
theorem encB2 (es : List EntL) : encB { zObj 2 with ents := es } = 2 :: UInt8.ofNat es.length :: es.flatMap encE := rfl
theorem encB3 (t : List UInt8) (p : List (List UInt8)) (n : Nat) (s : ByteArray) : encB { zObj 3 with tree := t, pars := p, num := n, note := s } = 3 :: (t ++ (UInt8.ofNat p.length :: (p.flatten ++ (be n 4 ++ txtB s)))) := rfl
/-- What was decoded is encoded into the same bytes. -/
theorem enc_dec {l : List UInt8} {o : ObjL} (h : decP l = (o, 0)) (hlim : l.length ≤ 140737488355328) : encB o = l ∧ checkB o = true := by
  by_cases h0 : 0 < l.length
  · by_cases k1 : l[0].toNat = 1
    · by_cases hs : l.length < 3 ∨ l.length < 3 + num ((l.drop 1).take 2)
      · rw [dec1_bad h0 k1 hs] at h; simp at h
      · simp only [not_or, Nat.not_lt] at hs
        rw [dec1_ok h0 k1 hs.1 hs.2] at h
        obtain ⟨q1, q2, q3, q4⟩ := end_back h
        subst q4
        refine ⟨?_, q3⟩
        have e1 : (l.drop 3).take (num ((l.drop 1).take 2)) = l.drop 3 := List.take_of_length_le (by rw [List.length_drop]; omega)
        have e2 : (l.drop 3).length = num ((l.drop 1).take 2) := by rw [List.length_drop]; omega
        rw [encB1]
        show (1 : UInt8) :: (be ((l.drop 3).take (num ((l.drop 1).take 2))).length 2 ++ (l.drop 3).take (num ((l.drop 1).take 2))) = l
        rw [e1, e2, be_num2 _ (by rw [List.length_take, List.length_drop]; omega)]
        have e3 := List.take_append_drop 2 (l.drop 1)
        rw [List.drop_drop] at e3
        rw [e3]
        have e4 := cons_drop h0
        rw [List.drop_zero] at e4
        have e5 : l[0] = 1 := UInt8.toNat_inj.1 k1
        rw [e4, e5]
        rfl
    · by_cases k2 : l[0].toNat = 2
      · by_cases hs : l.length < 2
        · rw [dec2_short h0 k2 hs] at h; simp at h
        · have h1 : 1 < l.length := by omega
          by_cases he : (itE l (2, 0) l[1].toNat).2.1.2 = 0
          · have hq : itE l (2, 0) l[1].toNat = ((itE l (2, 0) l[1].toNat).1, (((itE l (2, 0) l[1].toNat).2.1.1, (0 : Int)) : St), (itE l (2, 0) l[1].toNat).2.2) := tri_eq he
            rw [dec2_ok h0 k2 h1 hq] at h
            obtain ⟨q1, q2, q3, q4⟩ := end_back h
            obtain ⟨es, a, q, ha, ha2, hl, ht, ho⟩ := itE_back (by omega) l[1].toNat he q2
            rw [q] at q1 q3 q4
            subst q4
            refine ⟨?_, q3⟩
            simp only at q1
            have ea : a = l.length := by omega
            rw [ea, List.take_length] at ht
            rw [encB2]
            show (2 : UInt8) :: UInt8.ofNat es.length :: es.flatMap encE = l
            have e4 := cons_drop h0
            rw [List.drop_zero, cons_drop h1] at e4
            have e5 : l[0] = 2 := UInt8.toNat_inj.1 k2
            have e6 : UInt8.ofNat es.length = l[1] := by rw [hl]; exact u8_of rfl l[1].toNat_lt
            rw [e6]
            conv => rhs; rw [ht]
            have e7 : l.take 2 = [(2 : UInt8), l[1]] := take_2 (e5 ▸ e4)
            rw [e7]
            rfl
          · rw [dec2_bad h0 k2 h1 (Nat.le_refl _) he] at h; simp at h
      · by_cases k3 : l[0].toNat = 3
        · by_cases hs : l.length < 34 ∨ ∃ q : 33 < l.length, l.length < 39 + 32 * l[33].toNat ∨ ∃ q2 : 38 + 32 * l[33].toNat < l.length, l.length < 39 + 32 * l[33].toNat + l[38 + 32 * l[33].toNat].toNat
          · rw [dec3_bad h0 k3 hs] at h; simp at h
          · have m1 : 33 < l.length := by
              by_cases q : l.length < 34
              · exact absurd (.inl q) hs
              · omega
            have m2 : ¬ l.length < 39 + 32 * l[33].toNat := fun q => hs (.inr ⟨m1, .inl q⟩)
            have m3 : 38 + 32 * l[33].toNat < l.length := by omega
            have m4 : ¬ l.length < 39 + 32 * l[33].toNat + l[38 + 32 * l[33].toNat].toNat := fun q => hs (.inr ⟨m1, .inr ⟨m3, q⟩⟩)
            rw [dec3_ok h0 k3 m1 m3 (by omega)] at h
            obtain ⟨q1, q2, q3, q4⟩ := end_back h
            subst q4
            refine ⟨?_, q3⟩
            generalize hc : l[38 + 32 * l[33].toNat] = c at *
            generalize hn : l[33] = n at *
            have hnl := n.toNat_lt
            have hcl := c.toNat_lt
            have e1 : ((l.drop (39 + 32 * n.toNat)).take c.toNat).length = c.toNat := by rw [List.length_take, List.length_drop]; omega
            have e2 : (l.drop (39 + 32 * n.toNat)).take c.toNat = l.drop (39 + 32 * n.toNat) := List.take_of_length_le (by rw [List.length_drop]; omega)
            rw [encB3]
            show (3 : UInt8) :: ((l.drop 1).take 32 ++ (UInt8.ofNat (idsAt l 34 n.toNat).length :: ((idsAt l 34 n.toNat).flatten ++ (be (num ((l.drop (34 + 32 * n.toNat)).take 4)) 4 ++ txtB ⟨((l.drop (39 + 32 * n.toNat)).take c.toNat).toArray⟩)))) = l
            unfold txtB
            rw [ids_len, ids_flat, be_num4 _ (by rw [List.length_take, List.length_drop]; omega), ba_size, e1, u8_of rfl hnl, u8_of rfl hcl]
            show (3 : UInt8) :: ((l.drop 1).take 32 ++ (n :: ((l.drop 34).take (32 * n.toNat) ++ ((l.drop (34 + 32 * n.toNat)).take 4 ++ (c :: (l.drop (39 + 32 * n.toNat)).take c.toNat))))) = l
            rw [e2]
            have f1 : l.drop (38 + 32 * n.toNat) = c :: l.drop (39 + 32 * n.toNat) := by
              rw [cons_drop m3, hc, show 38 + 32 * n.toNat + 1 = 39 + 32 * n.toNat from by omega]
            have f2 : l.drop (34 + 32 * n.toNat) = (l.drop (34 + 32 * n.toNat)).take 4 ++ l.drop (38 + 32 * n.toNat) := by
              have := List.take_append_drop 4 (l.drop (34 + 32 * n.toNat))
              rw [List.drop_drop, show 34 + 32 * n.toNat + 4 = 38 + 32 * n.toNat from by omega] at this
              exact this.symm
            have f3 : l.drop 34 = (l.drop 34).take (32 * n.toNat) ++ l.drop (34 + 32 * n.toNat) := by
              have := List.take_append_drop (32 * n.toNat) (l.drop 34)
              rw [List.drop_drop] at this
              exact this.symm
            have f4 : l.drop 33 = n :: l.drop 34 := by rw [cons_drop m1, hn]
            have f5 : l.drop 1 = (l.drop 1).take 32 ++ l.drop 33 := by
              have := List.take_append_drop 32 (l.drop 1)
              rw [List.drop_drop] at this
              exact this.symm
            have f6 : l = 3 :: l.drop 1 := by
              have e4 := cons_drop h0
              rw [List.drop_zero] at e4
              have e5 : l[0] = 3 := UInt8.toNat_inj.1 k3
              rw [e5] at e4
              exact e4
            rw [← f1, ← f2, ← f3, ← f4, ← f5, ← f6]
        · rw [dec_other h0 (by omega)] at h; simp at h
  · have : l = [] := List.eq_nil_of_length_eq_zero (by omega)
    subst this
    rw [dec_nil] at h
    simp at h
end Go.Proofs.Ytcdlmappcbbacaa
