/- Of a beginning of an object's bytes decoding says that it is too short. Plain lists. -/
import Derived.Test.YtcdlmappcbbacaaDoorObS
namespace Go.Proofs.YtcdlmappcbbacaaDoor
open Go.RowKit
set_option linter.unusedVariables false
set_option linter.unusedSimpArgs false

theorem cut_ent : ∀ (es : List EntL) (c : Nat), c < (es.flatMap encE).length → ∃ (a : List EntL) (e : EntL) (b : List EntL), es = a ++ e :: b ∧ (a.flatMap encE).length ≤ c ∧ c < (a.flatMap encE).length + (encE e).length
  | [], c, h => by simp at h
  | x :: r, c, h => by
    rw [List.flatMap_cons, List.length_append] at h
    by_cases hx : c < (encE x).length
    · exact ⟨[], x, r, rfl, by simp, by simpa using hx⟩
    · obtain ⟨a, e, b, rfl, h1, h2⟩ := cut_ent r (c - (encE x).length) (by omega)
      exact ⟨x :: a, e, b, rfl, by rw [List.flatMap_cons, List.length_append]; omega, by rw [List.flatMap_cons, List.length_append]; omega⟩
theorem take_sub {L : List UInt8} {c a b : Nat} (h : a + b ≤ c) : ((L.take c).drop a).take b = (L.drop a).take b := by
  rw [List.drop_take, List.take_take, Nat.min_eq_left (by omega)]
theorem short1 {o : ObjL} (h : checkB o = true) (k : o.kind = 1) {c : Nat} (hc : c < (encB o).length) : decP ((encB o).take c) = (zObj 0, 7) := by
  obtain ⟨_, hb, _⟩ := chk_parts h
  have e : encB o = 1 :: (be o.bytes.length 2 ++ o.bytes) := by unfold encB; rw [if_pos k]
  have hl : (encB o).length = 3 + o.bytes.length := by rw [e]; simp [be_length]; omega
  by_cases h0 : c = 0
  · subst h0; rfl
  have hl2 : ((encB o).take c).length = c := by rw [List.length_take]; omega
  have g0 : ((encB o).take c)[0]'(by omega) = 1 := by rw [List.getElem_take]; simp [e]
  refine dec1_bad (by omega) (by rw [g0]; rfl) ?_
  rw [hl2]
  by_cases h3 : c < 3
  · exact .inl h3
  · right
    have hd : ((encB o).drop 1).take 2 = be o.bytes.length 2 := by
      rw [e, List.drop_succ_cons, List.drop_zero, List.take_left' (be_length _ _)]
    rw [take_sub (by omega), hd, num_be2 _ (by omega)]
    omega
theorem short2 {o : ObjL} (h : checkB o = true) (hok : ∀ e ∈ o.ents, EntOk e) (k : o.kind = 2) {c : Nat} (hc : c < (encB o).length) : decP ((encB o).take c) = (zObj 0, 7) := by
  obtain ⟨_, _, hn, _, _, hes⟩ := chk_parts h
  have e : encB o = [2, UInt8.ofNat o.ents.length] ++ o.ents.flatMap encE := by
    unfold encB; rw [if_neg (by omega), if_pos k]; rfl
  have hl : (encB o).length = 2 + (o.ents.flatMap encE).length := by rw [e]; simp; omega
  by_cases h0 : c = 0
  · subst h0; rfl
  have hl2 : ((encB o).take c).length = c := by rw [List.length_take]; omega
  have g0 : ((encB o).take c)[0]'(by omega) = 2 := by rw [List.getElem_take]; simp [e]
  by_cases h1 : c = 1
  · exact dec2_short (by omega) (by rw [g0]; rfl) (by omega)
  have g1 : ((encB o).take c)[1]'(by omega) = UInt8.ofNat o.ents.length := by rw [List.getElem_take]; simp [e]
  obtain ⟨a, x, b, hab, k1, k2⟩ := cut_ent o.ents (c - 2) (by omega)
  have hx : EntOk x := hok x (by rw [hab]; simp)
  have hxs := hes x (by rw [hab]; simp)
  obtain ⟨m, hm⟩ : ∃ m, m = c - 2 - (a.flatMap encE).length := ⟨_, rfl⟩
  have hml : m < (encE x).length := by omega
  have hle := encE_len hx
  have hP2 : ([2, UInt8.ofNat o.ents.length] : List UInt8).length = 2 := rfl
  have hL : (encB o).take c = [2, UInt8.ofNat o.ents.length] ++ (a.flatMap encE ++ (encE x).take m) := by
    rw [e, hab, List.flatMap_append, List.flatMap_cons]
    generalize a.flatMap encE = A at *
    generalize encE x = X at *
    generalize b.flatMap encE = B at *
    rw [← hab, List.take_append, List.take_of_length_le (by omega), List.take_append, List.take_of_length_le (by omega), hP2, ← hm, List.take_append_of_le_length (by omega)]
  have hit := itE_enc (pre := [2, UInt8.ofNat o.ents.length]) a ((encE x).take m) (fun y hy => ⟨hok y (by rw [hab]; simp [hy]), by have := hes y (by rw [hab]; simp [hy]); omega⟩)
  rw [← hL, hP2] at hit
  refine dec2_bad (i := a.length + 1) (by omega) (by rw [g0]; rfl) (by omega) ?_ ?_
  · rw [g1, u8_small _ (by omega), hab, List.length_append, List.length_cons]; omega
  · show (stepE _ (itE _ (2, 0) a.length)).2.1.2 ≠ 0
    rw [hit]
    refine stepE_bad (by rw [hl2]; omega) ?_
    rw [hl2]
    by_cases hm0 : m = 0
    · right; omega
    · left
      rw [hL, ← List.append_assoc, getD_app (by rw [List.length_append, hP2])]
      have : ((encE x).take m).getD 0 0 = UInt8.ofNat x.name.size := by
        unfold encE txtB
        cases m with
        | zero => exact absurd rfl hm0
        | succ m => rfl
      rw [this, u8_small _ (by omega)]
      omega
theorem short3 {o : ObjL} (h : checkB o = true) (ho : ObjOk o) (k : o.kind = 3) {c : Nat} (hc : c < (encB o).length) : decP ((encB o).take c) = (zObj 0, 7) := by
  obtain ⟨_, _, _, hp, hn, _⟩ := chk_parts h
  have ht := ho.tree
  have hf := flat_len32 o.pars ho.pars
  have hs : o.note.data.toList.length = o.note.size := by rw [Array.length_toList]; rfl
  have e : encB o = 3 :: (o.tree ++ (UInt8.ofNat o.pars.length :: (o.pars.flatten ++ (be o.num 4 ++ txtB o.note)))) := by
    unfold encB; rw [if_neg (by omega), if_neg (by omega)]
  have e2 : encB o = (3 :: o.tree) ++ (UInt8.ofNat o.pars.length :: (o.pars.flatten ++ (be o.num 4 ++ txtB o.note))) := by rw [e]; rfl
  have e5 : encB o = (3 :: o.tree ++ [UInt8.ofNat o.pars.length] ++ o.pars.flatten ++ be o.num 4) ++ (UInt8.ofNat o.note.size :: o.note.data.toList) := by rw [e]; simp [txtB]
  have hl : (encB o).length = 39 + 32 * o.pars.length + o.note.size := by rw [e5]; simp only [List.length_append, List.length_cons, List.length_nil, ht, hf, be_length, hs]; omega
  by_cases h0 : c = 0
  · subst h0; rfl
  have hl2 : ((encB o).take c).length = c := by rw [List.length_take]; omega
  have g0 : ((encB o).take c)[0]'(by omega) = 3 := by rw [List.getElem_take]; simp [e]
  refine dec3_bad (by omega) (by rw [g0]; rfl) ?_
  simp only [hl2]
  by_cases h34 : c < 34
  · exact .inl h34
  · have g33 : (encB o)[33]? = some (UInt8.ofNat o.pars.length) := by
      rw [e2, List.getElem?_append_right (by simp [ht])]
      simp [ht]
    have h33 : (((encB o).take c)[33]'(by omega)).toNat = o.pars.length := by
      rw [List.getElem_take]
      rw [List.getElem?_eq_getElem (by omega)] at g33
      rw [Option.some.inj g33, u8_small _ (by omega)]
    refine .inr ⟨by omega, ?_⟩
    by_cases h39 : c < 39 + 32 * o.pars.length
    · left; rw [h33]; exact h39
    · right
      have g38 : (encB o)[38 + 32 * o.pars.length]? = some (UInt8.ofNat o.note.size) := by
        rw [e5, List.getElem?_append_right (by simp only [List.length_append, List.length_cons, List.length_nil, ht, hf, be_length]; omega)]
        have : 38 + 32 * o.pars.length - (3 :: o.tree ++ [UInt8.ofNat o.pars.length] ++ o.pars.flatten ++ be o.num 4).length = 0 := by simp only [List.length_append, List.length_cons, List.length_nil, ht, hf, be_length]; omega
        rw [this]
        rfl
      have h38 : (((encB o).take c)[38 + 32 * o.pars.length]'(by omega)).toNat = o.note.size := by
        rw [List.getElem_take]
        rw [List.getElem?_eq_getElem (by omega)] at g38
        rw [Option.some.inj g38, u8_small _ (by omega)]
      simp only [h33, h38]
      exact ⟨by omega, by omega⟩
theorem dec_short {o : ObjL} (h : checkB o = true) (ho : ObjOk o) {c : Nat} (hc : c < (encB o).length) : decP ((encB o).take c) = (zObj 0, 7) := by
  rcases (chk_parts h).1 with k | k | k
  · exact short1 h k hc
  · exact short2 h ho.ents k hc
  · exact short3 h ho k hc
end Go.Proofs.YtcdlmappcbbacaaDoor
