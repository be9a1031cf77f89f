/- An object's bytes, and that decoding and encoding are one another's inverse. Plain lists. -/
import Derived.Test.YtpadfabjihaapaaGreatDoorObQ
namespace Go.Proofs.YtpadfabjihaapaaGreatDoor
open Go.RowKit
set_option linter.unusedVariables false
set_option linter.unusedSimpArgs false

/-- A text's bytes: its length, then itself. -/
def txtB (s : ByteArray) : List UInt8 := UInt8.ofNat s.size :: s.data.toList
theorem txt_len (s : ByteArray) : (txtB s).length = 1 + s.size := by
  show s.data.toList.length + 1 = _
  rw [Array.length_toList]
  show s.size + 1 = _
  omega
def encE (e : EntL) : List UInt8 := txtB e.name ++ ((if e.folder then 1 else 0) :: e.id)
/-- An object's bytes. -/
def encB (o : ObjL) : List UInt8 :=
  if o.kind = 1 then 1 :: (be o.bytes.length 2 ++ o.bytes)
  else if o.kind = 2 then 2 :: UInt8.ofNat o.ents.length :: o.ents.flatMap encE
  else 3 :: (o.tree ++ (UInt8.ofNat o.pars.length :: (o.pars.flatten ++ (be o.num 4 ++ txtB o.note))))
def encO (o : ObjL) : List UInt8 := if checkB o then encB o else []

theorem be2 (x : Nat) : be x 2 = [UInt8.ofNat (x / 256), UInt8.ofNat x] := by simp [be, List.range_succ]
theorem be4 (x : Nat) : be x 4 = [UInt8.ofNat (x / 16777216), UInt8.ofNat (x / 65536), UInt8.ofNat (x / 256), UInt8.ofNat x] := by simp [be, List.range_succ]
theorem num2 (a b : UInt8) : num [a, b] = a.toNat * 256 + b.toNat := by
  have := a.toNat_lt
  have := b.toNat_lt
  simp [num]
  omega
theorem num4 (a b c d : UInt8) : num [a, b, c, d] = ((a.toNat * 256 + b.toNat) * 256 + c.toNat) * 256 + d.toNat := by
  have := a.toNat_lt
  have := b.toNat_lt
  have := c.toNat_lt
  have := d.toNat_lt
  simp [num]
  omega
theorem num_be2 (x : Nat) (h : x < 65536) : num (be x 2) = x := by
  rw [be2, num2, UInt8.toNat_ofNat', UInt8.toNat_ofNat']
  omega
theorem num_be4 (x : Nat) (h : x < 4294967296) : num (be x 4) = x := by
  rw [be4, num4]
  simp only [UInt8.toNat_ofNat']
  omega
theorem u8_nat {c : UInt8} {x : Nat} (h : x % 256 = c.toNat) : UInt8.ofNat x = c := by
  apply UInt8.toNat_inj.1
  rw [UInt8.toNat_ofNat']
  exact h
theorem be_num2 (t : List UInt8) (h : t.length = 2) : be (num t) 2 = t := by
  match t, h with
  | [a, b], _ =>
    have := a.toNat_lt
    have := b.toNat_lt
    rw [num2, be2, u8_nat (c := a) (by omega), u8_nat (c := b) (by omega)]
theorem be_num4 (t : List UInt8) (h : t.length = 4) : be (num t) 4 = t := by
  match t, h with
  | [a, b, c, d], _ =>
    have := a.toNat_lt
    have := b.toNat_lt
    have := c.toNat_lt
    have := d.toNat_lt
    rw [num4, be4, u8_nat (c := a) (by omega), u8_nat (c := b) (by omega), u8_nat (c := c) (by omega), u8_nat (c := d) (by omega)]
theorem u8_small (k : Nat) (h : k < 256) : (UInt8.ofNat k).toNat = k := by rw [UInt8.toNat_ofNat']; omega

theorem chk_parts {o : ObjL} (h : checkB o = true) : (o.kind = 1 ∨ o.kind = 2 ∨ o.kind = 3) ∧ o.bytes.length ≤ 4096 ∧ o.ents.length ≤ 32 ∧ o.pars.length ≤ 2 ∧ o.note.size ≤ 200 ∧ (∀ e ∈ o.ents, e.name.size ≤ 24 ∧ 1 ≤ e.name.size) := by
  unfold checkB at h
  simp only [Bool.and_eq_true] at h
  obtain ⟨⟨hp, hh⟩, he⟩ := h
  unfold headB at hh
  simp only [Bool.and_eq_true, decide_eq_true_eq] at hh
  refine ⟨?_, by omega, by omega, by omega, by omega, ?_⟩
  · unfold plainB at hp
    by_cases h1 : o.kind = 1
    · exact .inl h1
    · by_cases h2 : o.kind = 2
      · exact .inr (.inl h2)
      · by_cases h3 : o.kind = 3
        · exact .inr (.inr h3)
        · simp [h1, h2, h3] at hp
  · have key : ∀ (es : List EntL) (p : Option ByteArray), entsB p es = true → ∀ e ∈ es, nameB e.name = true := by
      intro es
      induction es with
      | nil => intro p _ e he; cases he
      | cons x r ih =>
        intro p h e he
        unfold entsB at h
        simp only [Bool.and_eq_true] at h
        rcases List.mem_cons.1 he with rfl | he
        · exact h.1.1
        · exact ih _ h.2 e he
    intro e hm
    have := key _ _ he e hm
    unfold nameB endOk at this
    simp only [Bool.and_eq_true, decide_eq_true_eq] at this
    omega
theorem note_nil {s : ByteArray} (h : s.toList.isEmpty = true) : s = ⟨#[]⟩ := by
  rw [ByteArray.toList_eq, List.isEmpty_iff] at h
  cases s with
  | mk d =>
    have : d = #[] := by simpa using h
    rw [this]
theorem rest_nil {o : ObjL} (h : restB o = true) : o.tree = z32 ∧ o.pars = [] ∧ o.num = 0 ∧ o.note = ⟨#[]⟩ := by
  unfold restB at h
  simp only [Bool.and_eq_true, decide_eq_true_eq, beq_iff_eq] at h
  exact ⟨h.1.1.1, List.eq_nil_of_length_eq_zero (by omega), by omega, note_nil h.2⟩
/-- What an object of a kind is made of. -/
theorem chk_kind1 {o : ObjL} (h : checkB o = true) (k : o.kind = 1) : o = { zObj 1 with bytes := o.bytes } := by
  unfold checkB plainB at h
  simp only [k, if_true, Bool.and_eq_true, beq_iff_eq] at h
  obtain ⟨⟨⟨h1, h2⟩, _⟩, _⟩ := h
  obtain ⟨a, b, c, d⟩ := rest_nil h2
  have e : o.ents = [] := List.eq_nil_of_length_eq_zero (by omega)
  obtain ⟨o1, o2, o3, o4, o5, o6, o7⟩ := o
  simp only at *
  subst k a b c d e
  rfl
theorem chk_kind2 {o : ObjL} (h : checkB o = true) (k : o.kind = 2) : o = { zObj 2 with ents := o.ents } := by
  unfold checkB plainB at h
  simp only [k, if_true, Bool.and_eq_true, beq_iff_eq] at h
  rw [if_neg (by decide)] at h
  obtain ⟨⟨h0, _⟩, _⟩ := h
  obtain ⟨h1, h2⟩ := Bool.and_eq_true_iff.1 h0
  obtain ⟨a, b, c, d⟩ := rest_nil h2
  have h1 := beq_iff_eq.1 h1
  have e : o.bytes = [] := List.eq_nil_of_length_eq_zero (by omega)
  obtain ⟨o1, o2, o3, o4, o5, o6, o7⟩ := o
  simp only at *
  subst k a b c d e
  rfl
theorem chk_kind3 {o : ObjL} (h : checkB o = true) (k : o.kind = 3) : o = { zObj 3 with tree := o.tree, pars := o.pars, num := o.num, note := o.note } := by
  unfold checkB plainB at h
  simp only [k, if_true, Bool.and_eq_true, beq_iff_eq] at h
  rw [if_neg (by decide), if_neg (by decide)] at h
  obtain ⟨⟨h0, _⟩, _⟩ := h
  obtain ⟨h1, h2⟩ := Bool.and_eq_true_iff.1 h0
  have h1 := beq_iff_eq.1 h1
  have h2 := beq_iff_eq.1 h2
  have e : o.bytes = [] := List.eq_nil_of_length_eq_zero (by omega)
  have f : o.ents = [] := List.eq_nil_of_length_eq_zero (by omega)
  obtain ⟨o1, o2, o3, o4, o5, o6, o7⟩ := o
  simp only at *
  subst k e f
  rfl
theorem end_ok {l : List UInt8} {o : ObjL} {a : Nat} (h : checkB o = true) (ha : l.length = a) : endP l o a true = (o, 0) := by
  unfold endP
  rw [if_neg]
  simp [h, ha]
theorem end_back {l : List UInt8} {o o' : ObjL} {a : Nat} {ok : Bool} (h : endP l o a ok = (o', 0)) : l.length ≤ a ∧ ok = true ∧ checkB o = true ∧ o = o' := by
  unfold endP at h
  split at h
  · simp at h
  · rename_i q
    simp only [Bool.or_eq_true, not_or, Bool.not_eq_true] at q
    obtain ⟨⟨q1, q2⟩, q3⟩ := q
    refine ⟨?_, by simpa using q2, by simpa using q3, by simpa using h⟩
    have : ¬ ((l.length : Int) - a > 0) := by simpa using q1
    omega

/-- Decoding an object's bytes: a blob. -/
theorem dec_enc1 {o : ObjL} (h : checkB o = true) (k : o.kind = 1) : decP (encB o) = (o, 0) := by
  obtain ⟨_, hb, _⟩ := chk_parts h
  have e : encB o = 1 :: (be o.bytes.length 2 ++ o.bytes) := by unfold encB; rw [if_pos k]
  have hl : (encB o).length = 3 + o.bytes.length := by rw [e]; simp [be_length]; omega
  have hd : ((encB o).drop 1).take 2 = be o.bytes.length 2 := by
    rw [e, List.drop_succ_cons, List.drop_zero, List.take_left' (be_length _ _)]
  have hn : num (((encB o).drop 1).take 2) = o.bytes.length := by rw [hd, num_be2 _ (by omega)]
  have hd3 : (encB o).drop 3 = o.bytes := by
    rw [e, show (3 : Nat) = 2 + 1 from rfl, List.drop_succ_cons, List.drop_left' (be_length _ _)]
  have h0 : (encB o)[0]'(by omega) = 1 := by simp [e]
  rw [dec1_ok (by omega) (by rw [h0]; rfl) (by omega) (by rw [hn]; omega), hn, hd3, List.take_length, ← chk_kind1 h k]
  exact end_ok h hl
theorem encE_len {e : EntL} (h : EntOk e) : (encE e).length = 34 + e.name.size := by
  unfold encE
  rw [List.length_append, txt_len, List.length_cons, h.1]
  omega
theorem getD_app {l r : List UInt8} {a : Nat} (h : a = l.length) : (l ++ r).getD a 0 = r.getD 0 0 := by
  subst h
  rw [List.getD_eq_getElem?_getD, List.getD_eq_getElem?_getD, List.getElem?_append_right (Nat.le_refl _), Nat.sub_self]
/-- An entry that lies behind a row of bytes. -/
theorem ent_here {pre post : List UInt8} {e : EntL} (h : EntOk e) (hn : e.name.size < 256) : (((pre ++ (encE e ++ post)).getD pre.length 0).toNat = e.name.size) ∧ entAt (pre ++ (encE e ++ post)) pre.length = e ∧ ((pre ++ (encE e ++ post)).getD (pre.length + 1 + e.name.size) 0).toNat ≤ 1 := by
  have hs : e.name.data.toList.length = e.name.size := by rw [Array.length_toList]; rfl
  have a1 : (pre ++ (encE e ++ post)).getD pre.length 0 = UInt8.ofNat e.name.size := by
    rw [getD_app rfl]; rfl
  have e1 : pre ++ (encE e ++ post) = (pre ++ [UInt8.ofNat e.name.size]) ++ (e.name.data.toList ++ ((if e.folder then 1 else 0) :: (e.id ++ post))) := by
    unfold encE txtB
    simp only [List.append_assoc, List.cons_append, List.nil_append]
  have e2 : pre ++ (encE e ++ post) = (pre ++ [UInt8.ofNat e.name.size] ++ e.name.data.toList) ++ ((if e.folder then 1 else 0) :: (e.id ++ post)) := by
    rw [e1]
    simp
  have e3 : pre ++ (encE e ++ post) = (pre ++ [UInt8.ofNat e.name.size] ++ e.name.data.toList ++ [if e.folder then 1 else 0]) ++ (e.id ++ post) := by
    rw [e2]
    simp
  have d1 : (pre ++ (encE e ++ post)).drop (pre.length + 1) = e.name.data.toList ++ ((if e.folder then 1 else 0) :: (e.id ++ post)) := by
    rw [e1, List.drop_left' (by simp)]
  have a2 : (pre ++ (encE e ++ post)).getD (pre.length + 1 + e.name.size) 0 = if e.folder then 1 else 0 := by
    rw [e2, getD_app (by simp [hs]; omega)]; rfl
  have d2 : (pre ++ (encE e ++ post)).drop (pre.length + 2 + e.name.size) = e.id ++ post := by
    rw [e3, List.drop_left' (by simp [hs]; omega)]
  refine ⟨by rw [a1, u8_small _ hn], ?_, ?_⟩
  · unfold entAt
    simp only [a1, u8_small _ hn, d1, a2, d2]
    rw [List.take_left' hs, List.take_left' h.1]
    cases e with
    | mk n f i => cases f <;> rfl
  · rw [a2]
    cases e.folder <;> decide
theorem snoc_ind {α : Type} {C : List α → Prop} (h0 : C []) (h1 : ∀ l a, C l → C (l ++ [a])) (l : List α) : C l := by
  have key : ∀ l : List α, C l.reverse := by
    intro l
    induction l with
    | nil => exact h0
    | cons a l ih => rw [List.reverse_cons]; exact h1 _ _ ih
  have := key l.reverse
  rwa [List.reverse_reverse] at this
theorem itE_enc {pre : List UInt8} : ∀ (es : List EntL) (post : List UInt8), (∀ e ∈ es, EntOk e ∧ e.name.size < 256) → itE (pre ++ (es.flatMap encE ++ post)) (pre.length, 0) es.length = (es, (pre.length + (es.flatMap encE).length, 0), true) := by
  intro es
  induction es using snoc_ind with
  | h0 => intro post _; simp [itE]
  | h1 es e ih =>
    intro post h
    have h1 := ih (encE e ++ post) (fun x hx => h x (List.mem_append_left _ hx))
    have he := h e (by simp)
    have eq : pre ++ ((es ++ [e]).flatMap encE ++ post) = pre ++ (es.flatMap encE ++ (encE e ++ post)) := by
      rw [List.flatMap_append]
      simp [List.append_assoc]
    rw [eq, List.length_append, List.length_singleton]
    unfold itE
    rw [h1]
    have here := ent_here (pre := pre ++ es.flatMap encE) (post := post) he.1 he.2
    rw [List.append_assoc, List.length_append] at here
    obtain ⟨p1, p2, p3⟩ := here
    rw [stepE_ok, p1, p2]
    · rw [decide_eq_true p3, List.flatMap_append, List.length_append]
      simp [encE_len he.1]
      omega
    · rw [p1]
      simp [encE_len he.1]
      omega
theorem dec_enc2 {o : ObjL} (h : checkB o = true) (hok : ∀ e ∈ o.ents, EntOk e) (k : o.kind = 2) : decP (encB o) = (o, 0) := by
  obtain ⟨_, _, hn, _, _, hes⟩ := chk_parts h
  have e : encB o = [2, UInt8.ofNat o.ents.length] ++ (o.ents.flatMap encE ++ []) := by
    unfold encB; rw [if_neg (by omega), if_pos k, List.append_nil]; rfl
  have hit := itE_enc (pre := [2, UInt8.ofNat o.ents.length]) o.ents [] (fun x hx => ⟨hok x hx, by have := hes x hx; omega⟩)
  rw [← e] at hit
  have hl : (encB o).length = 2 + (o.ents.flatMap encE).length := by rw [e]; simp; omega
  have h0 : (encB o)[0]'(by omega) = 2 := by simp [e]
  have h1 : (encB o)[1]'(by omega) = UInt8.ofNat o.ents.length := by simp [e]
  have hk := chk_kind2 h k
  rw [dec2_ok (by omega) (by rw [h0]; rfl) (by omega) (by rw [h1, u8_small _ (by omega)]; exact hit), ← hk]
  exact end_ok h hl
theorem flat_len32 : ∀ (l : List (List UInt8)), (∀ p ∈ l, p.length = 32) → l.flatten.length = 32 * l.length
  | [], _ => rfl
  | p :: r, h => by
    rw [List.flatten_cons, List.length_append, flat_len32 r (fun x hx => h x (List.mem_cons_of_mem _ hx)), h p (List.mem_cons_self ..), List.length_cons]
    omega
theorem ids_enc {pre : List UInt8} : ∀ (ps : List (List UInt8)) (post : List UInt8), (∀ p ∈ ps, p.length = 32) → idsAt (pre ++ (ps.flatten ++ post)) pre.length ps.length = ps := by
  intro ps
  induction ps using snoc_ind with
  | h0 => intro post _; rfl
  | h1 ps p ih =>
    intro post h
    have h1 := ih (p ++ post) (fun x hx => h x (List.mem_append_left _ hx))
    have hp := h p (by simp)
    have eq : pre ++ ((ps ++ [p]).flatten ++ post) = pre ++ (ps.flatten ++ (p ++ post)) := by simp [List.append_assoc]
    have hf := flat_len32 ps (fun x hx => h x (List.mem_append_left _ hx))
    rw [eq, List.length_append, List.length_singleton]
    unfold idsAt
    rw [h1]
    congr 2
    rw [← List.append_assoc, List.drop_left' (by simp only [List.length_append, hf]), List.take_left' hp]
theorem dec_enc3 {o : ObjL} (h : checkB o = true) (ho : ObjOk o) (k : o.kind = 3) : decP (encB o) = (o, 0) := by
  obtain ⟨_, _, _, hp, hn, _⟩ := chk_parts h
  have ht := ho.tree
  have hf := flat_len32 o.pars ho.pars
  have hs : o.note.data.toList.length = o.note.size := by rw [Array.length_toList]; rfl
  have e : encB o = 3 :: (o.tree ++ (UInt8.ofNat o.pars.length :: (o.pars.flatten ++ (be o.num 4 ++ txtB o.note)))) := by
    unfold encB; rw [if_neg (by omega), if_neg (by omega)]
  have e2 : encB o = (3 :: o.tree) ++ (UInt8.ofNat o.pars.length :: (o.pars.flatten ++ (be o.num 4 ++ txtB o.note))) := by rw [e]; rfl
  have e3 : encB o = (3 :: o.tree ++ [UInt8.ofNat o.pars.length]) ++ (o.pars.flatten ++ (be o.num 4 ++ txtB o.note)) := by rw [e]; simp
  have e4 : encB o = (3 :: o.tree ++ [UInt8.ofNat o.pars.length] ++ o.pars.flatten) ++ (be o.num 4 ++ txtB o.note) := by rw [e]; simp
  have e5 : encB o = (3 :: o.tree ++ [UInt8.ofNat o.pars.length] ++ o.pars.flatten ++ be o.num 4) ++ (UInt8.ofNat o.note.size :: o.note.data.toList) := by rw [e]; simp [txtB]
  have e6 : encB o = (3 :: o.tree ++ [UInt8.ofNat o.pars.length] ++ o.pars.flatten ++ be o.num 4 ++ [UInt8.ofNat o.note.size]) ++ o.note.data.toList := by rw [e]; simp [txtB]
  have hl : (encB o).length = 39 + 32 * o.pars.length + o.note.size := by rw [e6]; simp only [List.length_append, List.length_cons, List.length_nil, ht, hf, be_length, hs]; omega
  have h0 : (encB o)[0]'(by omega) = 3 := by simp [e]
  have g33 : (encB o)[33]? = some (UInt8.ofNat o.pars.length) := by
    rw [e2, List.getElem?_append_right (by simp [ht])]
    simp [ht]
  have h33 : ((encB o)[33]'(by omega)).toNat = o.pars.length := by
    rw [List.getElem?_eq_getElem (by omega)] at g33
    rw [Option.some.inj g33, u8_small _ (by omega)]
  have gn : (encB o)[38 + 32 * o.pars.length]? = some (UInt8.ofNat o.note.size) := by
    have q : (3 :: o.tree ++ [UInt8.ofNat o.pars.length] ++ o.pars.flatten ++ be o.num 4).length = 38 + 32 * o.pars.length := by
      simp only [List.length_append, List.length_cons, List.length_nil, ht, hf, be_length]; omega
    rw [e5, List.getElem?_append_right (by omega), q]
    simp
  have hno : ((encB o)[38 + 32 * o.pars.length]'(by omega)).toNat = o.note.size := by
    rw [List.getElem?_eq_getElem (by omega)] at gn
    rw [Option.some.inj gn, u8_small _ (by omega)]
  have hk := chk_kind3 h k
  have m1 : 38 + 32 * ((encB o)[33]'(by omega)).toNat < (encB o).length := by rw [h33]; omega
  have hno' : ((encB o)[38 + 32 * ((encB o)[33]'(by omega)).toNat]'m1).toNat = o.note.size := by
    rw [← hno]; simp only [h33]
  have d1 : ((encB o).drop 1).take 32 = o.tree := by rw [e, List.drop_succ_cons, List.drop_zero, List.take_left' ht]
  have d2 : idsAt (encB o) 34 o.pars.length = o.pars := by
    have := ids_enc (pre := 3 :: o.tree ++ [UInt8.ofNat o.pars.length]) o.pars (be o.num 4 ++ txtB o.note) ho.pars
    rw [← e3] at this
    rw [show (3 :: o.tree ++ [UInt8.ofNat o.pars.length]).length = 34 from by simp [ht]] at this
    exact this
  have d3 : ((encB o).drop (34 + 32 * o.pars.length)).take 4 = be o.num 4 := by
    rw [e4, List.drop_left' (by simp only [List.length_append, List.length_cons, List.length_nil, ht, hf]), List.take_left' (be_length _ _)]
  have d4 : ((encB o).drop (39 + 32 * o.pars.length)).take o.note.size = o.note.data.toList := by
    rw [e6, List.drop_left' (by simp only [List.length_append, List.length_cons, List.length_nil, ht, hf, be_length]; omega), List.take_of_length_le (by omega)]
  rw [dec3_ok (by omega) (by rw [h0]; rfl) (by omega) m1 (by rw [hno', h33]; omega), hno', h33, d1, d2, d3, d4, num_be4 _ ho.num]
  have e7 : ({ zObj 3 with tree := o.tree, pars := o.pars, num := o.num, note := ⟨o.note.data.toList.toArray⟩ } : ObjL) = o := by
    rw [Array.toArray_toList]
    exact hk.symm
  rw [e7]
  exact end_ok h hl
/-- Decoding an object's bytes. -/
theorem dec_enc {o : ObjL} (h : checkB o = true) (ho : ObjOk o) : decP (encB o) = (o, 0) := by
  rcases (chk_parts h).1 with k | k | k
  · exact dec_enc1 h k
  · exact dec_enc2 h ho.ents k
  · exact dec_enc3 h ho k
end Go.Proofs.YtpadfabjihaapaaGreatDoor
