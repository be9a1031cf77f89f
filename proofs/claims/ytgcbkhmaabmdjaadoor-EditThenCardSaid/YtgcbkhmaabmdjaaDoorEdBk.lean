/- Plain laws: what was undone is as it was, and undone again the edits are as they were. -/
import Derived.Test.YtgcbkhmaabmdjaaDoorFlK
import Derived.Test.YtgcbkhmaabmdjaaDoorEdRo
namespace Go.Proofs.YtgcbkhmaabmdjaaDoor
open Go.RowKit
set_option linter.unusedVariables false
set_option linter.unusedSimpArgs false

theorem ext_list (s : ByteArray) (a b : Nat) : (s.extract a b).data.toList = (s.data.toList.drop a).take (b - a) := by
  rw [ByteArray.data_extract, Array.toList_extract, List.extract_eq_take_drop]
theorem ba_of {s : ByteArray} {l : List UInt8} (h : s.data.toList = l) : (⟨l.toArray⟩ : ByteArray) = s := by subst h; cases s; rfl
theorem ba_len (s : ByteArray) : s.data.toList.length = s.size := by rw [Array.length_toList]; rfl
theorem path_eq {a b : ByteArray} (h : (a.toList == b.toList) = true) : a = b := by rw [ba_eq] at h; exact of_decide_eq_true h
theorem path_beq {a b : ByteArray} (h : a = b) : (a.toList == b.toList) = true := by subst h; simp
theorem path_bne {a b : ByteArray} (h : a ≠ b) : (a.toList == b.toList) = false := by rw [ba_eq]; exact decide_eq_false h
theorem less_irr (a : List UInt8) : Op.bytesLess a a = false := by
  rw [bytesLess_eq, decide_eq_false_iff_not]; exact List.lt_irrefl _
theorem less_tr {a b c : List UInt8} (h1 : Op.bytesLess a b = true) (h2 : Op.bytesLess b c = true) : Op.bytesLess a c = true := by
  rw [bytesLess_eq, decide_eq_true_eq] at *
  exact List.lt_trans h1 h2
theorem less_as {a b : List UInt8} (h1 : Op.bytesLess a b = true) : Op.bytesLess b a = false := by
  rw [bytesLess_eq, decide_eq_true_eq] at h1
  rw [bytesLess_eq, decide_eq_false_iff_not]
  exact fun h => List.lt_irrefl _ (List.lt_trans h1 h)

/-- Edits that undo edits of a text: they stand one behind the other, lead back, and are undone by the edits. -/
theorem undo_core (f g : Fl) (hp : g.path = f.path) : ∀ (m : List Ed) (a b : Nat) (pre : List UInt8), okFrom f.text.data.toList.length a m → (∀ e ∈ m, okOne e = true) → (∀ e ∈ m, e.path = f.path) → pre.length = b → g.text.data.toList = pre ++ doneFrom f.text.data.toList a m →
    okFrom g.text.data.toList.length b (undoFrom f ((b : Int) - a) m) ∧ doneFrom g.text.data.toList b (undoFrom f ((b : Int) - a) m) = f.text.data.toList.drop a ∧ undoFrom g ((a : Int) - b) (undoFrom f ((b : Int) - a) m) = m
  | [], a, b, pre, hok, _, _, hb, hg => by
    refine ⟨?_, ?_, rfl⟩
    · show b ≤ _
      rw [hg, List.length_append]; omega
    · show g.text.data.toList.drop b = _
      rw [hg, ← hb, List.drop_left]; rfl
  | e :: es, a, b, pre, hok, h1, hpe, hb, hg => by
    obtain ⟨k1, k2, k3, k4, k5⟩ := hok
    have ho := okOne_all (h1 e (List.mem_cons_self ..))
    obtain ⟨A, hA⟩ : ∃ A : Nat, e.at_ = A := ⟨e.at_.toNat, by omega⟩
    obtain ⟨N, hN⟩ : ∃ N : Nat, e.n = N := ⟨e.n.toNat, by omega⟩
    have hAN : (e.at_ + e.n).toNat = A + N := by omega
    have hAt : e.at_.toNat = A := by omega
    rw [hAN] at k5
    have hd : doneFrom f.text.data.toList a (e :: es) = (f.text.data.toList.drop a).take (A - a) ++ e.text.data.toList ++ doneFrom f.text.data.toList (A + N) es := by rw [doneFrom, hAN, hAt]
    have hlen : ((f.text.data.toList.drop a).take (A - a)).length = A - a := by rw [List.length_take, List.length_drop]; omega
    have htl := ba_len e.text
    have ih := undo_core f g hp es (A + N) (b + (A - a) + e.text.size) (pre ++ (f.text.data.toList.drop a).take (A - a) ++ e.text.data.toList) k5 (fun x hx => h1 x (List.mem_cons_of_mem _ hx)) (fun x hx => hpe x (List.mem_cons_of_mem _ hx))
      (by rw [List.length_append, List.length_append, hlen, htl]; omega) (by rw [hg, hd]; simp only [List.append_assoc])
    have hoff : ((b : Int) - a) + (e.text.size - e.n) = ((b + (A - a) + e.text.size : Nat) : Int) - ((A + N : Nat) : Int) := by omega
    have hu : undoFrom f ((b : Int) - a) (e :: es) = undoE f ((b : Int) - a) e :: undoFrom f (((b + (A - a) + e.text.size : Nat) : Int) - ((A + N : Nat) : Int)) es := by rw [undoFrom, hoff]
    have hgl : g.text.data.toList.length = b + (A - a) + e.text.size + (doneFrom f.text.data.toList (A + N) es).length := by
      rw [hg, hd, List.length_append, List.length_append, List.length_append, hlen, htl, hb]; omega
    have hat : (undoE f ((b : Int) - a) e).at_ = ((b + (A - a) : Nat) : Int) := by show e.at_ + _ = _; omega
    have hn : (undoE f ((b : Int) - a) e).n = (e.text.size : Int) := rfl
    have hsum : ((undoE f ((b : Int) - a) e).at_ + (undoE f ((b : Int) - a) e).n).toNat = b + (A - a) + e.text.size := by rw [hat, hn]; omega
    have htx : (undoE f ((b : Int) - a) e).text.data.toList = (f.text.data.toList.drop A).take N := by
      show (f.text.extract e.at_.toNat (e.at_ + e.n).toNat).data.toList = _
      rw [ext_list, hAt, hAN]
      congr 1
      omega
    have htxl : (undoE f ((b : Int) - a) e).text.size = N := by
      rw [← ba_len, htx, List.length_take, List.length_drop]; omega
    rw [hu]
    refine ⟨⟨by rw [hat]; omega, by rw [hn]; omega, by rw [hat, hn]; omega, by rw [htxl]; omega, by rw [hsum]; exact ih.1⟩, ?_, ?_⟩
    · rw [doneFrom, hsum, ih.2.1, hat, htx]
      have e1 : ((g.text.data.toList.drop b).take (((b + (A - a) : Nat) : Int).toNat - b)) = (f.text.data.toList.drop a).take (A - a) := by
        rw [hg, ← hb, List.drop_left, hd, List.append_assoc, List.take_append_of_le_length (by rw [hlen]; omega)]
        rw [List.take_of_length_le (by rw [hlen]; omega)]
      rw [e1, List.append_assoc, ← List.drop_drop, List.take_append_drop]
      have e2 : f.text.data.toList.drop A = (f.text.data.toList.drop a).drop (A - a) := by rw [List.drop_drop]; congr 1; omega
      rw [e2, List.take_append_drop]
    · rw [undoFrom]
      have hoff2 : ((a : Int) - b) + ((undoE f ((b : Int) - a) e).text.size - (undoE f ((b : Int) - a) e).n) = ((A + N : Nat) : Int) - ((b + (A - a) + e.text.size : Nat) : Int) := by rw [htxl, hn]; omega
      rw [hoff2, ih.2.2]
      congr 1
      have h3 : (undoE f ((b : Int) - a) e).at_ + ((a : Int) - b) = e.at_ := by rw [hat]; omega
      have h4 : g.text.extract (undoE f ((b : Int) - a) e).at_.toNat ((undoE f ((b : Int) - a) e).at_ + (undoE f ((b : Int) - a) e).n).toNat = e.text := by
        rw [hsum, hat]
        apply ByteArray.ext
        apply Array.toList_inj.1
        rw [ext_list, hg, hd]
        have e3 : ((b + (A - a) : Nat) : Int).toNat = (pre ++ (f.text.data.toList.drop a).take (A - a)).length := by rw [List.length_append, hlen, hb]; omega
        rw [e3, List.append_assoc, ← List.append_assoc pre, List.drop_left, List.take_append_of_le_length (by rw [List.length_append, hlen, hb, htl]; omega)]
        exact List.take_of_length_le (by rw [List.length_append, hlen, hb, htl]; omega)
      show (⟨g.path, _, _, _⟩ : Ed) = e
      rw [h3, h4, htxl, hp, ← hpe e (List.mem_cons_self ..), ← hN]
theorem undo_path (f : Fl) : ∀ (m : List Ed) (mv : Int), ∀ x ∈ undoFrom f mv m, x.path = f.path
  | [], _, _, h => by cases h
  | e :: es, mv, x, h => by
    rw [undoFrom, List.mem_cons] at h
    rcases h with rfl | h
    · rfl
    · exact undo_path f es _ x h

/-- From neighbours to all. -/
theorem chk_ofR : ∀ {l : List Ed}, chkR l = true → chk l = true := by
  intro l h
  refine chk_of fun j hj => ⟨chkR_mem h _ (List.getElem_mem hj), fun h0 => ?_⟩
  have key : ∀ (l : List Ed) (j : Nat) (hj : j + 1 < l.length), chkR l = true → okNext l[j] l[j + 1] = true := by
    intro l
    induction l with
    | nil => intro j hj; simp at hj
    | cons e r ih =>
      intro j hj hc
      cases r with
      | nil => simp at hj
      | cons f r =>
        cases j with
        | zero => exact chkR_next hc
        | succ j => exact ih j (by simpa using hj) (chkR_tail hc)
  obtain ⟨i, rfl⟩ : ∃ i, j = i + 1 := ⟨j - 1, by omega⟩
  exact key l i hj h
theorem chkR_app : ∀ (A B : List Ed), chkR A = true → chkR B = true → (∀ x ∈ A, ∀ y ∈ B, okNext x y = true) → chkR (A ++ B) = true
  | [], B, _, hB, _ => hB
  | [e], [], hA, _, _ => hA
  | [e], y :: B, hA, hB, h => by
    show chkR (e :: y :: B) = true
    simp only [chkR, Bool.and_eq_true]
    exact ⟨hA, h e (by simp) y (by simp), hB⟩
  | e :: f :: r, B, hA, hB, h => by
    have ih := chkR_app (f :: r) B (chkR_tail hA) hB fun x hx => h x (List.mem_cons_of_mem _ hx)
    show chkR (e :: f :: (r ++ B)) = true
    simp only [chkR, Bool.and_eq_true]
    exact ⟨chkR_one hA, chkR_next hA, ih⟩
theorem next_less {x y : Ed} (h : Op.bytesLess x.path.toList y.path.toList = true) : okNext x y = true := by
  have hne : (y.path.toList == x.path.toList) = false := by
    rw [beq_eq_false_iff_ne]
    intro e
    rw [e, less_irr] at h
    cases h
  simp only [okNext, less_as h, hne, Bool.false_and, Bool.or_false, Bool.not_false]

/-- One file's. -/
theorem undo_chk1 (f : Fl) (e : Ed) (mv : Int) (n b : Nat) (hn : n ≤ 4096) (hc : okOne e = true) (hp : e.path = f.path) (hok : okFrom n b (undoFrom f mv [e])) : okOne (undoE f mv e) = true := by
  have ho := okOne_all hc
  obtain ⟨k1, k2, k3, k4, _⟩ := hok
  have hs : (undoE f mv e).n = (e.text.size : Int) := rfl
  have hpp : (undoE f mv e).path = e.path := hp.symm
  simp only [okOne, hpp, ho.2.2.2.2.2, inB_t (show 0 ≤ (undoE f mv e).at_ ∧ (undoE f mv e).at_ ≤ 4096 by omega), inB_t (show 0 ≤ (undoE f mv e).n ∧ (undoE f mv e).n ≤ 4096 by omega), decide_eq_true k4]
  rfl
theorem undo_chk (f : Fl) : ∀ (m : List Ed) (mv : Int) (n b : Nat), n ≤ 4096 → chkR m = true → (∀ e ∈ m, e.path = f.path) → okFrom n b (undoFrom f mv m) → chkR (undoFrom f mv m) = true
  | [], _, _, _, _, _, _, _ => rfl
  | [e], mv, n, b, hn, hc, hp, hok => undo_chk1 f e mv n b hn (chkR_one hc) (hp e (by simp)) hok
  | e :: e2 :: es, mv, n, b, hn, hc, hp, hok => by
    have h1 := okNext_same (chkR_next hc) (path_beq ((hp e2 (by simp)).trans (hp e (by simp)).symm))
    have ih := undo_chk f (e2 :: es) (mv + (e.text.size - e.n)) n _ hn (chkR_tail hc) (fun x hx => hp x (List.mem_cons_of_mem _ hx)) hok.2.2.2.2
    have h0 := undo_chk1 f e mv n b hn (chkR_one hc) (hp e (by simp)) ⟨hok.1, hok.2.1, hok.2.2.1, hok.2.2.2.1, by
      obtain ⟨k1, k2, k3, k4, _⟩ := hok
      show _ ≤ n
      omega⟩
    show chkR (undoE f mv e :: undoE f _ e2 :: undoFrom f _ es) = true
    simp only [chkR, Bool.and_eq_true]
    refine ⟨h0, ?_, ih⟩
    have hlt : ¬ (undoE f (mv + (e.text.size - e.n)) e2).at_ ≤ (undoE f mv e).at_ + (undoE f mv e).n := by
      show ¬ (e2.at_ + (mv + (e.text.size - e.n)) ≤ e.at_ + mv + (e.text.size : Int))
      omega
    simp only [okNext, decide_eq_false hlt, Bool.and_false, Bool.or_false, Bool.not_eq_true']
    exact less_irr _

/-- Files in order. -/
def FsR (fs : List Fl) : Prop := fs.Pairwise fun f g => Op.bytesLess f.path.toList g.path.toList = true
theorem repo_less {fs : List Fl} (h : repoB fs = true) : FsR fs := by
  unfold repoB at h
  simp only [Bool.and_eq_true, List.all_eq_true] at h
  have h1 : ∀ i (hi : i + 1 < fs.length), Op.bytesLess fs[i].path.toList fs[i + 1].path.toList = true := fun i hi => by
    have := h.2.1 (i + 1) (List.mem_range.2 hi)
    unfold fileB at this
    simp only [Bool.and_eq_true, Bool.or_eq_true] at this
    have h2 := this.2.2.1
    rcases h2 with h2 | h2
    · simp at h2
    · unfold lessB at h2
      rw [getD_atF hi, Nat.add_sub_cancel, getD_atF (by omega)] at h2
      exact h2
  unfold FsR
  rw [List.pairwise_iff_getElem]
  intro i j hi hj hij
  obtain ⟨d, rfl⟩ : ∃ d, j = i + 1 + d := ⟨j - (i + 1), by omega⟩
  clear hij
  induction d with
  | zero => exact h1 i hj
  | succ d ih => exact less_tr (ih (by omega)) (h1 (i + 1 + d) (by omega))
theorem repo_file {fs : List Fl} (h : repoB fs = true) : ∀ f ∈ fs, pathB f.path = true ∧ f.text.size ≤ 4096 := by
  unfold repoB at h
  simp only [Bool.and_eq_true, List.all_eq_true] at h
  intro f hf
  obtain ⟨i, hi, rfl⟩ := List.getElem_of_mem hf
  have := h.2.1 i (List.mem_range.2 hi)
  unfold fileB at this
  rw [getD_atF hi] at this
  simp only [Bool.and_eq_true, decide_eq_true_eq] at this
  exact ⟨this.1, this.2.1⟩
theorem fsR_map {fs : List Fl} (c : Fl → Fl) (hc : ∀ f, (c f).path = f.path) (h : FsR fs) : FsR (fs.map c) := by
  unfold FsR
  rw [List.pairwise_map]
  exact h.imp fun {a b} q => by rw [hc, hc]; exact q
theorem flat_chk (c : Fl → List Ed) : ∀ (fs : List Fl), FsR fs → (∀ f ∈ fs, chkR (c f) = true) → (∀ f ∈ fs, ∀ x ∈ c f, x.path = f.path) → chkR (fs.flatMap c) = true
  | [], _, _, _ => rfl
  | f :: fs, hs, h1, hp => by
    have hs2 := List.pairwise_cons.1 hs
    rw [List.flatMap_cons]
    refine chkR_app _ _ (h1 f (by simp)) (flat_chk c fs hs2.2 (fun g hg => h1 g (by simp [hg])) (fun g hg => hp g (by simp [hg]))) fun x hx y hy => ?_
    obtain ⟨g, hg, hyg⟩ := List.mem_flatMap.1 hy
    refine next_less ?_
    rw [hp f (by simp) x hx, hp g (by simp [hg]) y hyg]
    exact hs2.1 g hg
theorem flat_one (c : Fl → List Ed) : ∀ (fs : List Fl), FsR fs → (∀ f ∈ fs, ∀ x ∈ c f, x.path = f.path) → ∀ f ∈ fs, (fs.flatMap c).filter (fun x => x.path.toList == f.path.toList) = c f
  | g :: fs, hs, hp, f, hf => by
    have hs2 := List.pairwise_cons.1 hs
    rw [List.flatMap_cons, List.filter_append]
    rcases List.mem_cons.1 hf with rfl | hf
    · rw [List.filter_eq_self.2 (fun x hx => path_beq (hp f (by simp) x hx)), List.filter_eq_nil_iff.2 (fun x hx => ?_), List.append_nil]
      obtain ⟨g, hg, hyg⟩ := List.mem_flatMap.1 hx
      have h2 := hs2.1 g hg
      rw [hp g (by simp [hg]) x hyg, path_bne (fun e => by rw [e, less_irr] at h2; cases h2)]
      decide
    · rw [flat_one c fs hs2.2 (fun g hg => hp g (by simp [hg])) f hf, List.filter_eq_nil_iff.2 (fun x hx => ?_), List.nil_append]
      have h2 := hs2.1 f hf
      rw [hp g (by simp) x hx, path_bne (fun e => by rw [e, less_irr] at h2; cases h2)]
      decide
def EsR (l : List Ed) : Prop := l.Pairwise fun a b => Op.bytesLess b.path.toList a.path.toList = false
theorem chkR_sort : ∀ {l : List Ed}, chkR l = true → EsR l
  | [], _ => List.Pairwise.nil
  | e :: l, h => List.pairwise_cons.2 ⟨chkR_less h, chkR_sort (chkR_tail h)⟩
theorem flatMap_congr' {α β : Type} {l : List α} {f g : α → List β} (h : ∀ a ∈ l, f a = g a) : l.flatMap f = l.flatMap g := by
  induction l with
  | nil => rfl
  | cons x l ih => rw [List.flatMap_cons, List.flatMap_cons, h x (by simp), ih fun a ha => h a (by simp [ha])]
theorem part_first (p : ByteArray) : ∀ (l : List Ed), EsR l → (∀ e ∈ l, Op.bytesLess e.path.toList p.toList = false) → l.filter (fun x => x.path.toList == p.toList) ++ l.filter (fun x => !(x.path.toList == p.toList)) = l
  | [], _, _ => rfl
  | e :: l, hs, hp => by
    have hs2 := List.pairwise_cons.1 hs
    rw [List.filter_cons, List.filter_cons]
    cases hb : (e.path.toList == p.toList) with
    | true =>
      simp only [if_true, Bool.not_true, Bool.false_eq_true, if_false, List.cons_append]
      rw [part_first p l hs2.2 (fun x hx => hp x (by simp [hx]))]
    | false =>
      have hno : ∀ x ∈ l, (x.path.toList == p.toList) = false := fun x hx => by
        cases hq : (x.path.toList == p.toList) with
        | false => rfl
        | true =>
          rw [beq_iff_eq] at hq
          have h1 := hs2.1 x hx
          rw [hq] at h1
          have h2 := hp e (by simp)
          rw [less_irrefl_eq h1 h2] at hb
          simp at hb
      rw [if_neg (by simp), if_pos (by simp), List.filter_eq_nil_iff.2 (fun x hx => by rw [hno x hx]; decide), List.nil_append, List.filter_eq_self.2 (fun x hx => by rw [hno x hx]; decide)]
theorem flat_all : ∀ (fs : List Fl) (l : List Ed), FsR fs → EsR l → (∀ e ∈ l, ∃ f ∈ fs, f.path = e.path) → fs.flatMap (fun f => l.filter fun x => x.path.toList == f.path.toList) = l
  | [], l, _, _, h => by
    cases l with
    | nil => rfl
    | cons e r => obtain ⟨f, hf, _⟩ := h e (by simp); cases hf
  | g :: fs, l, hs, hl, h => by
    have hs2 := List.pairwise_cons.1 hs
    have hp : ∀ e ∈ l, Op.bytesLess e.path.toList g.path.toList = false := fun e he => by
      obtain ⟨f, hf, hfe⟩ := h e he
      rw [← hfe]
      rcases List.mem_cons.1 hf with rfl | hf
      · exact less_irr _
      · exact less_as (hs2.1 f hf)
    have ih := flat_all fs (l.filter fun x => !(x.path.toList == g.path.toList)) hs2.2 (hl.filter _) (fun e he => by
      obtain ⟨he, hne⟩ := List.mem_filter.1 he
      obtain ⟨f, hf, hfe⟩ := h e he
      rcases List.mem_cons.1 hf with rfl | hf
      · rw [path_beq hfe.symm] at hne; cases hne
      · exact ⟨f, hf, hfe⟩)
    rw [List.flatMap_cons]
    have e1 : fs.flatMap (fun f => l.filter fun x => x.path.toList == f.path.toList) = fs.flatMap (fun f => (l.filter fun x => !(x.path.toList == g.path.toList)).filter fun x => x.path.toList == f.path.toList) := by
      refine flatMap_congr' fun f hf => ?_
      rw [List.filter_filter]
      refine List.filter_congr fun x _ => ?_
      cases hq : (x.path.toList == f.path.toList) with
      | false => rfl
      | true =>
        have h2 := hs2.1 f hf
        rw [path_eq hq, path_bne (fun e => by rw [e, less_irr] at h2; cases h2)]
        rfl
    rw [e1, ih]
    exact part_first g.path l hl hp
theorem okFrom_fit (n : Nat) : ∀ (m : List Ed) (b : Nat), okFrom n b m → ∀ e ∈ m, e.at_ + e.n ≤ n
  | [], _, _, _, h => by cases h
  | x :: m, b, h, e, he => by
    rcases List.mem_cons.1 he with rfl | he
    · exact h.2.2.1
    · exact okFrom_fit n m _ h.2.2.2.2 e he
theorem upd_path (l : List Ed) (f : Fl) : (updF l f).path = f.path := rfl
theorem upd_text (l : List Ed) (f : Fl) : (updF l f).text.data.toList = doneFrom f.text.data.toList 0 (ofL l f.path) := rfl
theorem repo_map {fs : List Fl} (c : Fl → Fl) (hc : ∀ f, (c f).path = f.path) (h : repoB fs = true) (hl : longB (fs.map c) = false) (hs : sumT (fs.map c) ≤ 16384) : repoB (fs.map c) = true := by
  unfold repoB at h ⊢
  simp only [Bool.and_eq_true, List.all_eq_true, decide_eq_true_eq, List.length_map] at h ⊢
  refine ⟨h.1, fun i hi => ?_, hs⟩
  have h1 := h.2.1 i hi
  have hi := List.mem_range.1 hi
  have hm : i < (fs.map c).length := by rw [List.length_map]; exact hi
  have hpath : ∀ j, j < fs.length → ((fs.map c).getD j default).path = (fs.getD j default).path := fun j hj => by
    rw [getD_atF (by rw [List.length_map]; exact hj), getD_atF hj, List.getElem_map, hc]
  have ht : ((fs.map c).getD i default).text.size ≤ 4096 := by
    rw [getD_atF hm]
    unfold longB at hl
    rw [List.any_eq_false] at hl
    have := hl _ (List.getElem_mem hm)
    rw [decide_eq_true_eq] at this
    omega
  unfold fileB at h1 ⊢
  unfold lessB at h1 ⊢
  rw [hpath i hi, hpath (i - 1) (by omega), decide_eq_true ht]
  simp only [Bool.and_eq_true, decide_eq_true_eq, Bool.true_and] at h1 ⊢
  refine ⟨h1.1, h1.2.2.1, ?_⟩
  have h3 := h1.2.2.2
  rw [List.any_map]
  have : (fun g => preB g.path (fs.getD i default).path) ∘ c = fun g => preB g.path (fs.getD i default).path := by
    funext g; simp only [Function.comp, hc]
  rw [this]
  exact h3
/-- The stage's theorem. -/
theorem edit_back {fs : List Fl} {l : List Ed} (h : (applyL fs l).2 = 0) :
    chk (undoL fs l) = true ∧ applyL (fs.map (updF l)) (undoL fs l) = (fs, 0) ∧ undoL (fs.map (updF l)) (undoL fs l) = l := by
  obtain ⟨hc, hr, hh, hfit, hlong, hsum, _⟩ := apply_ok h
  have hs := repo_less hr
  have hF := repo_file hr
  have hle : ∀ f ∈ fs, (updF l f).text.size ≤ 4096 := fun f hf => by
    unfold longB at hlong
    rw [List.any_map, List.any_eq_false] at hlong
    have := hlong f hf
    simp only [Function.comp, decide_eq_true_eq] at this
    omega
  have hm := fun f => ofL_chk (l := l) (Fl.path f) hc
  have hpe : ∀ f : Fl, ∀ e ∈ ofL l f.path, e.path = f.path := fun f e he => path_eq (ofL_mem e he)
  have hok : ∀ f ∈ fs, okFrom f.text.data.toList.length 0 (ofL l f.path) := fun f hf => by
    rw [ba_len]
    exact ok_of hc (List.all_eq_true.1 hfit f hf)
  have core := fun f hf => undo_core f (updF l f) rfl (ofL l f.path) 0 0 [] (hok f hf) (chkR_mem (hm f)) (hpe f) rfl (by rw [upd_text]; rfl)
  simp only [show (((0 : Nat) : Int) - ((0 : Nat) : Int)) = 0 from rfl, List.drop_zero] at core
  have hu : ∀ f ∈ fs, chkR (undoFrom f 0 (ofL l f.path)) = true := fun f hf =>
    undo_chk f _ _ _ _ (by rw [ba_len]; exact hle f hf) (hm f) (hpe f) (core f hf).1
  have hcu : chkR (undoL fs l) = true := flat_chk _ fs hs hu fun f hf => undo_path f _ _
  have hof : ∀ f ∈ fs, ofL (undoL fs l) f.path = undoFrom f 0 (ofL l f.path) := fun f hf => by
    rw [← filter_of f.path _ hcu]
    exact flat_one _ fs hs (fun f hf => undo_path f _ _) f hf
  have hback : ∀ f ∈ fs, updF (undoL fs l) (updF l f) = f := fun f hf => by
    have h1 := hof f hf
    show (⟨f.path, ⟨(doneFrom (updF l f).text.data.toList 0 (ofL (undoL fs l) f.path)).toArray⟩⟩ : Fl) = f
    rw [h1, (core f hf).2.1, ba_of rfl]
  have hmap : (fs.map (updF l)).map (updF (undoL fs l)) = fs := by
    rw [List.map_map]
    exact (List.map_congr_left fun f hf => hback f hf).trans (List.map_id fs)
  have hlong0 : longB fs = false := by
    unfold longB
    rw [List.any_eq_false]
    intro f hf
    rw [decide_eq_true_eq]
    have := (hF f hf).2
    omega
  have hsum0 := (repo_sum hr).2
  have hcu' := chk_ofR hcu
  have hr2 := repo_map (updF l) (upd_path l) hr hlong hsum
  have hh2 : ((undoL fs l).all fun e => hasB (fs.map (updF l)) e.path) = true := by
    rw [List.all_eq_true]
    intro e he
    obtain ⟨f, hf, hef⟩ := List.mem_flatMap.1 he
    unfold hasB
    rw [List.any_map, List.any_eq_true]
    exact ⟨f, hf, path_beq (undo_path f _ _ e hef).symm⟩
  have hfit2 : ((fs.map (updF l)).all (fitB (undoL fs l))) = true := by
    rw [List.all_map, List.all_eq_true]
    intro f hf
    show fitsL (ofL (undoL fs l) f.path) (updF l f).text.size = true
    rw [hof f hf, fit_same _ _ (chkR_mem (hu f hf))]
    unfold fitR
    rw [List.all_eq_true]
    intro e he
    rw [decide_eq_true_eq]
    have := okFrom_fit _ _ _ (core f hf).1 e he
    rw [ba_len] at this
    exact this
  refine ⟨hcu', ?_, ?_⟩
  · unfold applyL
    rw [if_neg (by rw [hcu']; decide), if_neg (by rw [hr2]; decide), if_neg (by rw [hh2]; decide), if_neg (by rw [hfit2]; decide), hmap, if_neg (by rw [hlong0, decide_eq_false (by omega)]; decide)]
  · show (fs.map (updF l)).flatMap (fun g => undoFrom g 0 (ofL (undoL fs l) g.path)) = l
    rw [List.flatMap_map]
    have e1 : fs.flatMap (fun f => undoFrom (updF l f) 0 (ofL (undoL fs l) (updF l f).path)) = fs.flatMap (fun f => l.filter fun x => x.path.toList == f.path.toList) := by
      refine flatMap_congr' fun f hf => ?_
      rw [upd_path, hof f hf, (core f hf).2.2, filter_of f.path l (chkR_of _ hc)]
    refine e1.trans (flat_all fs l hs (chkR_sort (chkR_of _ hc)) fun e he => ?_)
    have := List.all_eq_true.1 hh e he
    unfold hasB at this
    obtain ⟨f, hf, hfe⟩ := List.any_eq_true.1 this
    exact ⟨f, hf, path_eq hfe⟩
end Go.Proofs.YtgcbkhmaabmdjaaDoor
