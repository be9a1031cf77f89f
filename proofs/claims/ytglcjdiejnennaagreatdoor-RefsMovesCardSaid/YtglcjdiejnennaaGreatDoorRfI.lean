/- Moves of branches, in plain Lean; a branch set in a row of the call's own. -/
import Derived.Test.YtglcjdiejnennaaGreatDoorRfH
namespace Go.Proofs.YtglcjdiejnennaaGreatDoor
open Go.RowKit
set_option linter.unusedVariables false
set_option linter.unusedSimpArgs false

/-- A move. -/
structure Mv where
  nm : ByteArray
  fr : List UInt8
  dst : List UInt8
def mvC (m : Mv) : List Value := .string m.nm :: (m.fr.map bc ++ m.dst.map bc)
def MvOk (m : Mv) : Prop := m.fr.length = 32 ∧ m.dst.length = 32 ∧ m.nm.size ≤ 140737488355328
theorem mv_parts {w : World} {g : Nat} {m : Mv} (hm : MvOk m) {t : TypeId} {f : Nat × Nat} (h : w.heap[g]? = some (.cells (mvC m).toArray t f)) :
    w.cell? ⟨g, 0, none⟩ = some (.string m.nm) ∧ w.rangeAt g 1 (m.fr.map bc) ∧ w.rangeAt g 33 (m.dst.map bc) := by
  have h0 := rangeAt_of h
  refine ⟨h0 0 _ rfl, fun j v hj => ?_, fun j v hj => ?_⟩
  · have hj2 : j < (m.fr.map bc).length := (List.getElem?_eq_some_iff.1 hj).1
    have := h0 (j + 1) v (by unfold mvC; rw [List.getElem?_cons_succ, List.getElem?_append_left hj2]; exact hj)
    rw [show 1 + j = 0 + (j + 1) by omega]
    exact this
  · have := h0 (j + 33) v (by
      unfold mvC
      rw [show j + 33 = (j + 32) + 1 from rfl, List.getElem?_cons_succ, List.getElem?_append_right (by simp [hm.1]), ← hj]
      simp [hm.1])
    rw [show 33 + j = 0 + (j + 33) by omega]
    exact this
def zr (x : List UInt8) : Bool := decide (x = z32)
def plcR (l : List Rf) (p : ByteArray) : Nat := (l.takeWhile fun e => nl e.name p).length
theorem plc_is {l : List Rf} {p : ByteArray} {i : Nat} (h : PlaceR l p i) : i = plcR l p := by
  obtain ⟨h1, h2, h3⟩ := h
  unfold plcR
  induction l generalizing i with
  | nil => simpa using h1
  | cons e r ih =>
    cases i with
    | zero =>
      have := h3 0 (by simp) (Nat.le_refl _)
      rw [List.takeWhile_cons_of_neg (by simpa using this)]
      rfl
    | succ i =>
      have := h2 0 (by simp) (by omega)
      rw [List.takeWhile_cons_of_pos (by simpa using this), List.length_cons, ← ih (i := i) (by simpa using h1) (fun j hj hl => h2 (j + 1) (by simpa using hj) (by omega)) (fun j hj hl => h3 (j + 1) (by simpa using hj) (by omega))]
/-- What refs.Apply answers. -/
def applyR (l : List Rf) (m : Mv) : List Rf × Int :=
  if (!okR l || (!nameB m.nm || (zr m.fr && zr m.dst))) = true then ([], 190)
  else match getR l m.nm with
  | none => if zr m.fr = false then ([], 4) else if l.length = 8 then ([], 6) else (l.take (plcR l m.nm) ++ ⟨m.nm, m.dst⟩ :: l.drop (plcR l m.nm), 0)
  | some e => if zr m.fr = true then ([], 5) else if e.id ≠ m.fr then ([], 191)
    else if zr m.dst = true then (l.take (plcR l m.nm) ++ l.drop (plcR l m.nm + 1), 0) else (l.take (plcR l m.nm) ++ ⟨m.nm, m.dst⟩ :: l.drop (plcR l m.nm + 1), 0)
theorem flat_take : ∀ (l : List Rf) (i : Nat), (∀ e ∈ l, RfOk e) → (l.flatMap rfC).take (i * 33) = (l.take i).flatMap rfC
  | [], i, _ => by simp
  | x :: l, 0, _ => by simp
  | x :: l, i + 1, h => by
    rw [List.flatMap_cons, List.take_succ_cons, List.flatMap_cons, ← flat_take l i fun e he => h e (List.mem_cons_of_mem _ he)]
    have := rfC_len (h x (List.mem_cons_self ..))
    rw [show (i + 1) * 33 = (rfC x).length + i * 33 by omega, List.take_length_add_append]
theorem flat_drop : ∀ (l : List Rf) (i : Nat), (∀ e ∈ l, RfOk e) → (l.flatMap rfC).drop (i * 33) = (l.drop i).flatMap rfC
  | [], i, _ => by simp
  | x :: l, 0, _ => by simp
  | x :: l, i + 1, h => by
    rw [List.flatMap_cons, List.drop_succ_cons, ← flat_drop l i fun e he => h e (List.mem_cons_of_mem _ he)]
    have := rfC_len (h x (List.mem_cons_self ..))
    rw [show (i + 1) * 33 = (rfC x).length + i * 33 by omega, List.drop_length_add_append]
theorem isR_nil (w : World) : IsR w (.slice none 0 0) [] := ⟨⟨rfl, none, 0, rfl, Nat.le_refl _, by omega, fun _ => rfl, fun i hi => absurd hi (Nat.not_lt_zero _)⟩, fun e h => by cases h⟩
theorem isR_own {w : World} {base : Nat} {v : Value} {n : Nat} {l : List Rf} (h : w.ownsRow base 78 33 v n (l.flatMap rfC)) (hn : l.length = n) (ok : ∀ e ∈ l, RfOk e) : IsR w v l := by
  subst hn
  exact ⟨IsSl.of_owns h, ok⟩
theorem info63 (v : Value) : (Tryz.prog.info? 63).map (·.size) = some (#[v] : Array Value).size := by show _ = some 1; kernel_rfl
theorem split_at (l : List Rf) {i : Nat} (hi : i < l.length) : l = l.take i ++ l[i] :: l.drop (i + 1) := by
  rw [← List.drop_eq_getElem_cons hi, List.take_append_drop]
theorem own_set {w : World} {base : Nat} {v : Value} {n : Nat} {l : List Rf} (own : w.ownsRow base 78 33 v n (l.flatMap rfC)) (hl : l.length = n) (ok : ∀ e ∈ l, RfOk e) (i : Nat) (hi : i < l.length) (dst : List UInt8) (ht : dst.length = 32) :
    ∃ g cap, v = .slice (some ⟨g, 0, none⟩) n cap ∧ n ≤ cap ∧ cap ≤ 9223372036854775807 ∧ base ≤ g ∧ w.there g (i * 33 + 1) 32 ∧ w.rangeAt g (i * 33 + 1) (l[i].id.map bc) ∧
      (w.setCells g (i * 33 + 1) (dst.map bc)).ownsRow base 78 33 v n ((l.take i ++ ⟨l[i].name, dst⟩ :: l.drop (i + 1)).flatMap rfC) := by
  obtain ⟨hlen, h2⟩ := own
  rcases h2 with ⟨_, h0⟩ | ⟨g, cap, cur, rfl, hb, hg, hnc, hcm, hsz, htk⟩
  · omega
  have hcm' : cap ≤ 9223372036854775807 := by unfold maxLen at hcm; omega
  have hx := ok _ (List.getElem_mem hi)
  have hA : ((l.take i).flatMap rfC).length = i * 33 := by rw [rf_flat fun e he => ok e (List.mem_of_mem_take he), List.length_take, Nat.min_eq_left (by omega)]
  have hcur : cur.toList = ((l.take i).flatMap rfC ++ [Value.string l[i].name]) ++ l[i].id.map bc ++ ((l.drop (i + 1)).flatMap rfC ++ cur.toList.drop (n * 33)) := by
    have h1 : cur.toList = l.flatMap rfC ++ cur.toList.drop (n * 33) := by rw [← htk, List.take_append_drop]
    rw [h1]
    have h3 : l.flatMap rfC = (l.take i).flatMap rfC ++ (rfC l[i] ++ (l.drop (i + 1)).flatMap rfC) := by
      conv => lhs; rw [split_at l hi]
      rw [List.flatMap_append, List.flatMap_cons]
    have h4 : (cur.toList.drop (n * 33)) = ((l.flatMap rfC ++ cur.toList.drop (n * 33)).drop (n * 33)) := by rw [← h1]
    rw [← h4, h3]
    simp [rfC]
  have hset : setFrom cur (i * 33 + 1) (dst.map bc) = (((l.take i).flatMap rfC ++ [Value.string l[i].name]) ++ dst.map bc ++ ((l.drop (i + 1)).flatMap rfC ++ cur.toList.drop (n * 33))).toArray := by
    have key := setFrom_mid (dst.map bc) (l[i].id.map bc) ((l.take i).flatMap rfC ++ [Value.string l[i].name]) ((l.drop (i + 1)).flatMap rfC ++ cur.toList.drop (n * 33)) (by simp [hx.1, ht])
    rw [← hcur, List.length_append, hA] at key
    simpa using key
  have hF : (l.take i ++ ⟨l[i].name, dst⟩ :: l.drop (i + 1)).flatMap rfC = ((l.take i).flatMap rfC ++ [Value.string l[i].name]) ++ dst.map bc ++ (l.drop (i + 1)).flatMap rfC := by
    rw [List.flatMap_append, List.flatMap_cons]
    simp [rfC]
  have hFl : ((l.take i ++ ⟨l[i].name, dst⟩ :: l.drop (i + 1)).flatMap rfC).length = n * 33 := by
    rw [hF]
    simp only [List.length_append, hA, List.length_map, ht, List.length_cons, List.length_nil]
    rw [rf_flat fun e he => ok e (List.mem_of_mem_drop he), List.length_drop]
    omega
  have hfit : n * 33 ≤ cap * 33 := Nat.mul_le_mul_right _ hnc
  refine ⟨g, cap, rfl, hnc, hcm', hb, there_of hg _ _ (by rw [hsz]; omega), fun j u hj => ?_, ?_⟩
  · rw [block_cell hg, ← Array.getElem?_toList, hcur]
    have hj2 := (List.getElem?_eq_some_iff.1 hj).1
    rw [List.append_assoc, List.getElem?_append_right (by rw [List.length_append, hA]; simp), List.length_append, hA]
    simp only [List.length_cons, List.length_nil, Nat.zero_add, Nat.add_sub_cancel_left]
    rw [List.getElem?_append_left hj2]
    exact hj
  · refine ⟨hFl, .inr ⟨g, cap, _, rfl, hb, heap_setCells g _ _ w _ hg, hnc, hcm, ?_, ?_⟩⟩
    · rw [hset, List.size_toArray]
      have h5 := congrArg List.length hcur
      rw [Array.length_toList, hsz] at h5
      simp only [List.length_append, List.length_map, hx.1, ht] at h5 ⊢
      omega
    · rw [hset, List.toList_toArray, ← List.append_assoc, ← hF]
      exact List.take_left' hFl
/-- A store at the middle of a block. -/
theorem wpl_storeMid {P : Program} {ops : Array Oper} {rest : List Oper} {o : Oper} {a : Act} {w : World} {Q : Exit → Act → World → Prop} (hgd : Region.wanted o (yielded ops a.tmps) = true) (ty : TypeId) (x y : Operand) (ho : o.op = .store ty x y)
    (b f : Nat) (cells : Array Value) (hx : a.eval x = .pointer (some ⟨b, f, none⟩)) (hy : a.eval y = .agg cells) (ht : w.there b f cells.size) (hi : (P.info? ty).map (·.size) = some cells.size) (h1 : cells.all (·.oneCell') = true)
    (h : wpList P ops Q rest (a.put o.dst undef) (w.setCells b f cells.toList)) : wpList P ops Q (o :: rest) a w :=
  wpList_wanted hgd fun K hK => wp_store_mid ty x y ho b f cells hx hy ht hi h1 (hK _ _ h)
end Go.Proofs.YtglcjdiejnennaaGreatDoor
