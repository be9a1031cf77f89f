/- Branches in cells; slices.Equal and Same at them; refs.Check and the reference's Right. -/
import Derived.Test.YtpadfabjihaapaaGreatDoorObD
import Derived.Test.YtpadfabjihaapaaGreatDoorObA
import Derived.Test.YtpadfabjihaapaaGreatDoorReg
import Derived.Laws.CopyRow
import Derived.Lib.AppendZerosOnto
import Derived.Lib.Overlaps
import Derived.Test.YtpadfabjihaapaaGreatDoorObL
import Derived.Test.YtpadfabjihaapaaGreatDoorRegG
import Derived.Test.YtpadfabjihaapaaGreatDoorRegC
import Derived.Test.YtpadfabjihaapaaGreatDoorRegP
import Derived.Laws.Externs
import Derived.Deep.DeepAppendWide
import Derived.Deep.DeepCutAuto
import Derived.BigGuardPart
import Derived.Outline
import Derived.Sort.Walk0
import Derived.Lib.SliceRun
import Derived.Test.YtpadfabjihaapaaGreatDoorIdE
namespace Go.Proofs.YtpadfabjihaapaaGreatDoor
open Go.RowKit
set_option linter.unusedVariables false
set_option linter.unusedSimpArgs false

/-- A branch. -/
structure Rf where
  name : ByteArray
  id : List UInt8
deriving DecidableEq
def rf0 : Rf := ⟨ByteArray.empty, []⟩
def rfC (r : Rf) : List Value := .string r.name :: r.id.map bc
def RfOk (r : Rf) : Prop := r.id.length = 32 ∧ r.name.size ≤ 140737488355328
theorem rfC_len {r : Rf} (h : RfOk r) : (rfC r).length = 33 := by simp [rfC, h.1]
/-- A slice of branches. -/
structure IsR (w : World) (v : Value) (l : List Rf) : Prop where
  sl : IsSl w v 33 l.length (l.flatMap rfC)
  ok : ∀ r ∈ l, RfOk r
theorem IsR.ext {w w' : World} {v : Value} {l : List Rf} (h : IsR w v l) (k : Ext w w') : IsR w' v l := ⟨h.sl.ext k, h.ok⟩
theorem rows_at {α : Type} {c : α → List Value} {k : Nat} (hk : 0 < k) {w : World} {ao : Option Addr} {n cap : Nat} {es : List α} (h : IsSl w (.slice ao n cap) k es.length (es.flatMap c)) (hl : ∀ x ∈ es, (c x).length = k) (i : Nat) (hi : i < es.length) :
    ∃ b off, ao = some ⟨b, off, none⟩ ∧ w.rangeAt b (off + i * k) (c es[i]) := by
  obtain ⟨hlen, ao', cap', e, h2, h3, h4, h5⟩ := h
  simp only [Value.slice.injEq] at e
  obtain ⟨rfl, rfl, rfl⟩ := e
  have hlt : ∀ j, j < k → i * k + j < es.length * k := fun j hj => by
    have h1 : (i + 1) * k ≤ es.length * k := Nat.mul_le_mul_right k (by omega)
    rw [Nat.add_mul, Nat.one_mul] at h1
    omega
  obtain ⟨b, off, e, _⟩ := h5 (i * k) (by rw [flat_len c k es hl]; exact hlt 0 hk)
  refine ⟨b, off, e, fun j v hj => ?_⟩
  have hj34 : j < k := by
    have := (List.getElem?_eq_some_iff.1 hj).1
    rw [hl _ (List.getElem_mem hi)] at this
    exact this
  obtain ⟨b', off', e', hc⟩ := h5 (i * k + j) (by rw [flat_len c k es hl]; exact hlt j hj34)
  rw [e] at e'
  simp only [Option.some.injEq, Addr.mk.injEq] at e'
  obtain ⟨rfl, rfl, _⟩ := e'
  rw [Nat.add_assoc, hc, flat_get c k es hl i hi j hj34]
  exact hj
theorem rf_at {w : World} {ao : Option Addr} {n cap : Nat} {es : List Rf} (h : IsSl w (.slice ao n cap) 33 es.length (es.flatMap rfC)) (hok : ∀ e ∈ es, RfOk e) (i : Nat) (hi : i < es.length) :
    ∃ b off, ao = some ⟨b, off, none⟩ ∧ w.rangeAt b (off + i * 33) (rfC es[i]) := rows_at (by omega) h (fun x hx => rfC_len (hok x hx)) i hi
theorem rf_one (e : Rf) : ∀ v ∈ rfC e, v.oneCell' = true := by
  intro v hv
  simp only [rfC, List.mem_cons] at hv
  rcases hv with rfl | hv
  · rfl
  · exact bc_one _ _ hv
theorem rf_parts {w : World} {b o : Nat} {e : Rf} (h : w.rangeAt b o (rfC e)) : w.cell? ⟨b, o, none⟩ = some (.string e.name) ∧ w.rangeAt b (o + 1) (e.id.map bc) := by
  constructor
  · have := h 0 (.string e.name) rfl
    simpa using this
  · intro j v hj
    have := h (j + 1) v (by simpa [rfC] using hj)
    rw [show o + 1 + j = o + (j + 1) from by omega]
    exact this
/-- The names stand in order, each a name. -/
def rsB : Option ByteArray → List Rf → Bool
  | _, [] => true
  | none, e :: r => nameB e.name && rsB (some e.name) r
  | some q, e :: r => nameB e.name && (Op.bytesLess q.toList e.name.toList && rsB (some e.name) r)
def okR (l : List Rf) : Bool := decide (l.length ≤ 8) && rsB none l
def chkR (b : Bool) : Int := if b then 0 else 190
def prevR (es : List Rf) : Nat → Option ByteArray
  | 0 => none
  | i + 1 => es[i]?.map Rf.name
theorem rs_bad {p : Option ByteArray} {e : Rf} {r : List Rf} (h : nameB e.name = false) : rsB p (e :: r) = false := by cases p <;> simp [rsB, h]
theorem rs_first {e : Rf} {r : List Rf} (h : nameB e.name = true) : rsB none (e :: r) = rsB (some e.name) r := by simp [rsB, h]
theorem rs_next {q : ByteArray} {e : Rf} {r : List Rf} (h : nameB e.name = true) (k : Op.bytesLess q.toList e.name.toList = true) : rsB (some q) (e :: r) = rsB (some e.name) r := by simp [rsB, h, k]
theorem rs_fall {q : ByteArray} {e : Rf} {r : List Rf} (k : Op.bytesLess q.toList e.name.toList = false) : rsB (some q) (e :: r) = false := by simp [rsB, k]
theorem bl_leqR : ∀ x y : List UInt8, (Op.bytesLess x y || x == y) = !Op.bytesLess y x
  | [], [] => by simp [Op.bytesLess]
  | [], _ :: _ => by simp [Op.bytesLess]
  | _ :: _, [] => by simp [Op.bytesLess]
  | a :: x, b :: y => by
    have ih := bl_leqR x y
    simp only [Op.bytesLess]
    rcases Nat.lt_trichotomy a.toNat b.toNat with h | h | h
    · have h1 : a < b := UInt8.lt_iff_toNat_lt.2 h
      have h2 : ¬ b < a := fun k => by have := UInt8.lt_iff_toNat_lt.1 k; omega
      have h3 : ¬ b = a := fun k => by subst k; omega
      simp [h1, h2, h3]
    · have e : a = b := UInt8.toNat_inj.1 h
      subst e
      have h2 : ¬ a < a := fun k => by have := UInt8.lt_iff_toNat_lt.1 k; omega
      simp only [h2, decide_false, Bool.false_or, beq_self_eq_true, Bool.true_and, List.cons_beq_cons]
      exact ih
    · have h1 : b < a := UInt8.lt_iff_toNat_lt.2 h
      have h2 : ¬ a < b := fun k => by have := UInt8.lt_iff_toNat_lt.1 k; omega
      have h3 : ¬ a = b := fun k => by subst k; omega
      simp [h1, h2, h3]
def rfEq (a b : Rf) : Bool := (a.name.toList == b.name.toList) && decide (a.id = b.id)
theorem rfEq_iff (a b : Rf) : rfEq a b = true ↔ a = b := by
  unfold rfEq
  rw [Bool.and_eq_true, beq_iff_eq, decide_eq_true_iff]
  constructor
  · rintro ⟨h1, h2⟩
    cases a
    cases b
    simp only at h1 h2
    subst h2
    congr 1
    apply ByteArray.ext
    apply Array.toList_inj.1
    simpa [ByteArray.toList_eq] using h1
  · rintro rfl
    exact ⟨rfl, rfl⟩
set_option maxRecDepth 1000000 in
theorem part_idR (w : World) (l : List UInt8) (s : Value) (h : l.length = 32) : (part 31 (s :: l.map bc).toArray 1).run Tryz.prog w = .ok (.agg (l.map bc).toArray) w := by
  have hi := id_info h
  cases hq : Tryz.prog.info? 31 with
  | none => rw [hq] at hi; simp at hi
  | some i =>
    have hs : i.size = 32 := by rw [hq] at hi; simp at hi; omega
    simp [part, isAgg, run_underlying Tryz.underlying31, sizeOf, typeInfo, hq, hs, go_sem]
    rw [List.take_of_length_le (by simp; omega)]
end Go.Proofs.YtpadfabjihaapaaGreatDoor

namespace Go.Proofs.YtpadfabjihaapaaGreatDoor
open Go.RowKit
set_option linter.unusedVariables false
set_option linter.unusedSimpArgs false

theorem ins_fit (need b : Nat) (h : need ≤ 100001) (hb : b ≤ 1000) : (need + need / 4 + 192) * b ≤ 281474976710656 :=
  Nat.le_trans (Nat.mul_le_mul (show need + need / 4 + 192 ≤ 200000 by omega) hb) (by decide)
theorem grownSetRow {w : World} {g : Nat} {c : Array Value} : w.grownBy (w.setRow g c) (some g) :=
  ⟨rfl, rfl, rfl, by simp [World.setRow], fun k _ hne => setRow_other w g k c (fun e => hne (by rw [e]))⟩
theorem ownSh {w : World} {base : Nat} {e : TypeId} {size : Nat} {v : Value} {n : Nat} {xs : List Value} (h : w.ownsRow base e size v n xs) : ∃ a c, v = .slice a n c := by
  obtain ⟨_, ao, cap, e, _⟩ := IsSl.of_owns h
  exact ⟨ao, cap, e⟩
section
variable {P : Program}
theorem run_copyN (w : World) (dT sT ty elem : TypeId) (k g o dLen dCap : Nat) (a : Addr) (sLen sCap m : Nat) (cur : Array Value) (t : TypeId) (cs : List Value)
    (hu : P.underlying dT = some (.slice elem)) (hs : (P.info? elem).map (·.size) = some k)
    (hg : w.heap[g]? = some (.cells cur t (0, 0))) (hm : Nat.min sLen dLen = m) (hn : cs.length = m * k)
    (hsrc : ∀ j v, cs[j]? = some v → w.cell? (a.add j) = some v) (hfit : o + cs.length ≤ cur.size) (h1 : ∀ v ∈ cs, v.oneCell' = true) :
    (Builtin.copy_ #[dT, sT] ty #[.slice (some ⟨g, o, none⟩) dLen dCap, .slice (some a) sLen sCap]).run P w =
      .ok (goInt m) (w.setRow g (cur.toList.take o ++ cs ++ cur.toList.drop (o + cs.length)).toArray) := by
  have hl := run_loadCells_list (P := P) w a cs hsrc
  have hst := run_storeCells_at P g o t cs 0 cur w hg (by simpa using hfit) h1
  cases hq : P.info? elem with
  | none => simp [hq] at hs
  | some i =>
    have hi : i.size = k := by simpa [hq] using hs
    simp [Builtin.copy_, run_underlying hu, Builtin.lenOf, Builtin.firstCells, sizeOf, typeInfo, hq, hi, hm, ← hn, hl, hst]
theorem run_appendN (w : World) (t ty e : TypeId) (k g sLen sCap : Nat) (ad : Addr) (m c : Nat) (news : List Value) (cur : Array Value)
    (hu : P.underlying t = some (.slice e)) (hs : (P.info? e).map (·.size) = some k) (hg : w.heap[g]? = some (.cells cur e (0, 0))) (hn : news.length = m * k)
    (hsrc : ∀ j u, news[j]? = some u → w.cell? (ad.add j) = some u) (hroom : sLen + m ≤ sCap) (hfit : sLen * k + news.length ≤ cur.size) (h1 : ∀ v ∈ news, v.oneCell' = true) :
    (Builtin.append_ #[t, t] ty #[.slice (some ⟨g, 0, none⟩) sLen sCap, .slice (some ad) m c]).run P w =
      .ok (.slice (some ⟨g, 0, none⟩) (sLen + m) sCap) (w.setRow g (cur.toList.take (sLen * k) ++ news ++ cur.toList.drop (sLen * k + news.length)).toArray) := by
  have hl := run_loadCells_list (P := P) w ad news hsrc
  have hst := run_storeCells_at P g (sLen * k) e news 0 cur w hg (by simpa using hfit) h1
  cases hq : P.info? e with
  | none => simp [hq] at hs
  | some i =>
    have hi : i.size = k := by simpa [hq] using hs
    simp [Builtin.append_, run_underlying hu, Builtin.lenOf, Builtin.firstCells, sizeOf, typeInfo, hq, hi, ← hn, hl, hroom, Addr.add_lit, hst]
theorem run_clearN (w : World) (t ty e : TypeId) (i : TypeInfo) (z : Value) (g o m c : Nat) (cur : Array Value) (tt : TypeId)
    (hu : P.underlying t = some (.slice e)) (hi : P.info? e = some i) (hz : i.zero = some z) (hm : 0 < m) (hg : w.heap[g]? = some (.cells cur tt (0, 0)))
    (hfit : o + (Builtin.zeroCells z.cells m).toList.length ≤ cur.size) (h1 : ∀ v ∈ (Builtin.zeroCells z.cells m).toList, v.oneCell' = true) :
    (Builtin.clear_ #[t] ty #[.slice (some ⟨g, o, none⟩) m c]).run P w =
      .ok (.tuple #[]) (w.setRow g (cur.toList.take o ++ (Builtin.zeroCells z.cells m).toList ++ cur.toList.drop (o + (Builtin.zeroCells z.cells m).toList.length)).toArray) := by
  have hst := run_storeCells_at P g o tt (Builtin.zeroCells z.cells m).toList 0 cur w hg (by simpa using hfit) h1
  obtain ⟨m', rfl⟩ : ∃ m', m = m' + 1 := ⟨m - 1, by omega⟩
  simp [Builtin.clear_, run_underlying hu, zeroValue, typeInfo, hi, hz, hst]
/-- Guards: the next operation is that one. -/
theorem at_copy (x y : Operand) {ops : Array Oper} {rest : List Oper} {dst : Option Tmp} {t t1 t2 : TypeId} {pos : String} {after : Array Edge} {gd : Option (Nat × Bool)} {a : Act} {w : World} {Q : Exit → Act → World → Prop}
    (h : wpList P ops Q ({ dst := dst, op := .call { callee := .builtin .copy, args := #[x, y], argTypes := #[t1, t2] }, type := t, pos := pos, after := after, guard := gd } :: rest) a w) : wpList P ops Q ({ dst := dst, op := .call { callee := .builtin .copy, args := #[x, y], argTypes := #[t1, t2] }, type := t, pos := pos, after := after, guard := gd } :: rest) a w := h
theorem at_clear (x : Operand) {ops : Array Oper} {rest : List Oper} {dst : Option Tmp} {t t1 : TypeId} {pos : String} {after : Array Edge} {gd : Option (Nat × Bool)} {a : Act} {w : World} {Q : Exit → Act → World → Prop}
    (h : wpList P ops Q ({ dst := dst, op := .call { callee := .builtin .clear, args := #[x], argTypes := #[t1] }, type := t, pos := pos, after := after, guard := gd } :: rest) a w) : wpList P ops Q ({ dst := dst, op := .call { callee := .builtin .clear, args := #[x], argTypes := #[t1] }, type := t, pos := pos, after := after, guard := gd } :: rest) a w := h
/-- An operation whose run is known. -/
theorem wp_runN (w : World) {o : Oper} {a : Act} {K : Act → World → Prop} {Q : Exit → Act → World → Prop} {v' : Value} {w' : World}
    (hr : (execOp a.eval o).run P w = .ok (.value v') w') (h : K (a.put o.dst v') w') : o.wp P a w K Q := by
  unfold Oper.wp
  rw [hr]
  exact h
theorem wp_copyN (w : World) {o : Oper} {a : Act} {K : Act → World → Prop} {Q : Exit → Act → World → Prop} (d s : Operand) (t t' : TypeId)
    (ho : o.op = .call { callee := .builtin .copy, args := #[d, s], argTypes := #[t, t'] }) (v u : Value) (hd : a.eval d = v) (hs : a.eval s = u) {v' : Value} {w' : World}
    (hr : ∀ ty, (Builtin.copy_ #[t, t'] ty #[v, u]).run P w = .ok v' w') (h : K (a.put o.dst v') w') : o.wp P a w K Q := by
  unfold Oper.wp execOp
  simp only [ho, resolve, invoke, builtin, Sem.run_bind, Sem.run_pure, Result.andThen_ok, List.map_toArray, List.map_cons, List.map_nil, hd, hs, hr]
  exact h
theorem wpl_copyN (w : World) {ops : Array Oper} {rest : List Oper} {o : Oper} {a : Act} {Q : Exit → Act → World → Prop} (hgd : Region.wanted o (yielded ops a.tmps) = true) (d s : Operand) (t t' : TypeId)
    (ho : o.op = .call { callee := .builtin .copy, args := #[d, s], argTypes := #[t, t'] }) (v u : Value) (hd : a.eval d = v) (hs : a.eval s = u) {v' : Value} {w' : World}
    (hr : ∀ ty, (Builtin.copy_ #[t, t'] ty #[v, u]).run P w = .ok v' w') (h : wpList P ops Q rest (a.put o.dst v') w') : wpList P ops Q (o :: rest) a w :=
  wpList_wanted hgd fun _ hK => wp_copyN w d s t t' ho v u hd hs hr (hK _ _ h)
theorem wp_appendN (w : World) {o : Oper} {a : Act} {K : Act → World → Prop} {Q : Exit → Act → World → Prop} (d s : Operand) (t t' : TypeId)
    (ho : o.op = .call { callee := .builtin .append, args := #[d, s], argTypes := #[t, t'] }) (v u : Value) (hd : a.eval d = v) (hs : a.eval s = u) {v' : Value} {w' : World}
    (hr : ∀ ty, (Builtin.append_ #[t, t'] ty #[v, u]).run P w = .ok v' w') (h : K (a.put o.dst v') w') : o.wp P a w K Q := by
  unfold Oper.wp execOp
  simp only [ho, resolve, invoke, builtin, Sem.run_bind, Sem.run_pure, Result.andThen_ok, List.map_toArray, List.map_cons, List.map_nil, hd, hs, hr]
  exact h
theorem wpl_appendN (w : World) {ops : Array Oper} {rest : List Oper} {o : Oper} {a : Act} {Q : Exit → Act → World → Prop} (hgd : Region.wanted o (yielded ops a.tmps) = true) (d s : Operand) (t t' : TypeId)
    (ho : o.op = .call { callee := .builtin .append, args := #[d, s], argTypes := #[t, t'] }) (v u : Value) (hd : a.eval d = v) (hs : a.eval s = u) {v' : Value} {w' : World}
    (hr : ∀ ty, (Builtin.append_ #[t, t'] ty #[v, u]).run P w = .ok v' w') (h : wpList P ops Q rest (a.put o.dst v') w') : wpList P ops Q (o :: rest) a w :=
  wpList_wanted hgd fun _ hK => wp_appendN w d s t t' ho v u hd hs hr (hK _ _ h)
theorem wpl_clearN (w : World) {ops : Array Oper} {rest : List Oper} {o : Oper} {a : Act} {Q : Exit → Act → World → Prop} (hgd : Region.wanted o (yielded ops a.tmps) = true) (s : Operand) (t : TypeId)
    (ho : o.op = .call { callee := .builtin .clear, args := #[s], argTypes := #[t] }) (u : Value) (hs : a.eval s = u) {v' : Value} {w' : World}
    (hr : ∀ ty, (Builtin.clear_ #[t] ty #[u]).run P w = .ok v' w') (h : wpList P ops Q rest (a.put o.dst v') w') : wpList P ops Q (o :: rest) a w :=
  wpList_wanted hgd fun _ hK => by
    unfold Oper.wp execOp
    simp only [ho, resolve, invoke, builtin, Sem.run_bind, Sem.run_pure, Result.andThen_ok, List.map_toArray, List.map_cons, List.map_nil, hs, hr]
    exact hK _ _ h
end
end Go.Proofs.YtpadfabjihaapaaGreatDoor

namespace Go.Proofs.YtpadfabjihaapaaGreatDoor
open Go.RowKit
set_option linter.unusedVariables false
set_option linter.unusedSimpArgs false

end Go.Proofs.YtpadfabjihaapaaGreatDoor

namespace Go.Proofs.YtpadfabjihaapaaGreatDoor
open Go.RowKit
set_option linter.unusedVariables false
set_option linter.unusedSimpArgs false

end Go.Proofs.YtpadfabjihaapaaGreatDoor

namespace Go.Proofs.YtpadfabjihaapaaGreatDoor
open Go.RowKit
set_option linter.unusedVariables false
set_option linter.unusedSimpArgs false

theorem nm_eq (a b : ByteArray) : (a.toList == b.toList) = decide (a = b) := by
  rw [ByteArray.toList_eq, ByteArray.toList_eq, Bool.eq_iff_iff, beq_iff_eq, decide_eq_true_iff]
  obtain ⟨⟨x⟩⟩ := a
  obtain ⟨⟨y⟩⟩ := b
  simp
/-- A name stands ahead of another. -/
def nl (a b : ByteArray) : Bool := Op.bytesLess a.toList b.toList
theorem nl_irr (a : ByteArray) : nl a a = false := by
  unfold nl; rw [bytesLess_eq, decide_eq_false_iff_not]; exact List.lt_irrefl _
theorem nl_tr {a b c : ByteArray} (h1 : nl a b = true) (h2 : nl b c = true) : nl a c = true := by
  unfold nl at *
  rw [bytesLess_eq, decide_eq_true_eq] at *
  exact List.lt_trans h1 h2
theorem nl_as {a b : ByteArray} (h1 : nl a b = true) : nl b a = false := by
  cases h : nl b a with
  | false => rfl
  | true => have := nl_tr h1 h; rw [nl_irr] at this; cases this
theorem nl_eq {a b : ByteArray} (h1 : nl a b = false) (h2 : nl b a = false) : a = b := by
  unfold nl at *
  rw [bytesLess_eq, decide_eq_false_iff_not] at *
  have : a.toList = b.toList := by
    rcases Std.lt_trichotomy b.toList a.toList with h3 | h3 | h3
    · exact absurd h3 h2
    · exact h3.symm
    · exact absurd h3 h1
  have h := nm_eq a b
  rw [this, beq_self_eq_true] at h
  exact of_decide_eq_true h.symm
theorem nl_ne {a b : ByteArray} (h : nl a b = true) : a ≠ b := fun e => by subst e; rw [nl_irr] at h; cases h
theorem beq_nm {a b : ByteArray} : ((a.toList == b.toList) = true) ↔ a = b := by rw [nm_eq]; exact decide_eq_true_iff
theorem nbeq_nm {a b : ByteArray} : ((a.toList == b.toList) = false) ↔ a ≠ b := by rw [nm_eq]; exact decide_eq_false_iff_not
/-- Branches in order. -/
def RsS (l : List Rf) : Prop := l.Pairwise fun a b => nl a.name b.name = true
theorem rs_chain : ∀ (l : List Rf) (q : ByteArray), rsB (some q) l = true → RsS l ∧ (∀ e ∈ l, nameB e.name = true ∧ nl q e.name = true)
  | [], _, _ => ⟨List.Pairwise.nil, fun e h => by cases h⟩
  | e :: r, q, h => by
    have h0 : (nameB e.name && Op.bytesLess q.toList e.name.toList && rsB (some e.name) r) = true := by
      cases h1 : nameB e.name with
      | false => rw [rs_bad h1] at h; cases h
      | true =>
        cases h2 : Op.bytesLess q.toList e.name.toList with
        | false => rw [rs_fall h2] at h; cases h
        | true => rw [rs_next h1 h2] at h; rw [h]; rfl
    simp only [Bool.and_eq_true] at h0
    obtain ⟨a, b⟩ := rs_chain r e.name h0.2
    refine ⟨List.Pairwise.cons (fun x hx => (b x hx).2) a, fun x hx => ?_⟩
    rcases List.mem_cons.1 hx with rfl | hx
    · exact ⟨h0.1.1, h0.1.2⟩
    · exact ⟨(b x hx).1, nl_tr h0.1.2 (b x hx).2⟩
theorem ok_facts {l : List Rf} (h : okR l = true) : l.length ≤ 8 ∧ RsS l ∧ ∀ e ∈ l, nameB e.name = true := by
  unfold okR at h
  simp only [Bool.and_eq_true, decide_eq_true_eq] at h
  refine ⟨h.1, ?_⟩
  cases l with
  | nil => exact ⟨List.Pairwise.nil, fun e h => by cases h⟩
  | cons e r =>
    have h2 := h.2
    cases h1 : nameB e.name with
    | false => rw [rs_bad h1] at h2; cases h2
    | true =>
      rw [rs_first h1] at h2
      obtain ⟨a, b⟩ := rs_chain r e.name h2
      refine ⟨List.Pairwise.cons (fun x hx => (b x hx).2) a, fun x hx => ?_⟩
      rcases List.mem_cons.1 hx with rfl | hx
      · exact h1
      · exact (b x hx).1
theorem rs_of : ∀ (l : List Rf) (q : ByteArray), RsS l → (∀ e ∈ l, nameB e.name = true ∧ nl q e.name = true) → rsB (some q) l = true
  | [], _, _, _ => rfl
  | e :: r, q, h, hn => by
    rw [rs_next (hn e (List.mem_cons_self ..)).1 (hn e (List.mem_cons_self ..)).2]
    have h := List.pairwise_cons.1 h
    exact rs_of r e.name h.2 fun x hx => ⟨(hn x (List.mem_cons_of_mem _ hx)).1, h.1 x hx⟩
theorem ok_of {l : List Rf} (h1 : l.length ≤ 8) (h2 : RsS l) (h3 : ∀ e ∈ l, nameB e.name = true) : okR l = true := by
  unfold okR
  rw [decide_eq_true h1, Bool.true_and]
  cases l with
  | nil => rfl
  | cons e r =>
    rw [rs_first (h3 e (List.mem_cons_self ..))]
    have h := List.pairwise_cons.1 h2
    exact rs_of r e.name h.2 fun x hx => ⟨h3 x (List.mem_cons_of_mem _ hx), h.1 x hx⟩
theorem rs_lt {l : List Rf} (h : RsS l) {i j : Nat} (hj : j < l.length) (hij : i < j) : nl (l[i]'(by omega)).name l[j].name = true := (List.pairwise_iff_getElem.1 h) i j (by omega) hj hij

def cmpN (a b : ByteArray) : Int := if nl a b = true then -1 else if nl b a = true then 1 else 0
theorem isNaN (w : World) (a : ByteArray) : Calls Tryz.prog 61 #[.string a] w fun e w' => e = .returned (.bool false) ∧ w' = w := by
  go_enter Tryz.func61, Tryz.ntmps61
  go_wp2
  go_ret
  exact ⟨by simp, rfl⟩
theorem cmpCompare (w : World) (a b : ByteArray) : Calls Tryz.prog 39 #[.string a, .string b] w fun e w' => e = .returned (.int .i64 (cmpN a b)) ∧ w' = w := by
  obtain ⟨R, hR⟩ : ∃ R, cmpN a b = R := ⟨_, rfl⟩
  rw [hR]
  have HR := Lib.hid hR
  clear hR
  go_enter Tryz.func39, Tryz.ntmps39
  go_wp2_with fail
  refine Calls.mono (isNaN _ a) ?_
  rintro e w1 ⟨rfl, rfl⟩
  go_wp2_with fail
  refine Calls.mono (isNaN _ b) ?_
  rintro e w1 ⟨rfl, rfl⟩
  cases h1 : Op.bytesLess a.toList b.toList with
  | true =>
    obtain rfl : -1 = R := by rw [← HR.out]; unfold cmpN nl; rw [h1]; rfl
    go_wp2
    go_ret
    exact ⟨rfl, rfl⟩
  | false =>
    cases h2 : (a.toList == b.toList) with
    | false =>
      obtain rfl : 1 = R := by
        have h3 : nl b a = true := by
          cases h : nl b a with
          | true => rfl
          | false => exact absurd (nl_eq h1 h) (nbeq_nm.1 h2)
        rw [← HR.out]; unfold cmpN; rw [h3, show nl a b = false from h1]; rfl
      go_wp2
      go_ret
      exact ⟨rfl, rfl⟩
    | true =>
      obtain rfl : 0 = R := by
        have h3 : nl b a = false := by rw [beq_nm.1 h2]; exact nl_irr _
        rw [← HR.out]; unfold cmpN; rw [h3, show nl a b = false from h1]; rfl
      go_wp2
      go_ret
      exact ⟨rfl, rfl⟩
/-- Where a name stands, or would stand. -/
structure PlaceR (l : List Rf) (p : ByteArray) (i : Nat) : Prop where
  le : i ≤ l.length
  low : ∀ j (hj : j < l.length), j < i → nl l[j].name p = true
  high : ∀ j (hj : j < l.length), i ≤ j → nl l[j].name p = false
def hitR (l : List Rf) (p : ByteArray) (i : Nat) : Bool := decide (i < l.length) && ((l.getD i rf0).name.toList == p.toList)
theorem getD_rf {l : List Rf} {i : Nat} (h : i < l.length) : l.getD i rf0 = l[i] := by
  rw [List.getD_eq_getElem?_getD, List.getElem?_eq_getElem h]; rfl
theorem rfC_one (l : List Rf) : ∀ u ∈ l.flatMap rfC, u.oneCell' = true := by
  intro u hu
  obtain ⟨x, _, hx⟩ := List.mem_flatMap.1 hu
  exact rf_one x u hx
theorem rf_flat {l : List Rf} (h : ∀ e ∈ l, RfOk e) : (l.flatMap rfC).length = l.length * 33 := flat_len rfC 33 l fun x hx => rfC_len (h x hx)
end Go.Proofs.YtpadfabjihaapaaGreatDoor

namespace Go.Proofs.YtpadfabjihaapaaGreatDoor
open Go.RowKit
set_option linter.unusedVariables false
set_option linter.unusedSimpArgs false

def getR (l : List Rf) (p : ByteArray) : Option Rf := l.find? fun e => e.name.toList == p.toList
theorem getR_no {l : List Rf} {p : ByteArray} (h : ∀ j (hj : j < l.length), (l[j].name.toList == p.toList) = false) : getR l p = none := by
  unfold getR
  rw [List.find?_eq_none]
  intro x hx
  obtain ⟨j, hj, rfl⟩ := List.mem_iff_getElem.1 hx
  rw [h j hj]
  exact Bool.false_ne_true
theorem getR_at {l : List Rf} (h : RsS l) {i : Nat} (hi : i < l.length) : getR l l[i].name = some l[i] := by
  unfold getR
  rw [List.find?_eq_some_iff_getElem]
  refine ⟨beq_nm.2 rfl, i, hi, rfl, fun j hj => ?_⟩
  have := rs_lt h hi hj
  rw [Bool.not_eq_true', nbeq_nm]
  exact nl_ne this
theorem hit_hasR {l : List Rf} {p : ByteArray} {i : Nat} (hs : RsS l) (h : PlaceR l p i) : (hitR l p i = true → ∃ hi : i < l.length, getR l p = some l[i] ∧ l[i].name = p) ∧ (hitR l p i = false → getR l p = none) := by
  constructor
  · intro hh
    unfold hitR at hh
    simp only [Bool.and_eq_true, decide_eq_true_eq] at hh
    obtain ⟨hi, he⟩ := hh
    rw [getD_rf hi] at he
    refine ⟨hi, ?_, beq_nm.1 he⟩
    rw [← beq_nm.1 he]
    exact getR_at hs hi
  · intro hh
    refine getR_no fun j hj => nbeq_nm.2 fun e => ?_
    rcases Nat.lt_or_ge j i with h1 | h1
    · have := h.low j hj h1
      rw [e, nl_irr] at this
      cases this
    · have h2 := h.high j hj h1
      have hi : i < l.length := by omega
      unfold hitR at hh
      rw [decide_eq_true hi, getD_rf hi, Bool.true_and] at hh
      have h3 := h.high i hi (Nat.le_refl _)
      have h4 : nl p l[i].name = true := by
        cases h5 : nl p l[i].name with
        | true => rfl
        | false => exact absurd (nl_eq h3 h5) (nbeq_nm.1 hh)
      by_cases e2 : j = i
      · subst e2; rw [e, nl_irr] at h4; cases h4
      · have := nl_tr h4 (rs_lt hs hj (by omega))
        rw [e, nl_irr] at this
        cases this
/-- What refs.Get answers. -/
def getA (l : List Rf) (p : ByteArray) : List UInt8 × Int := if okR l = false then (z32, 190) else match getR l p with | some e => (e.id, 0) | none => (z32, 4)
end Go.Proofs.YtpadfabjihaapaaGreatDoor

namespace Go.Proofs.YtpadfabjihaapaaGreatDoor
open Go.RowKit
set_option linter.unusedVariables false
set_option linter.unusedSimpArgs false

def gtV : List Rf → ByteArray → List UInt8 × Bool
  | [], _ => (z32, false)
  | e :: r, p => if (e.name.toList == p.toList) = true then (e.id, true) else gtV r p
theorem gtV_is (p : ByteArray) : ∀ l : List Rf, gtV l p = match getR l p with | some e => (e.id, true) | none => (z32, false)
  | [] => rfl
  | e :: r => by
    unfold gtV getR
    rw [List.find?_cons]
    cases h : (e.name.toList == p.toList) with
    | true => rfl
    | false => exact gtV_is p r
end Go.Proofs.YtpadfabjihaapaaGreatDoor

namespace Go.Proofs.YtpadfabjihaapaaGreatDoor
open Go.RowKit
set_option linter.unusedVariables false
set_option linter.unusedSimpArgs false

theorem fold_from (o : Nat) : ∀ (L : List Value) (k : Nat) (A : Array Value), (L.zipIdx k).foldl (fun cs x => cs.setIfInBounds (o + x.2) x.1) A = setFrom A (o + k) L
  | [], _, _ => rfl
  | v :: r, k, A => by
    rw [List.zipIdx_cons, List.foldl_cons, setFrom]
    exact fold_from o r (k + 1) _
/-- A guard: the next operation is that build. -/
theorem at_bld (t : TypeId) (x y : Operand) {P : Program} {ops : Array Oper} {rest : List Oper} {dst : Option Tmp} {ty : TypeId} {pos : String} {after : Array Edge} {gd : Option (Nat × Bool)} {a : Act} {w : World} {Q : Exit → Act → World → Prop}
    (h : wpList P ops Q ({ dst := dst, op := .build t #[(0, x), (1, y)], type := ty, pos := pos, after := after, guard := gd } :: rest) a w) : wpList P ops Q ({ dst := dst, op := .build t #[(0, x), (1, y)], type := ty, pos := pos, after := after, guard := gd } :: rest) a w := h
theorem wpl_bld {P : Program} {ops : Array Oper} {rest : List Oper} {o : Oper} {a : Act} {w : World} {Q : Exit → Act → World → Prop} (hgd : Region.wanted o (yielded ops a.tmps) = true) (t : TypeId) (x y : Operand) (ho : o.op = .build t #[(0, x), (1, y)])
    (u v : Value) (hx : a.eval x = u) (hy : a.eval y = v) (cs : Array Value) (hc : P.built t [(0, u), (1, v)] = some cs) (h : wpList P ops Q rest (a.put o.dst (.agg cs)) w) : wpList P ops Q (o :: rest) a w :=
  wpList_wanted hgd fun K hK => by
    have hc' : P.built t (#[(0, x), (1, y)].map fun (i, z) => (i, a.eval z)).toList = some cs := by simpa [hx, hy] using hc
    refine wp_build t _ ho (by rw [hc']; rfl) ?_
    rw [hc']
    exact hK _ _ h
theorem at_build1 (t : TypeId) (x : Operand) {ops : Array Oper} {rest : List Oper} {dst : Option Tmp} {ty : TypeId} {pos : String} {after : Array Edge} {gd : Option (Nat × Bool)} {a : Act} {w : World} {P : Program} {Q : Exit → Act → World → Prop}
    (h : wpList P ops Q ({ dst := dst, op := .buildSlice t 1 #[(0, x)], type := ty, pos := pos, after := after, guard := gd } :: rest) a w) : wpList P ops Q ({ dst := dst, op := .buildSlice t 1 #[(0, x)], type := ty, pos := pos, after := after, guard := gd } :: rest) a w := h
theorem wpl_buildOne {P : Program} {ops : Array Oper} {rest : List Oper} {o : Oper} {a : Act} {w : World} {Q' : Exit → Act → World → Prop} (hgd : Region.wanted o (yielded ops a.tmps) = true) (t : TypeId) (x : Operand) (ho : o.op = .buildSlice t 1 #[(0, x)]) (Q : List Value) (hx : a.eval x = .agg Q.toArray)
    {v : Value} {w' : World} (hr : (Instr.buildSlice t 1 #[(0, .agg Q.toArray)]).run P w = .ok v w') (h : wpList P ops Q' rest (a.put o.dst v) w') : wpList P ops Q' (o :: rest) a w :=
  wpList_wanted hgd fun K hK => wp_buildOne t x ho Q hx hr (hK _ _ h)
end Go.Proofs.YtpadfabjihaapaaGreatDoor

namespace Go.Proofs.YtpadfabjihaapaaGreatDoor
open Go.RowKit
set_option linter.unusedVariables false
set_option linter.unusedSimpArgs false

/-- A move. -/
structure Mv where
  nm : ByteArray
  fr : List UInt8
  dst : List UInt8
def mvC (m : Mv) : List Value := .string m.nm :: (m.fr.map bc ++ m.dst.map bc)
def MvOk (m : Mv) : Prop := m.fr.length = 32 ∧ m.dst.length = 32 ∧ m.nm.size ≤ 140737488355328
theorem mv_parts {w : World} {g : Nat} {m : Mv} (hm : MvOk m) {t : TypeId} {f : Nat × Nat} (h : w.heap[g]? = some (.cells (mvC m).toArray t f)) :
    w.cell? ⟨g, 0, none⟩ = some (.string m.nm) ∧ w.rangeAt g 1 (m.fr.map bc) ∧ w.rangeAt g 33 (m.dst.map bc) := by
  have h0 := rangeAt_of h
  refine ⟨h0 0 _ rfl, fun j v hj => ?_, fun j v hj => ?_⟩
  · have hj2 : j < (m.fr.map bc).length := (List.getElem?_eq_some_iff.1 hj).1
    have := h0 (j + 1) v (by unfold mvC; rw [List.getElem?_cons_succ, List.getElem?_append_left hj2]; exact hj)
    rw [show 1 + j = 0 + (j + 1) by omega]
    exact this
  · have := h0 (j + 33) v (by
      unfold mvC
      rw [show j + 33 = (j + 32) + 1 from rfl, List.getElem?_cons_succ, List.getElem?_append_right (by simp [hm.1]), ← hj]
      simp [hm.1])
    rw [show 33 + j = 0 + (j + 33) by omega]
    exact this
def zr (x : List UInt8) : Bool := decide (x = z32)
def plcR (l : List Rf) (p : ByteArray) : Nat := (l.takeWhile fun e => nl e.name p).length
theorem plc_is {l : List Rf} {p : ByteArray} {i : Nat} (h : PlaceR l p i) : i = plcR l p := by
  obtain ⟨h1, h2, h3⟩ := h
  unfold plcR
  induction l generalizing i with
  | nil => simpa using h1
  | cons e r ih =>
    cases i with
    | zero =>
      have := h3 0 (by simp) (Nat.le_refl _)
      rw [List.takeWhile_cons_of_neg (by simpa using this)]
      rfl
    | succ i =>
      have := h2 0 (by simp) (by omega)
      rw [List.takeWhile_cons_of_pos (by simpa using this), List.length_cons, ← ih (i := i) (by simpa using h1) (fun j hj hl => h2 (j + 1) (by simpa using hj) (by omega)) (fun j hj hl => h3 (j + 1) (by simpa using hj) (by omega))]
/-- What refs.Apply answers. -/
def applyR (l : List Rf) (m : Mv) : List Rf × Int :=
  if (!okR l || (!nameB m.nm || (zr m.fr && zr m.dst))) = true then ([], 190)
  else match getR l m.nm with
  | none => if zr m.fr = false then ([], 4) else if l.length = 8 then ([], 6) else (l.take (plcR l m.nm) ++ ⟨m.nm, m.dst⟩ :: l.drop (plcR l m.nm), 0)
  | some e => if zr m.fr = true then ([], 5) else if e.id ≠ m.fr then ([], 191)
    else if zr m.dst = true then (l.take (plcR l m.nm) ++ l.drop (plcR l m.nm + 1), 0) else (l.take (plcR l m.nm) ++ ⟨m.nm, m.dst⟩ :: l.drop (plcR l m.nm + 1), 0)
theorem flat_take : ∀ (l : List Rf) (i : Nat), (∀ e ∈ l, RfOk e) → (l.flatMap rfC).take (i * 33) = (l.take i).flatMap rfC
  | [], i, _ => by simp
  | x :: l, 0, _ => by simp
  | x :: l, i + 1, h => by
    rw [List.flatMap_cons, List.take_succ_cons, List.flatMap_cons, ← flat_take l i fun e he => h e (List.mem_cons_of_mem _ he)]
    have := rfC_len (h x (List.mem_cons_self ..))
    rw [show (i + 1) * 33 = (rfC x).length + i * 33 by omega, List.take_length_add_append]
theorem flat_drop : ∀ (l : List Rf) (i : Nat), (∀ e ∈ l, RfOk e) → (l.flatMap rfC).drop (i * 33) = (l.drop i).flatMap rfC
  | [], i, _ => by simp
  | x :: l, 0, _ => by simp
  | x :: l, i + 1, h => by
    rw [List.flatMap_cons, List.drop_succ_cons, ← flat_drop l i fun e he => h e (List.mem_cons_of_mem _ he)]
    have := rfC_len (h x (List.mem_cons_self ..))
    rw [show (i + 1) * 33 = (rfC x).length + i * 33 by omega, List.drop_length_add_append]
theorem isR_nil (w : World) : IsR w (.slice none 0 0) [] := ⟨⟨rfl, none, 0, rfl, Nat.le_refl _, by omega, fun _ => rfl, fun i hi => absurd hi (Nat.not_lt_zero _)⟩, fun e h => by cases h⟩
theorem split_at (l : List Rf) {i : Nat} (hi : i < l.length) : l = l.take i ++ l[i] :: l.drop (i + 1) := by
  rw [← List.drop_eq_getElem_cons hi, List.take_append_drop]
/-- A store at the middle of a block. -/
theorem wpl_storeMid {P : Program} {ops : Array Oper} {rest : List Oper} {o : Oper} {a : Act} {w : World} {Q : Exit → Act → World → Prop} (hgd : Region.wanted o (yielded ops a.tmps) = true) (ty : TypeId) (x y : Operand) (ho : o.op = .store ty x y)
    (b f : Nat) (cells : Array Value) (hx : a.eval x = .pointer (some ⟨b, f, none⟩)) (hy : a.eval y = .agg cells) (ht : w.there b f cells.size) (hi : (P.info? ty).map (·.size) = some cells.size) (h1 : cells.all (·.oneCell') = true)
    (h : wpList P ops Q rest (a.put o.dst undef) (w.setCells b f cells.toList)) : wpList P ops Q (o :: rest) a w :=
  wpList_wanted hgd fun K hK => wp_store_mid ty x y ho b f cells hx hy ht hi h1 (hK _ _ h)
end Go.Proofs.YtpadfabjihaapaaGreatDoor

namespace Go.Proofs.YtpadfabjihaapaaGreatDoor
open Go.RowKit
set_option linter.unusedVariables false
set_option linter.unusedSimpArgs false

end Go.Proofs.YtpadfabjihaapaaGreatDoor
