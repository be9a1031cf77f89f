/- General predicates and lemmas on worlds, slices and bytes, over any program: used by all walks of this seat. No condition. -/
import Derived.WalkKit
import Derived.ProofKit
import Derived.OpenShut
import Derived.Handy
import Derived.WalkSpells
import Derived.WalkLawsBesides
import Derived.Deep.LoopGhost
import Derived.Deep.Draws
import Derived.Lib.SliceRun
import Derived.Lib.Hide
import Derived.Laws.AppendOwnNone
namespace Go.Proofs.YtgcbkhmaabmdjaaDoor
open Go.RowKit

/-- A block that lies ahead of new ones: for the walk's own rules on cells behind several new blocks. -/
@[go_sem] theorem lt_succ_gs1 {n m : Nat} (h : n < m) : n < m + 1 := by omega
@[go_sem] theorem lt_succ_gs2 {n m : Nat} (h : n < m) : n < m + 1 + 1 := by omega
@[go_sem] theorem lt_succ_gs3 {n m : Nat} (h : n < m) : n < m + 1 + 1 + 1 := by omega
@[go_sem] theorem lt_succ_gs4 {n m : Nat} (h : n < m) : n < m + 1 + 1 + 1 + 1 := by omega
@[go_sem] theorem lt_succ_gs5 {n m : Nat} (h : n < m) : n < m + 1 + 1 + 1 + 1 + 1 := by omega
@[go_sem] theorem lt_succ_gs6 {n m : Nat} (h : n < m) : n < m + 1 + 1 + 1 + 1 + 1 + 1 := by omega
@[go_sem] theorem lt_succ_gs7 {n m : Nat} (h : n < m) : n < m + 1 + 1 + 1 + 1 + 1 + 1 + 1 := by omega
@[go_sem] theorem lt_succ_gs8 {n m : Nat} (h : n < m) : n < m + 1 + 1 + 1 + 1 + 1 + 1 + 1 + 1 := by omega

/-- All that was there is as it was. -/
def Ext (w w' : World) : Prop := Below w.heap.size w w'

theorem Ext.refl (w : World) : Ext w w := Below.refl _ _
theorem Ext.size {w w' : World} (h : Ext w w') : w.heap.size ≤ w'.heap.size := Below.size h
theorem Ext.trans {a b c : World} (h : Ext a b) (k : Ext b c) : Ext a c :=
  Below.trans (B := a.heap.size) h (Below.mono (B := b.heap.size) k h.size)
theorem Ext.drew {a w : World} (h : Ext a w) : Ext a w.drew := Below.drew h
theorem Ext.drewN {a w : World} (h : Ext a w) (n : Nat) : Ext a (w.drewN n) := below_drewN h n
theorem Ext.alloc {a w : World} (h : Ext a w) (o : Obj) : Ext a (w.alloc o) := Below.alloc h h.size o
theorem Ext.setCell {a w : World} (h : Ext a w) {p : Addr} (hp : a.heap.size ≤ p.block) (u : Value) : Ext a (w.setCell p u) := Below.setCell h hp u
theorem Ext.grown {a w w' : World} {row : Option Nat} (h : Ext a w) (hg : w.grownBy w' row) (hr : ∀ k, row = some k → a.heap.size ≤ k) : Ext a w' :=
  Below.grown h hg h.size hr
theorem Ext.block {w w' : World} (h : Ext w w') {k : Nat} (hk : k < w.heap.size) : w'.heap[k]? = w.heap[k]? := Below.block h k hk
theorem Ext.cell {w w' : World} (h : Ext w w') {p : Addr} {v : Value} (hp : w.cell? p = some v) : w'.cell? p = some v :=
  (Below.cell h (World.block_lt_of_cell? _ _ hp)).trans hp
theorem Ext.frozen {w w' : World} (h : Ext w w') {p : Addr} (hp : p.block < w.heap.size) : w'.frozen? p = w.frozen? p := Below.frozen h hp

theorem toExt {w w' : World} (h : ∃ q, w' = w.drewN q) : Ext w w' := by obtain ⟨q, rfl⟩ := h; exact (Ext.refl w).drewN q

/-- The cells xs lie from ao on. -/
def Lies (w : World) (ao : Option Addr) (xs : List Value) : Prop :=
  ∀ i, i < xs.length → ∃ b off, ao = some ⟨b, off, none⟩ ∧ w.cell? ⟨b, off + i, none⟩ = xs[i]?

theorem Lies.ext {w w' : World} {ao : Option Addr} {xs : List Value} (h : Lies w ao xs) (k : Ext w w') : Lies w' ao xs := by
  intro i hi
  obtain ⟨b, off, e, hc⟩ := h i hi
  refine ⟨b, off, e, ?_⟩
  rw [List.getElem?_eq_getElem hi] at hc ⊢
  exact k.cell hc

theorem lies_news {w : World} {ao : Option Addr} {xs : List Value} (h : Lies w ao xs) {ad : Addr} (ha : ao = some ad) : ∀ j u, xs[j]? = some u → w.cell? (ad.add j) = some u := by
  intro j u hu
  obtain ⟨hj, _⟩ := List.getElem?_eq_some_iff.1 hu
  obtain ⟨b, off, e, hc⟩ := h j hj
  rw [ha] at e
  obtain rfl := Option.some.inj e
  rw [Addr.add_lit, hc, hu]

/-- A slice value: n elements of 'size' cells each: the cells xs. -/
structure IsSl (w : World) (v : Value) (size n : Nat) (xs : List Value) : Prop where
  len : xs.length = n * size
  form : ∃ ao cap, v = .slice ao n cap ∧ n ≤ cap ∧ cap ≤ 9223372036854775807 ∧ (ao = none → cap = 0) ∧ Lies w ao xs

theorem IsSl.ext {w w' : World} {v : Value} {size n : Nat} {xs : List Value} (h : IsSl w v size n xs) (k : Ext w w') : IsSl w' v size n xs := by
  obtain ⟨h1, ao, cap, e, h2, h3, h4, h5⟩ := h
  exact ⟨h1, ao, cap, e, h2, h3, h4, h5.ext k⟩

theorem IsSl.nil (w : World) (size : Nat) : IsSl w (.slice none 0 0) size 0 [] :=
  ⟨by simp, none, 0, rfl, Nat.le_refl _, by omega, fun _ => rfl, fun i hi => by simp at hi⟩

theorem IsSl.of_owns {w : World} {base : Nat} {e : TypeId} {size : Nat} {v : Value} {n : Nat} {xs : List Value} (h : w.ownsRow base e size v n xs) : IsSl w v size n xs := by
  refine ⟨h.1, ?_⟩
  rcases h.2 with ⟨rfl, rfl⟩ | ⟨g, cap, cur, rfl, hb, hg, hn, hcap, hs, htake⟩
  · have hx : xs = [] := List.eq_nil_of_length_eq_zero (by simpa using h.1)
    subst hx
    exact ⟨none, 0, rfl, Nat.le_refl _, by omega, fun _ => rfl, fun i hi => by simp at hi⟩
  · refine ⟨some ⟨g, 0, none⟩, cap, rfl, hn, by unfold maxLen at hcap; omega, (fun h => by cases h), ?_⟩
    intro i hi
    refine ⟨g, 0, rfl, ?_⟩
    have := h.cells (g := g) rfl i xs[i] (List.getElem?_eq_getElem hi)
    rw [Addr.add_lit] at this
    rw [this, List.getElem?_eq_getElem hi]

/-- What is owned stays owned where old blocks stay. -/
theorem ownsRow_ext {w w' : World} {base : Nat} {e : TypeId} {size : Nat} {v : Value} {n : Nat} {xs : List Value} (h : w.ownsRow base e size v n xs) (k : Ext w w') : w'.ownsRow base e size v n xs := by
  refine ⟨h.1, ?_⟩
  rcases h.2 with h2 | ⟨g, cap, cur, hv, hg, hh, r⟩
  · exact .inl h2
  · exact .inr ⟨g, cap, cur, hv, hg, by rw [k.block (Array.getElem?_eq_some_iff.1 hh).1]; exact hh, r⟩
theorem ownsRow_base {w : World} {base base' : Nat} {e : TypeId} {size : Nat} {v : Value} {n : Nat} {xs : List Value} (h : w.ownsRow base e size v n xs) (hb : base' ≤ base) : w.ownsRow base' e size v n xs := by
  refine ⟨h.1, ?_⟩
  rcases h.2 with h2 | ⟨g, cap, cur, hv, hg, r⟩
  · exact .inl h2
  · exact .inr ⟨g, cap, cur, hv, by omega, r⟩

/-- A slice type t, its elements' type e: the zero value's cells, its bytes. -/
structure ETy (P : Program) (t e : TypeId) (z : Value) (size bytes : Nat) : Prop where
  und : P.underlying t = some (.slice e)
  info : ∃ i, P.info? e = some i ∧ i.zero = some z ∧ i.size = size ∧ i.bytes = bytes
  cells : z.cells.size = size
  pos : 0 < size

theorem own_base {W0 w w' : World} {base : Nat} {e : TypeId} {size : Nat} {v : Value} {n : Nat} {xs : List Value} (hown : w.ownsRow base e size v n xs) (hg : w.grownBy w' v.ownBlock) (h : Ext W0 w) (hb : W0.heap.size ≤ base) : Ext W0 w' :=
  h.grown hg (fun k hk => Nat.le_trans hb (hown.lt k hk).1)

theorem wpList_wanted {P : Program} {ops : Array Oper} {Q : Exit → Act → World → Prop} {a : Act} {w : World} {rest : List Oper} {o : Oper} (hg : Region.wanted o (yielded ops a.tmps) = true)
    (h : ∀ K : Act → World → Prop, (∀ a w, wpList P ops Q rest a w → K a w) → o.wp P a w K Q) : wpList P ops Q (o :: rest) a w :=
  wpList_step fun K hK => by simp only [hg, if_true]; exact h K hK

/-- 'append(s, x...)', s the call's own row, x whatever slice. -/
theorem wp_app {P : Program} {t e : TypeId} {z : Value} {size bytes : Nat} (T : ETy P t e z size bytes) {w : World} {ops : Array Oper} {rest : List Oper} {o : Oper} {a : Act} {Q : Exit → Act → World → Prop} (hgd : Region.wanted o (yielded ops a.tmps) = true) (s x : Operand)
    (ho : o.op = .call { callee := .builtin .append, args := #[s, x], argTypes := #[t, t] })
    (base : Nat) (v : Value) (n : Nat) (xs : List Value) (hown : w.ownsRow base e size v n xs) (hs : a.eval s = v)
    (u : Value) (m : Nat) (news : List Value) (hu : IsSl w u size m news) (hx : a.eval x = u) (h1 : ∀ c ∈ news, c.oneCell' = true)
    (hlim : (n + m) * bytes ≤ 140737488355328) (hmax : n + m ≤ 9223372036854775807) (hbase : base ≤ w.heap.size)
    (h : ∀ v' w', w'.ownsRow base e size v' (n + m) (xs ++ news) → w.grownBy w' v.ownBlock → wpList P ops Q rest (a.put o.dst v') w') : wpList P ops Q (o :: rest) a w := by
  obtain ⟨i, hi, hz, hs1, hb1⟩ := T.info
  obtain ⟨hlen, ao, cap, rfl, b1, m1, z1, g1⟩ := hu
  cases ao with
  | none =>
    obtain rfl := z1 rfl
    obtain rfl : m = 0 := by omega
    obtain rfl : news = [] := List.eq_nil_of_length_eq_zero (by simpa using hlen)
    refine wpList_wanted hgd fun K hK => ?_
    have hrun := run_append_owned_none (P := P) (w := w) base t o.type e i size T.und hi v n xs hown
    unfold Oper.wp
    simp [execOp, ho, resolve, invoke, builtin, hs, hx, hrun, Result.andThen]
    exact hK _ _ (h v w (by simpa using hown) (World.grownBy.refl _ _))
  | some ad =>
    exact wpList_wanted hgd fun K hK => wp_append_own w s x t ho base e i z size bytes T.und hi hz hs1 hb1 T.cells T.pos v n xs hs hown ad m cap news hx hlen (lies_news g1 rfl) h1 (by unfold maxLen; omega) hlim hbase fun v' w' a1 a2 _ => hK _ _ (h v' w' a1 a2)

/-- 'append(s, c)': one element of one cell, which lies in a block of its own. -/
theorem wp_app1 {P : Program} {t e : TypeId} {z : Value} {bytes : Nat} (T : ETy P t e z 1 bytes) {w : World} {ops : Array Oper} {rest : List Oper} {o : Oper} {a : Act} {Q : Exit → Act → World → Prop} (hgd : Region.wanted o (yielded ops a.tmps) = true) (s x : Operand)
    (ho : o.op = .call { callee := .builtin .append, args := #[s, x], argTypes := #[t, t] })
    (base : Nat) (v : Value) (n : Nat) (xs : List Value) (u : Value) (tt : TypeId) (hown : w.ownsRow base e 1 v n xs) (hs : a.eval s = v)
    (hx : a.eval x = .slice (some ⟨w.heap.size, 0, none⟩) 1 1) (h1 : u.oneCell' = true)
    (hlim : (n + 1) * bytes ≤ 140737488355328) (hmax : n + 1 ≤ 9223372036854775807) (hbase : base ≤ w.heap.size)
    (h : ∀ v' w', w'.ownsRow base e 1 v' (n + 1) (xs ++ [u]) → (w.alloc (.cells #[u] tt)).grownBy w' v.ownBlock → wpList P ops Q rest (a.put o.dst v') w') : wpList P ops Q (o :: rest) a (w.alloc (.cells #[u] tt)) := by
  obtain ⟨i, hi, hz, hs1, hb1⟩ := T.info
  refine wpList_wanted hgd fun K hK => wp_append_own _ s x t ho base e i z 1 bytes T.und hi hz hs1 hb1 T.cells T.pos v n xs hs (hown.alloc _) ⟨w.heap.size, 0, none⟩ 1 1 [u] hx rfl ?_ ?_ (by unfold maxLen; omega) hlim (by simp; omega) fun v' w' a1 a2 _ => hK _ _ (h v' w' a1 a2)
  · intro j u' hj
    match j, hj with
    | 0, hj => simp at hj; subst hj; simp [Addr.add]
  · intro c hc
    simp at hc
    subst hc
    exact h1

theorem grown_trans {a b c : World} {row : Option Nat} (h : a.grownBy b row) (k : b.grownBy c row) : a.grownBy c row :=
  ⟨k.os.trans h.os, k.tape.trans h.tape, k.output.trans h.output, Nat.le_trans h.size k.size, fun i hi hne => (k.block i (Nat.lt_of_lt_of_le hi h.size) hne).trans (h.block i hi hne)⟩
theorem ext_grown {w w' : World} (h : Ext w w') (row : Option Nat) : w.grownBy w' row := ⟨Below.os h, Below.tape h, Below.output h, h.size, fun _ hk _ => h.block hk⟩
theorem grown_none {w w' : World} (h : w.grownBy w' none) : Ext w w' := ⟨h.os, h.tape, h.output, h.size, fun k hk => h.block k hk (by simp)⟩
theorem grown_drewN (w : World) (n : Nat) (row : Option Nat) : w.grownBy (w.drewN n) row := ⟨rfl, rfl, rfl, Nat.le_refl _, fun _ _ _ => rfl⟩
theorem grown_setCell (w : World) (g i : Nat) (u : Value) : w.grownBy (w.setCell ⟨g, i, none⟩ u) (some g) :=
  ⟨rfl, rfl, rfl, by simp, fun k _ hne => Below.heap_setCell _ _ _ _ (fun e => hne (by rw [e]))⟩
/-- A block known whole, behind a store into it. -/
theorem block_setCell {w : World} {g i : Nat} {c : Array Value} {e : TypeId} {f : Nat × Nat} (h : w.heap[g]? = some (.cells c e f)) (u : Value) : (w.setCell ⟨g, i, none⟩ u).heap[g]? = some (.cells (c.setIfInBounds i u) e f) := by
  simp [World.setCell, Array.getElem?_modify, h]
theorem block_cell {w : World} {g : Nat} {c : Array Value} {e : TypeId} {f : Nat × Nat} (h : w.heap[g]? = some (.cells c e f)) (i : Nat) : w.cell? ⟨g, i, none⟩ = c[i]? := by
  simp [World.cell?, h]
theorem block_free {w : World} {g : Nat} {c : Array Value} {e : TypeId} (h : w.heap[g]? = some (.cells c e (0, 0))) (i : Nat) : w.frozen? ⟨g, i, none⟩ = false := by
  simp [World.frozen?, h]
theorem block_lt {w : World} {g : Nat} {o : Obj} (h : w.heap[g]? = some o) : g < w.heap.size := (Array.getElem?_eq_some_iff.1 h).1

/-- Cells that lie in another block than the one that turns. -/
theorem Lies.kept {w w' : World} {ao : Option Addr} {xs : List Value} (h : Lies w ao xs) {g : Nat} (k : w.grownBy w' (some g)) {c : Array Value} {e : TypeId} {f : Nat × Nat} (hg : w.heap[g]? = some (.cells c e f)) (hc : ∀ u ∈ xs, u ∉ c.toList) : Lies w' ao xs := by
  intro i hi
  obtain ⟨b, off, e1, e2⟩ := h i hi
  refine ⟨b, off, e1, ?_⟩
  rw [List.getElem?_eq_getElem hi] at e2 ⊢
  by_cases hb : b = g
  · subst hb
    rw [block_cell hg] at e2
    exact absurd (by rw [← Array.mem_toList_iff.symm]; exact Array.mem_of_getElem? e2) (hc _ (List.getElem_mem hi))
  · exact k.cell e2 (by simpa using hb)
theorem IsSl.kept {w w' : World} {v : Value} {size n : Nat} {xs : List Value} (h : IsSl w v size n xs) {g : Nat} (k : w.grownBy w' (some g)) {c : Array Value} {e : TypeId} {f : Nat × Nat} (hg : w.heap[g]? = some (.cells c e f)) (hc : ∀ u ∈ xs, u ∉ c.toList) : IsSl w' v size n xs := by
  obtain ⟨h1, ao, cap, e, h2, h3, h4, h5⟩ := h
  exact ⟨h1, ao, cap, e, h2, h3, h4, h5.kept k hg hc⟩

/-- A slice's row lies in a block below g. -/
def RowLt (v : Value) (g : Nat) : Prop := ∀ b off sp n c, v = .slice (some ⟨b, off, sp⟩) n c → b < g
theorem RowLt.of_owns {w : World} {base : Nat} {e : TypeId} {size : Nat} {v : Value} {n : Nat} {xs : List Value} (h : w.ownsRow base e size v n xs) : RowLt v w.heap.size := fun b off sp m c q => by
  subst q
  exact (h.lt b rfl).2
theorem RowLt.mono {v : Value} {g g' : Nat} (h : RowLt v g) (k : g ≤ g') : RowLt v g' := fun b off sp n c q => Nat.lt_of_lt_of_le (h b off sp n c q) k
theorem RowLt.nil (g : Nat) (n c : Nat) : RowLt (.slice none n c) g := fun b off sp m d q => by simp at q
/-- Cells in blocks below g are as they were where a block from g on turns. -/
theorem IsSl.low {w w' : World} {v : Value} {size n : Nat} {xs : List Value} (h : IsSl w v size n xs) {g r : Nat} (hl : RowLt v g) (k : w.grownBy w' (some r)) (hr : g ≤ r) : IsSl w' v size n xs := by
  obtain ⟨h1, ao, cap, e, h2, h3, h4, h5⟩ := h
  refine ⟨h1, ao, cap, e, h2, h3, h4, fun i hi => ?_⟩
  obtain ⟨b, off, e1, e2⟩ := h5 i hi
  have hb := hl b off none n cap (by rw [e, e1])
  refine ⟨b, off, e1, ?_⟩
  rw [List.getElem?_eq_getElem hi] at e2 ⊢
  exact k.cell e2 (by simp; omega)
/-- What is owned stays owned where another block turns. -/
theorem ownsRow_grown {w w' : World} {base : Nat} {e : TypeId} {size : Nat} {v : Value} {n : Nat} {xs : List Value} (h : w.ownsRow base e size v n xs) {r : Nat} (k : w.grownBy w' (some r)) (hr : v.ownBlock ≠ some r) : w'.ownsRow base e size v n xs := by
  refine ⟨h.1, ?_⟩
  rcases h.2 with h2 | ⟨g, cap, cur, hv, hg, hh, q⟩
  · exact .inl h2
  · refine .inr ⟨g, cap, cur, hv, hg, ?_, q⟩
    rw [k.block g (Array.getElem?_eq_some_iff.1 hh).1 (fun e => hr (by rw [hv]; simp only [Option.some.injEq] at e; subst e; rfl))]
    exact hh
theorem own_ne {w : World} {base : Nat} {e : TypeId} {size : Nat} {v : Value} {n : Nat} {xs : List Value} (h : w.ownsRow base e size v n xs) {r : Nat} (hr : r < base ∨ w.heap.size ≤ r) : v.ownBlock ≠ some r := fun e => by
  have := h.lt r e
  omega

/-- A byte as a cell. -/
def bc (c : UInt8) : Value := .int .u8 (c.toNat : Int)
/-- A slice of bytes. -/
def IsB (w : World) (v : Value) (l : List UInt8) : Prop := IsSl w v 1 l.length (l.map bc)
theorem IsB.ext {w w' : World} {v : Value} {l : List UInt8} (h : IsB w v l) (k : Ext w w') : IsB w' v l := IsSl.ext h k
theorem IsB.nil (w : World) : IsB w (.slice none 0 0) [] := IsSl.nil w 1
/-- What a walk wants of a slice of bytes. -/
theorem IsB.opened {w : World} {v : Value} {l : List UInt8} (h : IsB w v l) :
    ∃ ao cap, v = .slice ao l.length cap ∧ l.length ≤ cap ∧ cap ≤ 9223372036854775807 ∧ (ao = none → cap = 0) ∧
      ∀ i (hi : i < l.length), ∃ b off, ao = some ⟨b, off, none⟩ ∧ w.cell? ⟨b, off + i, none⟩ = some (.int .u8 (l[i].toNat : Int)) := by
  obtain ⟨_, ao, cap, e, h2, h3, h4, h5⟩ := h
  refine ⟨ao, cap, e, h2, h3, h4, fun i hi => ?_⟩
  obtain ⟨b, off, e, hc⟩ := h5 i (by simpa using hi)
  exact ⟨b, off, e, by simpa [bc, hi] using hc⟩
theorem IsB.kept {w w' : World} {v : Value} {l : List UInt8} (h : IsB w v l) {g : Nat} (k : w.grownBy w' (some g)) {c : Array Value} {e : TypeId} {f : Nat × Nat} (hg : w.heap[g]? = some (.cells c e f)) (hc : ∀ n, Value.int .u8 n ∉ c.toList) : IsB w' v l :=
  IsSl.kept h k hg (fun u hu => by obtain ⟨x, _, rfl⟩ := List.mem_map.1 hu; exact hc _)
theorem IsB.of_owns {w : World} {base : Nat} {e : TypeId} {v : Value} {n : Nat} {l : List UInt8} (h : w.ownsRow base e 1 v n (l.map bc)) : IsB w v l := by
  have hn : l.length = n := by simpa using h.1
  subst hn
  exact IsSl.of_owns h
/-- A part of a slice of bytes: the value is what the walk writes for 's[a:b]'. -/
theorem IsB.cut {w : World} {ao : Option Addr} {n cap : Nat} {l : List UInt8} (h : IsB w (.slice ao n cap) l) (a b : Nat) (hab : a ≤ b) (hb : b ≤ n) :
    IsB w (.slice (if cap = a then ao else ao.map (·.add (a * 1))) (b - a) (cap - a)) ((l.drop a).take (b - a)) := by
  obtain ⟨hlen, ao', cap', e, h2, h3, h4, h5⟩ := h
  simp only [Value.slice.injEq] at e
  obtain ⟨rfl, rfl, rfl⟩ := e
  have hl : ((l.drop a).take (b - a)).length = b - a := by rw [List.length_take, List.length_drop]; omega
  refine ⟨by simp, _, _, by rw [hl], by omega, by omega, ?_, ?_⟩
  · intro h0
    by_cases hc : cap = a
    · omega
    · rw [if_neg hc] at h0
      have := h4 (by simpa using h0)
      omega
  · intro i hi
    have hi' : i < b - a := by rw [List.length_map, hl] at hi; exact hi
    obtain ⟨p, off, e1, e2⟩ := h5 (a + i) (by simp; omega)
    refine ⟨p, off + a, ?_, ?_⟩
    · rw [if_neg (by omega), e1]
      simp [Addr.add_lit]
    · rw [Nat.add_assoc, e2]
      simp [List.getElem?_map, hi']
theorem bc_one (l : List UInt8) : ∀ u ∈ l.map bc, u.oneCell' = true := by
  intro u hu
  obtain ⟨_, _, rfl⟩ := List.mem_map.1 hu
  rfl
/-- A row of bytes that has just been laid. -/
theorem IsB.new {w : World} {e : TypeId} {c : Array Value} {n b : Nat} (l : List UInt8) (hb : w.heap.size = b) (hn : l.length = n) (hc : c.toList = l.map bc) (hm : n ≤ 9223372036854775807) : IsB (w.alloc (.cells c e)) (.slice (some ⟨b, 0, none⟩) n n) l := by
  subst hn
  subst hb
  refine ⟨by simp, _, _, rfl, Nat.le_refl _, hm, (fun h => by cases h), fun i hi => ⟨_, 0, rfl, ?_⟩⟩
  rw [Nat.zero_add, World.cell?_alloc_new, ← hc, Array.getElem?_toList]
theorem u8_lt (c : UInt8) : (c.toNat : Int) < 256 := by have := c.toNat_lt; omega
theorem u8_ne {a b : UInt8} (h : a ≠ b) : ((a.toNat : Int) != (b.toNat : Int)) = true := by
  rw [bne_iff_ne]
  intro e
  exact h (UInt8.toNat_inj.1 (by omega))
theorem u8_eq (a : UInt8) : ((a.toNat : Int) != (a.toNat : Int)) = false := by simp

/-- Two lists, element by element. -/
theorem beq_of_all {α : Type} [BEq α] [LawfulBEq α] (l1 l2 : List α) (hn : l1.length = l2.length) (h : ∀ j (h1 : j < l1.length) (h2 : j < l2.length), l1[j] = l2[j]) : (l1 == l2) = true := by
  rw [beq_iff_eq]
  exact List.ext_getElem hn h
theorem beq_of_ne {α : Type} [BEq α] [LawfulBEq α] (l1 l2 : List α) (j : Nat) (h1 : j < l1.length) (h2 : j < l2.length) (h : l1[j] ≠ l2[j]) : (l1 == l2) = false := by
  rw [beq_eq_false_iff_ne]
  intro e
  subst e
  exact h rfl
theorem beq_of_len {α : Type} [BEq α] [LawfulBEq α] (l1 l2 : List α) (h : l1.length ≠ l2.length) : (l1 == l2) = false := by
  rw [beq_eq_false_iff_ne]
  intro e
  exact h (by rw [e])
theorem ret_bool {a b : Bool} (h : a = b) : Ending.returned (.bool a) = .returned (.bool b) := by rw [h]
theorem ret_int {k : IntKind} {a b : Int} (h : a = b) : Ending.returned (.int k a) = .returned (.int k b) := by rw [h]

/-- A number of 64 bits as a cell. -/
def uc (z : Nat) : Value := .int .u64 (z : Int)
/-- What the reading of a []byte that came in gives. -/
theorem isB_of_open {w : World} {x : Addr} {n cap : Nat} {zs : List Int} {lim : Nat} (hl : n ≤ cap) (hm : cap ≤ maxLen) (hz : zs.length = cap) (hcell : ∀ i, i < zs.length → w.cell? (x.add i) = some (.int .u8 (zs.getD i 0)))
    (hwz : ∀ z ∈ zs, (Lit.int .u8 z).wf = true) (hlim : n ≤ lim) : ∃ l : List UInt8, IsB w (.slice (some x) n cap) l ∧ l.length ≤ lim := by
  have hb : ∀ z ∈ zs, 0 ≤ z ∧ z ≤ 255 := fun z h => by simpa [Lit.wf, IntKind.min, IntKind.max, IntKind.signed, IntKind.bits] using hwz z h
  have hlen : ((zs.take n).map fun z => UInt8.ofNat z.toNat).length = n := by simp; omega
  refine ⟨(zs.take n).map fun z => UInt8.ofNat z.toNat, ⟨by simp, some x, cap, by rw [hlen], by rw [hlen]; exact hl, by unfold maxLen at hm; omega, (fun h => by cases h), fun i hi => ?_⟩, by rw [hlen]; exact hlim⟩
  rw [List.length_map, hlen] at hi
  have hc := hcell i (by omega)
  obtain ⟨b, off, spot⟩ := x
  have hspot : spot = none := by simpa [Addr.add] using World.cell?_spot (hcell 0 (by omega))
  subst hspot
  rw [Addr.add_lit] at hc
  refine ⟨b, off, rfl, ?_⟩
  rw [hc]
  have hi2 : i < zs.length := by omega
  have hbi := hb _ (List.getElem_mem hi2)
  simp only [List.getElem?_map, List.getElem?_take, hi, if_true, List.getElem?_eq_getElem hi2, Option.map_some, List.getD_eq_getElem?_getD, Option.getD_some, bc]
  congr 2
  rw [UInt8.toNat_ofNat']
  omega
theorem isU_of_open {w : World} {x : Addr} {n cap : Nat} {zs : List Int} {lim : Nat} (hl : n ≤ cap) (hm : cap ≤ maxLen) (hz : zs.length = cap) (hcell : ∀ i, i < zs.length → w.cell? (x.add i) = some (.int .u64 (zs.getD i 0)))
    (hwz : ∀ z ∈ zs, (Lit.int .u64 z).wf = true) (hlim : n * 8 ≤ lim) : ∃ l : List Nat, IsSl w (.slice (some x) n cap) 1 l.length (l.map uc) ∧ (∀ z ∈ l, z < 18446744073709551616) ∧ l.length * 8 ≤ lim := by
  have hb : ∀ z ∈ zs, 0 ≤ z ∧ z ≤ 18446744073709551615 := fun z h => by simpa [Lit.wf, IntKind.min, IntKind.max, IntKind.signed, IntKind.bits] using hwz z h
  have hlen : ((zs.take n).map Int.toNat).length = n := by simp; omega
  refine ⟨(zs.take n).map Int.toNat, ⟨by simp, some x, cap, by rw [hlen], by rw [hlen]; exact hl, by unfold maxLen at hm; omega, (fun h => by cases h), fun i hi => ?_⟩, ?_, by rw [hlen]; exact hlim⟩
  · rw [List.length_map, hlen] at hi
    have hc := hcell i (by omega)
    obtain ⟨b, off, spot⟩ := x
    have hspot : spot = none := by simpa [Addr.add] using World.cell?_spot (hcell 0 (by omega))
    subst hspot
    rw [Addr.add_lit] at hc
    refine ⟨b, off, rfl, ?_⟩
    rw [hc]
    have hi2 : i < zs.length := by omega
    have hbi := hb _ (List.getElem_mem hi2)
    simp only [List.getElem?_map, List.getElem?_take, hi, if_true, List.getElem?_eq_getElem hi2, Option.map_some, List.getD_eq_getElem?_getD, Option.getD_some, uc]
    congr 2
    omega
  · intro z hz'
    obtain ⟨y, hy, rfl⟩ := List.mem_map.1 hz'
    have := hb y (List.mem_of_mem_take hy)
    omega
end Go.Proofs.YtgcbkhmaabmdjaaDoor
