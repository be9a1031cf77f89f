/- Regions that draw their order, walked by hand: S may be made stronger on the way; loads and stores of whole rows. Over any program. -/
import Derived.Test.YtgcbkhmaabmdjaaDoorKit
import Derived.Deep.RegionHeld3
import Derived.Deep.MidRow
import Derived.Deep.WholeRow
namespace Go.Proofs.YtgcbkhmaabmdjaaDoor
open Go.RowKit
set_option linter.unusedVariables false

theorem blk_new {w : World} {o : Obj} {b : Nat} (h : w.heap.size = b) : (w.alloc o).heap[b]? = some o := by subst h; exact heap_alloc_new w o
theorem blk_old {w : World} {o x : Obj} {k : Nat} (h : w.heap[k]? = some x) : (w.alloc o).heap[k]? = some x := by rw [Below.heap_alloc w o k (block_lt h)]; exact h
theorem Ext.keeps {w w' : World} (k : Ext w w') {g : Nat} {x : Obj} (h : w.heap[g]? = some x) : w'.heap[g]? = some x := by rw [k.block (block_lt h)]; exact h
theorem grown_other {w w' : World} {r g : Nat} {x : Obj} (k : w.grownBy w' (some r)) (h : w.heap[g]? = some x) (hn : g ≠ r) : w'.heap[g]? = some x := by
  rw [k.block g (block_lt h) (by simpa using hn)]; exact h
theorem set_other {w : World} {r g : Nat} {x : Obj} {i : Nat} {u : Value} (h : w.heap[g]? = some x) (hn : g ≠ r) : (w.setCell ⟨r, i, none⟩ u).heap[g]? = some x :=
  grown_other (grown_setCell w r i u) h hn
theorem map_set {α : Type} (c : α → Value) (l : List α) (i : Nat) (x : α) : (l.map c).toArray.setIfInBounds i (c x) = ((l.set i x).map c).toArray := by
  rw [List.map_set]; simp

section
variable {P : Program}
/-- S may be made stronger. -/
theorem wpAnyH_mono {md : Region.Mode} {ops : Array Oper} {Q : Exit → Act → World → Prop} {S S' : World → Prop} (hS : ∀ w, S' w → S w) :
    ∀ (fuel : Nat) (listed : Array Bool) (a : Act) (w : World), wpAnyH P md ops Q S' fuel listed a w → wpAnyH P md ops Q S fuel listed a w
  | 0, _, _, _, h => h
  | fuel + 1, _, _, _, h => ⟨h.1, fun i hi => wpOp_mono (fun a' w' h' => ⟨hS _ h'.1, wpAnyH_mono hS fuel _ a' w' h'.2⟩) (h.2 i hi)⟩
/-- Behind a call that keeps what was there: from now on S says that of the new world. -/
theorem wpAnyH_call {md : Region.Mode} {ops : Array Oper} {Q : Exit → Act → World → Prop} {W W' : World} (x : Ext W W') {fuel : Nat} {listed : Array Bool} {a : Act}
    (h : Ext W' W' → wpAnyH P md ops Q (fun w => Ext W' w) fuel listed a W') : Ext W W' ∧ wpAnyH P md ops Q (fun w => Ext W w) fuel listed a W' :=
  ⟨x, wpAnyH_mono (fun _ k => x.trans k) _ _ _ _ (h (Ext.refl _))⟩
theorem wpOp_run {P : Program} {ops : Array Oper} {Q : Exit → Act → World → Prop} {i : Nat} {o : Oper} {K : Act → World → Prop} {a : Act} {w : World} (hi : ops[i]? = some o) (hg : Region.wanted o (yielded ops a.tmps) = true) (h : o.wp P a w K Q) : wpOp P ops Q i K a w := by
  unfold wpOp
  simp only [hi, hg, if_true]
  exact .inl h
/-- The beginning. -/
theorem wp_region_ext {id : Nat} {ops : Array Oper} {Q : Exit → Act → World → Prop} {a : Act} {w : World} (hm : P.follows .mixedOrders = true)
    (h : ∀ w', (∃ q, w' = w.drewN q) → Ext w w' → Ext w' w' → wpAnyH P .any ops (NoPanic Q) (fun v => Ext w' v) ops.size (Array.replicate ops.size false) a w') : (Code.region id ops true).wp P Q a w :=
  wp_region_noPanic (wp_region_held_drew (S := fun v => Ext w.drew v) hm (Ext.refl _) fun _ => h w.drew ⟨1, rfl⟩ ((Ext.refl w).drew) (Ext.refl _))

theorem rangeAt_of {w : World} {g : Nat} {l : List Value} {t : TypeId} {f : Nat × Nat} (h : w.heap[g]? = some (.cells l.toArray t f)) : w.rangeAt g 0 l := by
  intro j v hj
  rw [Nat.zero_add, block_cell h, ← hj]
  simp
theorem rangeAt_ext {w w' : World} {b o : Nat} {l : List Value} (h : w.rangeAt b o l) (x : Ext w w') : w'.rangeAt b o l := fun j v hj => x.cell (h j v hj)

/-- A guard: the next operation is that load ('with_reducible refine at_load ty x ?_'). -/
theorem at_load (ty : TypeId) (x : Operand) {ops : Array Oper} {rest : List Oper} {dst : Option Tmp} {t : TypeId} {pos : String} {after : Array Edge} {gd : Option (Nat × Bool)} {a : Act} {w : World} {Q : Exit → Act → World → Prop}
    (h : wpList P ops Q ({ dst := dst, op := .load ty x, type := t, pos := pos, after := after, guard := gd } :: rest) a w) : wpList P ops Q ({ dst := dst, op := .load ty x, type := t, pos := pos, after := after, guard := gd } :: rest) a w := h
theorem at_store (ty : TypeId) (x y : Operand) {ops : Array Oper} {rest : List Oper} {dst : Option Tmp} {t : TypeId} {pos : String} {after : Array Edge} {gd : Option (Nat × Bool)} {a : Act} {w : World} {Q : Exit → Act → World → Prop}
    (h : wpList P ops Q ({ dst := dst, op := .store ty x y, type := t, pos := pos, after := after, guard := gd } :: rest) a w) : wpList P ops Q ({ dst := dst, op := .store ty x y, type := t, pos := pos, after := after, guard := gd } :: rest) a w := h
theorem wpl_load {ops : Array Oper} {rest : List Oper} {o : Oper} {a : Act} {w : World} {Q : Exit → Act → World → Prop} (hgd : Region.wanted o (yielded ops a.tmps) = true) (ty : TypeId) (x : Operand) (ho : o.op = .load ty x)
    (g : Nat) (hx : a.eval x = .pointer (some ⟨g, 0, none⟩)) (t : TypeId) (cs : Array Value) (fr : Nat × Nat) (d : TypeDesc) (hg : w.heap[g]? = some (.cells cs t fr))
    (hu : P.underlying ty = some d) (hd : (match d with | .struct _ | .array _ _ => true | _ => false) = true) (hi : (P.info? ty).map (·.size) = some cs.size)
    (h : wpList P ops Q rest (a.put o.dst (.agg cs)) w) : wpList P ops Q (o :: rest) a w :=
  wpList_wanted hgd fun K hK => wp_load_row ty x ho g hx t cs fr d hg hu hd hi (hK _ _ h)
/-- A part of a block. -/
theorem wpl_mid {ops : Array Oper} {rest : List Oper} {o : Oper} {a : Act} {w : World} {Q : Exit → Act → World → Prop} (hgd : Region.wanted o (yielded ops a.tmps) = true) (ty : TypeId) (x : Operand) (ho : o.op = .load ty x)
    (b f : Nat) (hx : a.eval x = .pointer (some ⟨b, f, none⟩)) (cs : List Value) (d : TypeDesc) (hc : w.rangeAt b f cs)
    (hu : P.underlying ty = some d) (hd : d.isRow = true) (hi : (P.info? ty).map (·.size) = some cs.length)
    (h : wpList P ops Q rest (a.put o.dst (.agg cs.toArray)) w) : wpList P ops Q (o :: rest) a w :=
  wpList_wanted hgd fun K hK => wp_load_mid ty x ho b f hx cs d hc hu hd hi (hK _ _ h)
theorem wpl_store {ops : Array Oper} {rest : List Oper} {o : Oper} {a : Act} {w : World} {Q : Exit → Act → World → Prop} (hgd : Region.wanted o (yielded ops a.tmps) = true) (ty : TypeId) (x y : Operand) (ho : o.op = .store ty x y)
    (g : Nat) (cells : Array Value) (hx : a.eval x = .pointer (some ⟨g, 0, none⟩)) (hy : a.eval y = .agg cells)
    (t : TypeId) (old : Array Value) (hg : w.heap[g]? = some (.cells old t (0, 0))) (hi : (P.info? ty).map (·.size) = some cells.size)
    (hold : old.size = cells.size) (h1 : cells.all (·.oneCell') = true)
    (h : wpList P ops Q rest (a.put o.dst undef) (w.setRow g cells)) : wpList P ops Q (o :: rest) a w :=
  wpList_wanted hgd fun K hK => wp_store_row ty x y ho g cells hx hy t old hg hi hold h1 (hK _ _ h)
end
end Go.Proofs.YtgcbkhmaabmdjaaDoor
