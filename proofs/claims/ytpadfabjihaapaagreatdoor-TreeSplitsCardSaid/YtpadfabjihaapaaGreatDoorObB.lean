/- How an api.Object lies in cells; the walk of object.plain. -/
import Derived.Test.YtpadfabjihaapaaGreatDoorObA
import Derived.Test.YtpadfabjihaapaaGreatDoorIdE
import Derived.Test.YtpadfabjihaapaaGreatDoorOpen
namespace Go.Proofs.YtpadfabjihaapaaGreatDoor
open Go.RowKit
set_option linter.unusedVariables false
set_option linter.unusedSimpArgs false

/-- An entry of a folder. -/
structure EntL where
  name : ByteArray
  folder : Bool
  id : List UInt8
def entC (e : EntL) : List Value := .string e.name :: .bool e.folder :: e.id.map bc
def EntOk (e : EntL) : Prop := e.id.length = 32 ∧ e.name.size ≤ 140737488355328
theorem entC_len {e : EntL} (h : EntOk e) : (entC e).length = 34 := by simp [entC, h.1]
/-- An object. -/
structure ObjL where
  kind : Int
  bytes : List UInt8
  ents : List EntL
  tree : List UInt8
  pars : List (List UInt8)
  num : Nat
  note : ByteArray
def idC (l : List UInt8) : List Value := l.map bc
def objC (vb ve vp : Value) (o : ObjL) : List Value := [.int .i64 o.kind, vb, ve] ++ o.tree.map bc ++ [vp, .int .u32 (o.num : Int), .string o.note]
structure ObjOk (o : ObjL) : Prop where
  kind : -9223372036854775808 ≤ o.kind ∧ o.kind ≤ 9223372036854775807
  bytes : o.bytes.length ≤ 140737488355328
  ents : ∀ e ∈ o.ents, EntOk e
  elen : o.ents.length ≤ 140737488355328
  tree : o.tree.length = 32
  pars : ∀ p ∈ o.pars, p.length = 32
  plen : o.pars.length ≤ 140737488355328
  num : o.num < 4294967296
  note : o.note.size ≤ 140737488355328
/-- The cells QA are an object whose three slices lie in w. -/
structure IsObj (w : World) (QA : Array Value) (vb ve vp : Value) (o : ObjL) : Prop where
  eq : (objC vb ve vp o).toArray = QA
  ok : ObjOk o
  vb : IsB w vb o.bytes
  ve : IsSl w ve 34 o.ents.length (o.ents.flatMap entC)
  vp : IsSl w vp 32 o.pars.length (o.pars.flatMap idC)
theorem IsObj.ext {w w' : World} {QA : Array Value} {vb ve vp : Value} {o : ObjL} (h : IsObj w QA vb ve vp o) (k : Ext w w') : IsObj w' QA vb ve vp o :=
  ⟨h.eq, h.ok, h.vb.ext k, h.ve.ext k, h.vp.ext k⟩
theorem objC_len {vb ve vp : Value} {o : ObjL} (h : ObjOk o) : (objC vb ve vp o).length = 38 := by simp [objC, h.tree]
theorem IsObj.size {w : World} {QA : Array Value} {vb ve vp : Value} {o : ObjL} (h : IsObj w QA vb ve vp o) : QA.size = 38 := by
  rw [← h.eq, List.size_toArray, objC_len h.ok]
theorem obj_info : (Tryz.prog.info? 45).map (·.size) = some 38 := by kernel_rfl
theorem IsObj.info {w : World} {QA : Array Value} {vb ve vp : Value} {o : ObjL} (h : IsObj w QA vb ve vp o) : (Tryz.prog.info? 45).map (·.size) = some QA.size := by
  rw [h.size, obj_info]
theorem sl_one {w : World} {v : Value} {s n : Nat} {xs : List Value} (h : IsSl w v s n xs) : v.oneCell' = true := by
  obtain ⟨_, ao, cap, rfl, _⟩ := h
  rfl
theorem IsObj.one {w : World} {QA : Array Value} {vb ve vp : Value} {o : ObjL} (h : IsObj w QA vb ve vp o) : QA.all (·.oneCell') = true := by
  rw [← h.eq, Array.all_eq_true_iff_forall_mem]
  intro u hu
  have hu : u ∈ objC vb ve vp o := by simpa using hu
  simp only [objC, List.mem_append, List.mem_cons, List.not_mem_nil, or_false] at hu
  rcases hu with ((rfl | rfl | rfl) | hu) | (rfl | rfl | rfl)
  · rfl
  · exact sl_one h.vb
  · exact sl_one h.ve
  · exact bc_one _ _ hu
  · exact sl_one h.vp
  · rfl
  · rfl
/-- What the cells of a block that holds an object are. -/
structure ObjAt (w : World) (g : Nat) (vb ve vp : Value) (o : ObjL) : Prop where
  c0 : w.cell? ⟨g, 0, none⟩ = some (.int .i64 o.kind)
  c1 : w.cell? ⟨g, 1, none⟩ = some vb
  c2 : w.cell? ⟨g, 2, none⟩ = some ve
  c3 : w.rangeAt g 3 (o.tree.map bc)
  c4 : w.cell? ⟨g, 35, none⟩ = some vp
  c5 : w.cell? ⟨g, 36, none⟩ = some (.int .u32 (o.num : Int))
  c6 : w.cell? ⟨g, 37, none⟩ = some (.string o.note)
theorem ObjAt.ext {w w' : World} {g : Nat} {vb ve vp : Value} {o : ObjL} (h : ObjAt w g vb ve vp o) (k : Ext w w') : ObjAt w' g vb ve vp o :=
  ⟨k.cell h.c0, k.cell h.c1, k.cell h.c2, rangeAt_ext h.c3 k, k.cell h.c4, k.cell h.c5, k.cell h.c6⟩
theorem obj_at {w : World} {g : Nat} {QA : Array Value} {t : TypeId} {f : Nat × Nat} {vb ve vp : Value} {o : ObjL} (h : w.heap[g]? = some (.cells QA t f)) (eq : (objC vb ve vp o).toArray = QA) (ok : ObjOk o) : ObjAt w g vb ve vp o := by
  subst eq
  have ht := ok.tree
  have hc : ∀ i, w.cell? ⟨g, i, none⟩ = (objC vb ve vp o)[i]? := fun i => by rw [block_cell h]; simp
  have hl : ∀ i, i < 3 → (objC vb ve vp o)[i]? = [Value.int .i64 o.kind, vb, ve][i]? := fun i hi => by
    unfold objC; rw [List.append_assoc, List.getElem?_append_left (by simpa using hi)]
  have hr : ∀ i, (objC vb ve vp o)[35 + i]? = [vp, Value.int .u32 (o.num : Int), .string o.note][i]? := fun i => by
    unfold objC; rw [List.getElem?_append_right (by simp [ht])]; simp [ht]
  refine ⟨?_, ?_, ?_, ?_, ?_, ?_, ?_⟩
  · rw [hc, hl 0 (by omega)]; rfl
  · rw [hc, hl 1 (by omega)]; rfl
  · rw [hc, hl 2 (by omega)]; rfl
  · intro j v hj
    rw [hc]
    have hjl : j < (o.tree.map bc).length := (List.getElem?_eq_some_iff.1 hj).1
    unfold objC
    rw [List.getElem?_append_left (by simp [ht] at hjl ⊢; omega), List.getElem?_append_right (by simp), show 3 + j - [Value.int IntKind.i64 o.kind, vb, ve].length = j from by simp]
    exact hj
  · rw [hc]; exact hr 0
  · rw [hc]; exact hr 1
  · rw [hc]; exact hr 2
theorem id_info {l : List UInt8} (h : l.length = 32) : (Tryz.prog.info? 31).map (·.size) = some (l.map bc).length := by
  rw [List.length_map, h]; kernel_rfl

/-- Has an object no fields but those of its kind? -/
def restB (o : ObjL) : Bool := decide (o.tree = z32) && ((o.pars.length : Int) == 0) && ((o.num : Int) == 0) && o.note.toList.isEmpty
def plainB (o : ObjL) : Bool :=
  if o.kind = 1 then ((o.ents.length : Int) == 0) && restB o
  else if o.kind = 2 then ((o.bytes.length : Int) == 0) && restB o
  else if o.kind = 3 then ((o.bytes.length : Int) == 0) && ((o.ents.length : Int) == 0)
  else false
theorem sl_len {w : World} {v : Value} {s n : Nat} {xs : List Value} (h : IsSl w v s n xs) : ∃ ao cap, v = .slice ao n cap := by
  obtain ⟨_, ao, cap, e, _⟩ := h
  exact ⟨ao, cap, e⟩

set_option maxHeartbeats 4000000 in
set_option maxRecDepth 100000 in
theorem objPlain (w : World) (QA : Array Value) (vb ve vp : Value) (o : ObjL) (h : IsObj w QA vb ve vp o) :
    Calls Tryz.prog 128 #[.agg QA] w fun e w' => e = .returned (.bool (plainB o)) ∧ Ext w w' := by
  have hA := obj_at (heap_alloc_new w (.cells QA 45)) h.eq h.ok
  obtain ⟨ab, cb, rfl⟩ := sl_len h.vb
  obtain ⟨ae, ce, rfl⟩ := sl_len h.ve
  obtain ⟨ap, cp, rfl⟩ := sl_len h.vp
  obtain ⟨c0, c1, c2, c3, c4, c5, c6⟩ := hA
  have hidt := id_info h.ok.tree
  have heq := fun w => eql_zero w o.tree h.ok.tree
  have hP : plainB o = plainB o := rfl
  generalize hR : plainB o = R at hP
  unfold plainB restB at hR
  clear hP h
  by_cases h1 : o.kind = 1
  · rw [h1] at c0 hR
    rw [if_pos rfl] at hR
    have HR := Lib.hid hR
    clear hR h1
    go_enter Tryz.func128, Tryz.ntmps128
    go_wp2_with ((with_reducible refine at_load 31 (.tmp 12) ?_); refine wpl_mid (by rfl) 31 (.tmp 12) rfl w.heap.size 3 (by rfl) (o.tree.map bc) _ c3 Tryz.underlying31 rfl hidt ?_)
    all_goals
      go_ret
      refine ⟨ret_bool ?_, (Ext.refl w).alloc _⟩
      rw [← HR.out]
      simp [*]
  have e1 : (o.kind == 1) = false := by simpa using h1
  rw [if_neg h1] at hR
  by_cases h2 : o.kind = 2
  · rw [h2] at c0 hR e1
    rw [if_pos rfl] at hR
    have HR := Lib.hid hR
    clear hR h2 h1 e1
    go_enter Tryz.func128, Tryz.ntmps128
    go_wp2_with ((with_reducible refine at_load 31 (.tmp 40) ?_); refine wpl_mid (by rfl) 31 (.tmp 40) rfl w.heap.size 3 (by rfl) (o.tree.map bc) _ c3 Tryz.underlying31 rfl hidt ?_)
    all_goals
      go_ret
      refine ⟨ret_bool ?_, (Ext.refl w).alloc _⟩
      rw [← HR.out]
      simp [*]
  have e2 : (o.kind == 2) = false := by simpa using h2
  rw [if_neg h2] at hR
  by_cases h3 : o.kind = 3
  · rw [h3] at c0 hR e1 e2
    rw [if_pos rfl] at hR
    have HR := Lib.hid hR
    clear hR h3 h2 h1 e1 e2
    go_enter Tryz.func128, Tryz.ntmps128
    go_wp2
    all_goals
      go_ret
      refine ⟨ret_bool ?_, (Ext.refl w).alloc _⟩
      rw [← HR.out]
      simp [*]
  have e3 : (o.kind == 3) = false := by simpa using h3
  rw [if_neg h3] at hR
  have HR := Lib.hid hR
  clear hR
  go_enter Tryz.func128, Tryz.ntmps128
  go_wp2
  go_ret
  exact ⟨ret_bool (by rw [← HR.out]), (Ext.refl w).alloc _⟩

/-- Do the names rise, and may they be? -/
def entsB : Option ByteArray → List EntL → Bool
  | _, [] => true
  | p, e :: r => nameB e.name && (match p with | none => true | some q => Op.bytesLess q.toList e.name.toList) && entsB (some e.name) r
def headB (o : ObjL) : Bool := decide ((o.bytes.length : Int) ≤ 4096) && decide ((o.ents.length : Int) ≤ 32) && decide ((o.pars.length : Int) ≤ 2) && decide ((o.note.size : Int) ≤ 200)
/-- May an object be? -/
def checkB (o : ObjL) : Bool := plainB o && headB o && entsB none o.ents
theorem ret_if {k : IntKind} {b c : Bool} {x y : Int} (h : b = c) : Ending.returned (.int k (if b then x else y)) = .returned (.int k (if c then x else y)) := by rw [h]

/-- An entry's cells. -/
theorem ent_at {w : World} {ao : Option Addr} {n cap : Nat} {es : List EntL} (h : IsSl w (.slice ao n cap) 34 es.length (es.flatMap entC)) (hok : ∀ e ∈ es, EntOk e) (i : Nat) (hi : i < es.length) :
    ∃ b off, ao = some ⟨b, off, none⟩ ∧ w.rangeAt b (off + i * 34) (entC es[i]) := by
  obtain ⟨hlen, ao', cap', e, h2, h3, h4, h5⟩ := h
  simp only [Value.slice.injEq] at e
  obtain ⟨rfl, rfl, rfl⟩ := e
  have hl : ∀ x ∈ es, (entC x).length = 34 := fun x hx => entC_len (hok x hx)
  obtain ⟨b, off, e, _⟩ := h5 (i * 34) (by rw [flat_len entC 34 es hl]; omega)
  refine ⟨b, off, e, fun j v hj => ?_⟩
  have hj34 : j < 34 := by
    have := (List.getElem?_eq_some_iff.1 hj).1
    rw [hl _ (List.getElem_mem hi)] at this
    exact this
  obtain ⟨b', off', e', hc⟩ := h5 (i * 34 + j) (by rw [flat_len entC 34 es hl]; omega)
  rw [e] at e'
  simp only [Option.some.injEq, Addr.mk.injEq] at e'
  obtain ⟨rfl, rfl, _⟩ := e'
  rw [Nat.add_assoc, hc, flat_get entC 34 es hl i hi j hj34]
  exact hj
theorem ent_info {e : EntL} (h : EntOk e) : (Tryz.prog.info? 80).map (·.size) = some (entC e).length := by
  rw [entC_len h]; kernel_rfl
theorem ent_one (e : EntL) : ∀ v ∈ entC e, v.oneCell' = true := by
  intro v hv
  simp only [entC, List.mem_cons] at hv
  rcases hv with rfl | rfl | hv
  · rfl
  · rfl
  · exact bc_one _ _ hv
end Go.Proofs.YtpadfabjihaapaaGreatDoor
