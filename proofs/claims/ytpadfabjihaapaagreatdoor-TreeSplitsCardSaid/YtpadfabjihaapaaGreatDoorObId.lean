/- The walk of object.Id. -/
import Derived.Test.YtpadfabjihaapaaGreatDoorObU
import Derived.Test.YtpadfabjihaapaaGreatDoorShE
import Derived.Test.YtpadfabjihaapaaGreatDoorIdE
namespace Go.Proofs.YtpadfabjihaapaaGreatDoor
open Go.RowKit
set_option linter.unusedVariables false
set_option linter.unusedSimpArgs false

theorem ents_le : ∀ (es : List EntL), (∀ e ∈ es, EntOk e ∧ e.name.size ≤ 24) → (es.flatMap encE).length ≤ 58 * es.length
  | [], _ => by simp
  | e :: r, h => by
    have h1 := ents_le r fun x hx => h x (List.mem_cons_of_mem _ hx)
    have h2 := encE_len (h e (List.mem_cons_self ..)).1
    have h3 := (h e (List.mem_cons_self ..)).2
    rw [List.flatMap_cons, List.length_append, List.length_cons]
    omega
theorem encB_le {o : ObjL} (h : checkB o = true) (ho : ObjOk o) : (encB o).length ≤ 10000 := by
  obtain ⟨_, h1, h2, h3, h4, h5⟩ := chk_parts h
  unfold encB
  split
  · simp only [List.length_cons, List.length_append, be_length]; omega
  split
  · have := ents_le o.ents fun e he => ⟨ho.ents e he, (h5 e he).1⟩
    simp only [List.length_cons]; omega
  · have := flat_len32 o.pars ho.pars
    simp only [List.length_cons, List.length_append, be_length, txt_len, ho.tree, this]; omega
theorem encO_le {o : ObjL} (ho : ObjOk o) : (encO o).length ≤ 10000 := by
  unfold encO
  split
  · exact encB_le ‹_› ho
  · exact Nat.zero_le _
/-- An object's Id. -/
def idL (o : ObjL) : List UInt8 := if checkB o then shaL (encB o) else z32
theorem idL_len (o : ObjL) : (idL o).length = 32 := by
  unfold idL
  split
  · exact shaL_len _
  · rfl

set_option maxHeartbeats 4000000 in
set_option maxRecDepth 100000 in
theorem objId (w : World) (QA : Array Value) (vb ve vp : Value) (o : ObjL) (h : IsObj w QA vb ve vp o) (hT : Tabs w) :
    Calls Tryz.prog 71 #[.agg QA] w fun e w' => e = .returned (.tuple #[.agg ((idL o).map bc).toArray, .int .i64 (chkE (checkB o))]) ∧ Ext w w' := by
  have b0 := blk_old (o := .cells (z32.map bc).toArray 31) (heap_alloc_new w (.cells QA 45))
  have bR := blk_new (w := w.alloc (.cells QA 45)) (b := w.heap.size + 1) (o := .cells (z32.map bc).toArray 31) (by simp)
  have X0 : Ext w ((w.alloc (.cells QA 45)).alloc (.cells (z32.map bc).toArray 31)) := ((Ext.refl w).alloc _).alloc _
  have hinfo := h.info
  have hI : idL o = if checkB o then shaL (encB o) else z32 := rfl
  have hIl := idL_len o
  generalize idL o = I at *
  have HI := Lib.hid hI
  clear hI
  have hle := encO_le h.ok
  go_enter Tryz.func71, Tryz.ntmps71
  go_wp2_with ((with_reducible refine at_load 45 (.tmp 1) ?_); refine wpl_load (by rfl) 45 (.tmp 1) rfl w.heap.size (by rfl) 45 QA (0, 0) _ b0 Tryz.underlying45 rfl hinfo ?_)
  refine Calls.mono (objEncode _ QA vb ve vp o (h.ext X0)) ?_
  rintro e w1 ⟨v1, rfl, own1, x1⟩
  have X1 := X0.trans x1
  have bR := x1.keeps bR
  generalize hG : w.heap.size + 1 = R at *
  cases hc : checkB o with
  | false =>
    unfold chkE
    rw [if_neg (by decide)]
    go_wp2_with ((with_reducible refine at_store 31 (.tmp 2) (.tmp 13) ?_); refine wpl_store (by rfl) 31 (.tmp 2) (.tmp 13) rfl R (z32.map bc).toArray (by rfl) (by rfl) 31 _ bR (id_size rfl) rfl (id_one _) ?_)
    have hfin : (w1.setRow R (z32.map bc).toArray).heap[R]? = some (.cells (z32.map bc).toArray 31 (0, 0)) := setRow_heap _ _ _ _ _ _ bR
    refine bodyPost_ret (results_cell_tmp rfl _ _ R _ _ _ _ (by rfl) hfin Tryz.underlying31 rfl (id_size rfl)) rfl ⟨?_, X1.grown grown_setRow' (fun k hk => by simp at hk; omega)⟩
    rw [HI.out, hc]; rfl
  | true =>
    have hE : encO o = encB o := by unfold encO; rw [hc]; rfl
    rw [hE] at own1 hle
    have hI : I = shaL (encB o) := by rw [HI.out, hc]; rfl
    generalize encB o = B at *
    unfold chkE
    rw [if_pos rfl]
    go_wp2_with fail
    refine Calls.mono (shaSum _ v1 B (IsB.of_owns own1) (by omega) (hT.ext X1)) ?_
    rintro e w2 ⟨rfl, x2⟩
    subst hI
    have hIl := shaL_len B
    have bR := x2.keeps bR
    go_wp2_with ((with_reducible refine at_store 31 (.tmp 2) (.tmp 16) ?_); refine wpl_store (by rfl) 31 (.tmp 2) (.tmp 16) rfl R ((shaL B).map bc).toArray (by rfl) (by rfl) 31 _ bR (id_size hIl) (id_same rfl hIl) (id_one _) ?_)
    have hfin : (w2.setRow R ((shaL B).map bc).toArray).heap[R]? = some (.cells ((shaL B).map bc).toArray 31 (0, 0)) := setRow_heap _ _ _ _ _ _ bR
    refine bodyPost_ret (results_cell_tmp rfl _ _ R _ _ _ _ (by rfl) hfin Tryz.underlying31 rfl (id_size hIl)) rfl ⟨?_, (X1.trans x2).grown grown_setRow' (fun k hk => by simp at hk; omega)⟩
    rw [hc]
    rfl
end Go.Proofs.YtpadfabjihaapaaGreatDoor
