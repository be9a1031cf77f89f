/- The walk of the reference's id: an Id of bytes. -/
import Derived.Test.YtcdlmappcbbacaaObO
import Derived.Test.YtcdlmappcbbacaaObW
namespace Go.Proofs.Ytcdlmappcbbacaa
open Go.RowKit
set_option linter.unusedVariables false
set_option linter.unusedSimpArgs false

theorem fill_set (l : List UInt8) (k : Nat) (h : l.length = 32) (hk : k < 32) : ((l.take k ++ z32.drop k).map bc).toArray.setIfInBounds k (bc l[k]) = ((l.take (k + 1) ++ z32.drop (k + 1)).map bc).toArray := by
  have e : z32.drop k = 0 :: z32.drop (k + 1) := by
    rw [List.drop_eq_getElem_cons (by simp [z32]; omega)]
    congr 1
    exact List.getElem_replicate _
  have e2 : l.take (k + 1) = l.take k ++ [l[k]] := List.take_succ_eq_append_getElem (by omega)
  rw [e, e2]
  have h3 : ((l.take k).map bc).length = k := by rw [List.length_map, List.length_take]; omega
  rw [List.map_append, List.map_cons]
  have := set_app ((l.take k).map bc) (bc 0) (bc l[k]) ((z32.drop (k + 1)).map bc) k h3
  rw [this]
  simp only [List.map_append, List.map_cons, List.map_nil, List.append_assoc, List.cons_append, List.nil_append]

set_option maxHeartbeats 4000000 in
set_option maxRecDepth 100000 in
theorem refId (w : World) (v : Value) (l : List UInt8) (h : IsB w v l) (hl : l.length = 32) :
    Calls Try.prog 30 #[v] w fun e w' => e = .returned (.agg (l.map bc).toArray) ∧ Ext w w' := by
  obtain ⟨ao, cap, rfl, b1, m1, z1, g1⟩ := h.opened
  have G1 := Lib.hid g1
  clear g1 z1
  rw [hl]
  go_enter Try.func30, Try.ntmps30
  go_wp2_with fail
  have bR := blk_old (o := .cells (z32.map bc).toArray 26) (heap_alloc_new w (.cells (z32.map bc).toArray 26))
  have b3 := blk_new (w := w.alloc (.cells (z32.map bc).toArray 26)) (b := w.heap.size + 1) (o := .cells (z32.map bc).toArray 26) (by simp)
  have X0 : Ext w ((w.alloc (.cells (z32.map bc).toArray 26)).alloc (.cells (z32.map bc).toArray 26)) := ((Ext.refl w).alloc _).alloc _
  generalize hG : w.heap.size = G at *
  change Code.wp _ _ _ _ ((w.alloc (.cells (z32.map bc).toArray 26)).alloc (.cells (z32.map bc).toArray 26))
  generalize (w.alloc (.cells (z32.map bc).toArray 26)).alloc (.cells (z32.map bc).toArray 26) = w0 at *
  have e0 : (z32.map bc).toArray = ((l.take 0 ++ z32.drop 0).map bc).toArray := rfl
  have b3' := b3
  rw [e0] at b3'
  go_wp2_with fail
  go_loopg [4] 32 (fun g s4 wr => ∃ k : Nat, k ≤ 32 ∧ 32 - k ≤ g ∧ s4 = .int .i64 k ∧ wr.heap[G + 1]? = some (.cells ((l.take k ++ z32.drop k).map bc).toArray 26 (0, 0)) ∧ wr.heap[G]? = some (.cells (z32.map bc).toArray 26 (0, 0)) ∧ Ext w wr)
  case atStart => exact ⟨0, Nat.zero_le _, by omega, rfl, b3', bR, X0⟩
  case round =>
    clear b3 b3' bR e0
    obtain ⟨k, hk, hg, rfl, bk, bR, xr⟩ := hrel
    by_cases hlt : k < 32
    · obtain ⟨p, o, rfl, e1⟩ := G1.out k (by omega)
      have e1 := xr.cell e1
      have hset := fill_set l k hl hlt
      have hlen : ((l.take k ++ z32.drop k).map bc).length = 32 := by rw [List.length_map, List.length_append, List.length_take, List.length_drop]; simp [z32]; omega
      obtain ⟨u, cu⟩ : ∃ u, wr.cell? ⟨G + 1, k, none⟩ = some u := by
        rw [block_cell bk]
        exact ⟨_, by rw [List.getElem?_toArray, List.getElem?_eq_getElem (by omega)]⟩
      have fu := block_free bk k
      have bn := block_setCell bk (i := k) (bc l[k])
      rw [hset] at bn
      have bn := Lib.hid bn
      have bRn := set_other bR (show G ≠ G + 1 by omega) (i := k) (u := bc l[k])
      have xn : Ext w (wr.setCell ⟨G + 1, k, none⟩ (bc l[k])) := xr.setCell (by show _ ≤ G + 1; omega) _
      have bRn := Lib.hid bRn
      clear bk hset hlen
      unfold bc at bn bRn xn
      generalize l[k] = c at *
      go_wp2
      go_roundg (32 - (k + 1))
      case measure => omega
      case rel => exact ⟨k + 1, by omega, by omega, by go_num, bn.out, bRn.out, xn⟩
    · obtain rfl : k = 32 := by omega
      have eT : l.take 32 ++ z32.drop 32 = l := by rw [List.take_of_length_le (by omega)]; simp [z32]
      rw [eT] at bk
      go_wp2_with (first
        | ((with_reducible refine at_load 26 (.tmp 3) ?_); refine wpl_load (by rfl) 26 (.tmp 3) rfl (G + 1) (by rfl) 26 (l.map bc).toArray (0, 0) _ bk Try.underlying26 rfl (id_size hl) ?_)
        | ((with_reducible refine at_store 26 (.tmp 2) (.tmp 15) ?_); refine wpl_store (by rfl) 26 (.tmp 2) (.tmp 15) rfl G (l.map bc).toArray (by rfl) (by rfl) 26 _ bR (id_size hl) (id_same rfl hl) (id_one _) ?_))
      have hfin : (wr.setRow G (l.map bc).toArray).heap[G]? = some (.cells (l.map bc).toArray 26 (0, 0)) := setRow_heap _ _ _ _ _ _ bR
      exact bodyPost_ret (results_cell_row rfl _ _ G _ _ _ _ (by rfl) hfin Try.underlying26 rfl (id_size hl)) rfl ⟨rfl, xr.grown grown_setRow' (fun k hk => by simp at hk; omega)⟩
end Go.Proofs.Ytcdlmappcbbacaa
