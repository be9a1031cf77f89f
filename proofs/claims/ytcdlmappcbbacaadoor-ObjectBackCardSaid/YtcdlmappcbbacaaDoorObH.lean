/- Bytes copied into an array; the walks of object's reader: id, text. -/
import Derived.Test.YtcdlmappcbbacaaDoorObB
import Derived.Test.YtcdlmappcbbacaaDoorRegS
import Derived.Laws.CopyRow
import Derived.Laws.IdiomCopy
import Derived.Lib.SlBuf
namespace Go.Proofs.YtcdlmappcbbacaaDoor
open Go.RowKit
set_option linter.unusedVariables false
set_option linter.unusedSimpArgs false

theorem grown_setRow' {w : World} {g : Nat} {cs : Array Value} : w.grownBy (w.setRow g cs) (some g) :=
  ⟨rfl, rfl, rfl, by simp [World.setRow], fun k _ hne => setRow_other w g k cs (fun e => hne (by rw [e]))⟩
/-- 'copy(a[:], s)': bytes into an array's block. -/
theorem copy_bytes {P : Program} (w : World) (dT sT ty e : TypeId) (hu : P.underlying dT = some (.slice e)) (hs : (P.info? e).map (·.size) = some 1) (H n : Nat) (cur : List UInt8) (T : TypeId)
    (hg : w.heap[H]? = some (.cells (cur.map bc).toArray T (0, 0))) (hc : cur.length = n) (v : Value) (t : List UInt8) (h : IsB w v t) (ht : t.length ≤ n) :
    ∃ w', (Builtin.copy_ #[dT, sT] ty #[.slice (some ⟨H, 0, none⟩) n n, v]).run P w = .ok (goInt t.length) w' ∧ w'.heap[H]? = some (.cells ((t ++ cur.drop t.length).map bc).toArray T (0, 0)) ∧ w.grownBy w' (some H) := by
  obtain ⟨_, ao, cap, rfl, h2, h3, h4, h5⟩ := h
  by_cases h0 : t = []
  · subst h0
    have hrun := run_copy_none (P := P) w dT sT ty e (some ⟨H, 0, none⟩) ao n n 0 cap hu hs (Nat.zero_min _)
    exact ⟨w, hrun, by simpa using hg, World.grownBy.refl _ _⟩
  · have hpos : 0 < t.length := List.length_pos_iff.2 h0
    obtain ⟨b, off, rfl, _⟩ := h5 0 (by simpa using hpos)
    have hsrc : ∀ j v, (t.map bc)[j]? = some v → w.cell? ((⟨b, off, none⟩ : Addr).add j) = some v := fun j v hj => lies_news h5 rfl j v hj
    have hrun := run_copy_row (P := P) w dT sT ty e H 0 n n ⟨b, off, none⟩ t.length cap (cur.map bc).toArray T (t.map bc) hu hs hg (by rw [List.length_map]; exact (Nat.min_eq_left ht).symm) hsrc (by simp; omega) (bc_one t)
    rw [List.length_map] at hrun
    refine ⟨_, hrun, ?_, grown_setRow'⟩
    rw [setRow_heap _ _ _ _ _ _ hg]
    simp [List.map_drop]

/-- Bytes filled up to a digest. -/
def padId (t : List UInt8) : List UInt8 := t ++ z32.drop t.length
theorem padId_len {t : List UInt8} (h : t.length ≤ 32) : (padId t).length = 32 := by
  unfold padId z32
  simp
  omega

set_option maxHeartbeats 4000000 in
set_option maxRecDepth 100000 in
theorem rdId (w : World) (g : Nat) (l : List UInt8) (at_ : Nat) (err : Int) (h : IsRd w g l at_ err) :
    Calls Tryd.prog 32 #[.agg #[.pointer (some ⟨g, 0, none⟩)]] w fun e w' => e = .returned (.agg ((padId (rTake l at_ err 32)).map bc).toArray) ∧ IsRd w' g l (rNext l at_ err 32).1 (rNext l at_ err 32).2 ∧ w.grownBy w' (some g) := by
  have hglt : g < w.heap.size := by obtain ⟨_, _, _, hgb, _, _⟩ := h; exact block_lt hgb
  go_enter Tryd.func32, Tryd.ntmps32
  go_wp2_with fail
  have X0 : Ext w (((w.alloc (.cells #[.pointer (some ⟨g, 0, none⟩)] 60)).alloc (.cells (z32.map bc).toArray 25)).alloc (.cells (z32.map bc).toArray 25)) := (((Ext.refl w).alloc _).alloc _).alloc _
  have b1 := blk_old (o := .cells (z32.map bc).toArray 25) (blk_old (o := .cells (z32.map bc).toArray 25) (heap_alloc_new w (.cells #[.pointer (some ⟨g, 0, none⟩)] 60)))
  have b2 := blk_old (o := .cells (z32.map bc).toArray 25) (blk_new (w := w.alloc (.cells #[.pointer (some ⟨g, 0, none⟩)] 60)) (b := w.heap.size + 1) (o := .cells (z32.map bc).toArray 25) (by simp))
  have b3 := blk_new (w := (w.alloc (.cells #[.pointer (some ⟨g, 0, none⟩)] 60)).alloc (.cells (z32.map bc).toArray 25)) (b := w.heap.size + 2) (o := .cells (z32.map bc).toArray 25) (by simp)
  have hr := h.ext X0
  have hgr : w.grownBy (((w.alloc (.cells #[.pointer (some ⟨g, 0, none⟩)] 60)).alloc (.cells (z32.map bc).toArray 25)).alloc (.cells (z32.map bc).toArray 25)) (some g) := ext_grown X0 _
  clear h X0
  generalize hG : w.heap.size = G at *
  change Code.wp _ _ _ _ (((w.alloc (.cells #[.pointer (some ⟨g, 0, none⟩)] 60)).alloc (.cells (z32.map bc).toArray 25)).alloc (.cells (z32.map bc).toArray 25))
  generalize ((w.alloc (.cells #[.pointer (some ⟨g, 0, none⟩)] 60)).alloc (.cells (z32.map bc).toArray 25)).alloc (.cells (z32.map bc).toArray 25) = w0 at *
  have cb : w0.cell? ⟨G, 0, none⟩ = some (.pointer (some ⟨g, 0, none⟩)) := by rw [block_cell b1]; rfl
  refine wp_region_S (fun v => v.cell? ⟨G, 0, none⟩ = some (.pointer (some ⟨g, 0, none⟩))) (by kernel_rfl) (fun w' h => h.cell cb) fun wd hqd xd hHeld => ?_
  refine wpAnyH_take (i := 0) (v := ?va0) rfl (by kernel_rfl) (by kernel_rfl) (by kernel_rfl) (fun _ _ _ h => h) (Or.inl ⟨by rfl, ?hya0⟩) hHeld ?_
  case hya0 => (intro w hSw; go_simp; try with_reducible rfl)
  simp only [Act.put, List.setIfInBounds_toArray, List.set_cons_zero, List.set_cons_succ, List.getElem_toArray, List.getElem_cons_zero, List.getElem_cons_succ]
  refine wpAnyH_take (i := 1) (v := ?va1) rfl (by kernel_rfl) (by kernel_rfl) (by kernel_rfl) (fun _ _ _ h => h) (Or.inl ⟨by rfl, ?hya1⟩) hHeld ?_
  case hya1 => (intro w hSw; go_simp; try with_reducible rfl)
  simp only [Act.put, List.setIfInBounds_toArray, List.set_cons_zero, List.set_cons_succ, List.getElem_toArray, List.getElem_cons_zero, List.getElem_cons_succ]
  refine wpAnyH_take (i := 2) (v := ?va2) rfl (by kernel_rfl) (by kernel_rfl) (by kernel_rfl) (fun _ _ _ h => h) (Or.inl ⟨by rfl, ?hya2⟩) hHeld ?_
  case hya2 => (intro w hSw; go_simp; try with_reducible rfl)
  simp only [Act.put, List.setIfInBounds_toArray, List.set_cons_zero, List.set_cons_succ, List.getElem_toArray, List.getElem_cons_zero, List.getElem_cons_succ]
  refine wpAnyH_all (rs := [3]) (by kernel_rfl) (by simp) ?_
  intro i hi; obtain rfl : i = 3 := by simpa using hi
  refine wpOp_run rfl (by rfl) ?_
  go_simp
  refine Calls.mono (octetRawO _ g l at_ err 32 (hr.ext xd) (by omega)) ?_
  rintro e w1 ⟨v1, rfl, own1, hr1, hg1⟩
  have hHeld := (hg1.cell hHeld (by simp; omega))
  refine ⟨hHeld, ?_⟩
  try simp only [Act.put, List.setIfInBounds_toArray, List.set_cons_zero, List.set_cons_succ, List.getElem_toArray, List.getElem_cons_zero, List.getElem_cons_succ]
  refine wpAnyH_all (rs := [4]) (by kernel_rfl) (by simp) ?_
  intro i hi; obtain rfl : i = 4 := by simpa using hi
  obtain ⟨w2, hcp, hb2, hg2⟩ := copy_bytes (P := Tryd.prog) w1 22 22 3 5 Tryd.underlying22 (by kernel_rfl) (G + 2) 32 z32 25 (grown_other (grown_trans (ext_grown xd (some g)) hg1) b3 (by omega)) rfl v1 _ (IsB.of_owns own1) (rTake_len l at_ err 32)
  refine wpOp_run rfl (by rfl) ?_
  refine Lib.wp_copy_run _ (.tmp 4) (.tmp 7) _ _ rfl _ _ rfl rfl hcp ?_
  have hHeld := (hg2.cell hHeld (by simp))
  refine ⟨hHeld, ?_⟩
  try simp only [Act.put, List.setIfInBounds_toArray, List.set_cons_zero, List.set_cons_succ, List.getElem_toArray, List.getElem_cons_zero, List.getElem_cons_succ]
  refine wpAnyH_done (by kernel_rfl) ?_ _
  refine NoPanic.normal ?_
  have hpl : (padId (rTake l at_ err 32)).length = 32 := padId_len (rTake_len l at_ err 32)
  have hb2' : w2.heap[G + 1 + 1]? = some (.cells ((padId (rTake l at_ err 32)).map bc).toArray 25 (0, 0)) := hb2
  have hk1 : w2.heap[G + 1]? = some (.cells (z32.map bc).toArray 25 (0, 0)) := grown_other hg2 (grown_other (grown_trans (ext_grown xd (some g)) hg1) b2 (by omega)) (by omega)
  have hr2 : IsRd w2 g l (rNext l at_ err 32).1 (rNext l at_ err 32).2 := hr1.later hg2 (by omega)
  have hg12 : w0.grownBy w1 (some g) := grown_trans (ext_grown xd (some g)) hg1
  have hgw : w.grownBy w1 (some g) := grown_trans hgr hg12
  generalize hQ : padId (rTake l at_ err 32) = Q at *
  have HQ := Lib.hid hQ
  clear hQ
  clear hHeld hcp hb2 b1 b2 b3 cb
  go_wp2_with (first
    | ((with_reducible refine at_load 25 (.tmp 3) ?_); refine wpl_load (by rfl) 25 (.tmp 3) rfl (G + 1 + 1) (by rfl) 25 (Q.map bc).toArray (0, 0) _ hb2' Tryd.underlying25 rfl (id_size hpl) ?_)
    | ((with_reducible refine at_store 25 (.tmp 2) (.tmp 9) ?_); refine wpl_store (by rfl) 25 (.tmp 2) (.tmp 9) rfl (G + 1) (Q.map bc).toArray (by rfl) (by rfl) 25 _ hk1 (id_size hpl) (id_same rfl hpl) (id_one _) ?_))
  have hfin : (w2.setRow (G + 1) (Q.map bc).toArray).heap[G + 1]? = some (.cells (Q.map bc).toArray 25 (0, 0)) := setRow_heap _ _ _ _ _ _ hk1
  refine bodyPost_ret (results_cell_row rfl _ _ (G + 1) _ _ _ _ (by rfl) hfin Tryd.underlying25 rfl (id_size hpl)) rfl ⟨by rw [HQ.out], hr2.later grown_setRow' (by omega), ?_⟩
  have e1 := hgw.size
  refine ⟨hg2.os.trans hgw.os, ?_, ?_, ?_, ?_⟩
  · exact hg2.tape.trans hgw.tape
  · exact hg2.output.trans hgw.output
  · have := hg2.size; simp [World.setRow]; omega
  · intro k hk hne
    rw [setRow_other w2 (G + 1) k _ (by omega), hg2.block k (by omega) (by simp; omega)]
    exact hgw.block k hk hne

/-- A text of a reader: its length, then its bytes. -/
def tTake (l : List UInt8) (at_ : Nat) (err : Int) : List UInt8 := rTake l (rNext l at_ err 1).1 (rNext l at_ err 1).2 (num (rTake l at_ err 1) : Int)
def tNext (l : List UInt8) (at_ : Nat) (err : Int) : Nat × Int := rNext l (rNext l at_ err 1).1 (rNext l at_ err 1).2 (num (rTake l at_ err 1) : Int)

set_option maxHeartbeats 4000000 in
set_option maxRecDepth 100000 in
theorem rdText (w : World) (g : Nat) (l : List UInt8) (at_ : Nat) (err : Int) (h : IsRd w g l at_ err) :
    Calls Tryd.prog 31 #[.agg #[.pointer (some ⟨g, 0, none⟩)]] w fun e w' => e = .returned (.string ⟨(tTake l at_ err).toArray⟩) ∧ IsRd w' g l (tNext l at_ err).1 (tNext l at_ err).2 ∧ w.grownBy w' (some g) := by
  have hglt : g < w.heap.size := by obtain ⟨_, _, _, hgb, _, _⟩ := h; exact block_lt hgb
  unfold tTake tNext
  have hnb : (num (rTake l at_ err 1) : Int) < 256 := by have := num_small (rTake l at_ err 1) 1 (by simpa using rTake_len l at_ err 1); omega
  have hn0 : (0 : Int) ≤ (num (rTake l at_ err 1) : Int) := Int.natCast_nonneg _
  have hU := fun w h => octetU8 w g l at_ err h
  generalize hP : rNext l at_ err 1 = P at *
  generalize (num (rTake l at_ err 1) : Int) = n at *
  obtain ⟨a1, e1⟩ := P
  have hwn : IntKind.i64.wrap n = n := IntWalk.i64_in _ (by omega)
  have HP := Lib.hid hP
  clear hP
  go_enter Tryd.func31, Tryd.ntmps31
  go_wp2_with fail
  have X0 : Ext w (w.alloc (.cells #[.pointer (some ⟨g, 0, none⟩)] 60)) := (Ext.refl w).alloc _
  have b1 := heap_alloc_new w (.cells #[.pointer (some ⟨g, 0, none⟩)] 60)
  have hr := h.ext X0
  generalize hG : w.heap.size = G at *
  generalize w.alloc (.cells #[.pointer (some ⟨g, 0, none⟩)] 60) = w0 at *
  have cb : w0.cell? ⟨G, 0, none⟩ = some (.pointer (some ⟨g, 0, none⟩)) := by rw [block_cell b1]; rfl
  refine wp_region_S (fun v => v.cell? ⟨G, 0, none⟩ = some (.pointer (some ⟨g, 0, none⟩))) (by kernel_rfl) (fun w' h => h.cell cb) fun wd hqd xd hHeld => ?_
  refine wpAnyH_take (i := 0) (v := ?vb0) rfl (by kernel_rfl) (by kernel_rfl) (by kernel_rfl) (fun _ _ _ h => h) (Or.inl ⟨by rfl, ?hyb0⟩) hHeld ?_
  case hyb0 => (intro w hSw; go_simp; try with_reducible rfl)
  simp only [Act.put, List.setIfInBounds_toArray, List.set_cons_zero, List.set_cons_succ, List.getElem_toArray, List.getElem_cons_zero, List.getElem_cons_succ]
  refine wpAnyH_take (i := 1) (v := ?vb1) rfl (by kernel_rfl) (by kernel_rfl) (by kernel_rfl) (fun _ _ _ h => h) (Or.inl ⟨by rfl, ?hyb1⟩) hHeld ?_
  case hyb1 => (intro w hSw; go_simp; try with_reducible rfl)
  simp only [Act.put, List.setIfInBounds_toArray, List.set_cons_zero, List.set_cons_succ, List.getElem_toArray, List.getElem_cons_zero, List.getElem_cons_succ]
  refine wpAnyH_take (i := 2) (v := ?vb2) rfl (by kernel_rfl) (by kernel_rfl) (by kernel_rfl) (fun _ _ _ h => h) (Or.inl ⟨by rfl, ?hyb2⟩) hHeld ?_
  case hyb2 => (intro w hSw; go_simp; try with_reducible rfl)
  simp only [Act.put, List.setIfInBounds_toArray, List.set_cons_zero, List.set_cons_succ, List.getElem_toArray, List.getElem_cons_zero, List.getElem_cons_succ]
  refine wpAnyH_take (i := 3) (v := ?vb3) rfl (by kernel_rfl) (by kernel_rfl) (by kernel_rfl) (fun _ _ _ h => h) (Or.inl ⟨by rfl, ?hyb3⟩) hHeld ?_
  case hyb3 => (intro w hSw; go_simp; try with_reducible rfl)
  simp only [Act.put, List.setIfInBounds_toArray, List.set_cons_zero, List.set_cons_succ, List.getElem_toArray, List.getElem_cons_zero, List.getElem_cons_succ]
  refine wpAnyH_all (rs := [4]) (by kernel_rfl) (by simp) ?_
  intro i hi; obtain rfl : i = 4 := by simpa using hi
  refine wpOp_run rfl (by rfl) ?_
  go_simp
  refine Calls.mono (hU _ (hr.ext xd)) ?_
  rintro e w1 ⟨rfl, hr1, hg1⟩
  have hHeld := (hg1.cell hHeld (by simp; omega))
  refine ⟨hHeld, ?_⟩
  try simp only [Act.put, List.setIfInBounds_toArray, List.set_cons_zero, List.set_cons_succ, List.getElem_toArray, List.getElem_cons_zero, List.getElem_cons_succ]
  refine wpAnyH_take (i := 5) (v := ?vb5) rfl (by kernel_rfl) (by kernel_rfl) (by kernel_rfl) (fun _ _ _ h => h) (Or.inl ⟨by rfl, ?hyb5⟩) hHeld ?_
  case hyb5 => (intro w hSw; go_simp; try with_reducible rfl)
  simp only [Act.put, List.setIfInBounds_toArray, List.set_cons_zero, List.set_cons_succ, List.getElem_toArray, List.getElem_cons_zero, List.getElem_cons_succ]
  refine wpAnyH_all (rs := [6]) (by kernel_rfl) (by simp) ?_
  intro i hi; obtain rfl : i = 6 := by simpa using hi
  refine wpOp_run rfl (by rfl) ?_
  go_simp
  refine Calls.mono (octetRawO _ g l a1 e1 n hr1 (by omega)) ?_
  rintro e w2 ⟨v2, rfl, own2, hr2, hg2⟩
  have hcv := conv_str (P := Tryd.prog) (IsB.of_owns own2) 22 9 5 Tryd.underlying22 Tryd.underlying5 Tryd.underlying9
  have hHeld := (hg2.cell hHeld (by simp; omega))
  refine ⟨hHeld, ?_⟩
  try simp only [Act.put, List.setIfInBounds_toArray, List.set_cons_zero, List.set_cons_succ, List.getElem_toArray, List.getElem_cons_zero, List.getElem_cons_succ]
  refine wpAnyH_all (rs := [7]) (by kernel_rfl) (by simp) ?_
  intro i hi; obtain rfl : i = 7 := by simpa using hi
  refine wpOp_run rfl (by rfl) ?_
  go_simp
  try refine And.intro hHeld ?_
  try simp only [Act.put, List.setIfInBounds_toArray, List.set_cons_zero, List.set_cons_succ, List.getElem_toArray, List.getElem_cons_zero, List.getElem_cons_succ]
  refine wpAnyH_take (i := 8) (v := ?vb8) rfl (by kernel_rfl) (by kernel_rfl) (by kernel_rfl) (fun _ _ _ h => h) (Or.inl ⟨by rfl, ?hyb8⟩) hHeld ?_
  case hyb8 => (intro w hSw; go_simp; try with_reducible rfl)
  simp only [Act.put, List.setIfInBounds_toArray, List.set_cons_zero, List.set_cons_succ, List.getElem_toArray, List.getElem_cons_zero, List.getElem_cons_succ]
  refine wpAnyH_done (by kernel_rfl) ?_ _
  refine NoPanic.normal ?_
  go_wp2_with fail
  go_ret
  exact ⟨rfl, hr2, grown_trans (ext_grown X0 (some g)) (grown_trans (ext_grown xd (some g)) (grown_trans hg1 hg2))⟩
end Go.Proofs.YtcdlmappcbbacaaDoor
