/- The walk of object.Decode. -/
import Derived.Test.YtcdlmappcbbacaaDoorObI
namespace Go.Proofs.YtcdlmappcbbacaaDoor
open Go.RowKit
set_option linter.unusedVariables false
set_option linter.unusedSimpArgs false

/-- What a decoder hands back: an object in the row of cells, an error. -/
def DecEnd (P : ObjL × Int) (w : World) (e : Ending) (w' : World) : Prop := ∃ QR vb ve vp, e = .returned (.tuple #[.agg QR, .int .i64 P.2]) ∧ IsObj w' QR vb ve vp P.1 ∧ Ext w w'
theorem zObj_ok (k : Int) (h : -9223372036854775808 ≤ k ∧ k ≤ 9223372036854775807) : ObjOk (zObj k) :=
  ⟨h, by simp [zObj], by simp [zObj], by simp [zObj], rfl, by simp [zObj], by simp [zObj], by simp [zObj], Nat.zero_le _⟩
theorem zObj_is (w : World) (k : Int) (h : -9223372036854775808 ≤ k ∧ k ≤ 9223372036854775807) : IsObj w (objC (.slice none 0 0) (.slice none 0 0) (.slice none 0 0) (zObj k)).toArray (.slice none 0 0) (.slice none 0 0) (.slice none 0 0) (zObj k) :=
  ⟨rfl, zObj_ok k h, IsSl.nil _ _, IsSl.nil _ _, IsSl.nil _ _⟩
theorem toExtKeep {w : World} {g : Nat} {x : Obj} (h : w.heap[g]? = some x) : ∀ q, (w.drewN q).heap[g]? = some x := fun q => ((Ext.refl w).drewN q).keeps h
/-- A slice's row lies in no block R. -/
def Off (v : Value) (R : Nat) : Prop := ∀ b off sp n c, v = .slice (some ⟨b, off, sp⟩) n c → b ≠ R
theorem Off.nil (R n c : Nat) : Off (.slice none n c) R := fun b off sp m d q => by simp at q
theorem Off.own {w : World} {base : Nat} {e : TypeId} {size : Nat} {v : Value} {n : Nat} {xs : List Value} (h : w.ownsRow base e size v n xs) {R : Nat} (hR : R < base) : Off v R := fun b off sp m c q => by
  subst q
  have := (h.lt b rfl).1
  omega
theorem _root_.Go.Proofs.YtcdlmappcbbacaaDoor.IsSl.other {w w' : World} {v : Value} {size n : Nat} {xs : List Value} (h : IsSl w v size n xs) {r : Nat} (k : w.grownBy w' (some r)) (hr : Off v r) : IsSl w' v size n xs := by
  obtain ⟨h1, ao, cap, e, h2, h3, h4, h5⟩ := h
  refine ⟨h1, ao, cap, e, h2, h3, h4, fun i hi => ?_⟩
  obtain ⟨b, off, e1, e2⟩ := h5 i hi
  have hb := hr b off none n cap (by rw [e, e1])
  refine ⟨b, off, e1, ?_⟩
  rw [List.getElem?_eq_getElem hi] at e2 ⊢
  exact k.cell e2 (by simpa using hb)
theorem _root_.Go.Proofs.YtcdlmappcbbacaaDoor.IsB.other {w w' : World} {v : Value} {l : List UInt8} (h : IsB w v l) {r : Nat} (k : w.grownBy w' (some r)) (hr : Off v r) : IsB w' v l := IsSl.other h k hr

set_option maxHeartbeats 8000000 in
set_option maxRecDepth 100000 in
theorem objDecode1 (w : World) (v : Value) (l : List UInt8) (h : IsB w v l) (hb : l.length ≤ 140737488355328) (hk : rN l (0, 0) 1 = 1) :
    Calls Tryd.prog 15 #[v] w (DecEnd (decP l) w) := by
  obtain ⟨s1, hs1⟩ : ∃ s, rS l (0, 0) 1 = s := ⟨_, rfl⟩
  obtain ⟨s2, hs2⟩ : ∃ s, rS l s1 2 = s := ⟨_, rfl⟩
  obtain ⟨n, hn⟩ : ∃ n : Int, (num (rTake l s1.1 s1.2 2) : Int) = n := ⟨_, rfl⟩
  have hn16 : 0 ≤ n ∧ n < 65536 := by rw [← hn]; have := num_small (rTake l s1.1 s1.2 2) 2 (by simpa using rTake_len l s1.1 s1.2 2); omega
  obtain ⟨bs, hbs⟩ : ∃ b, rTake l s2.1 s2.2 n = b := ⟨_, rfl⟩
  obtain ⟨st, hst⟩ : ∃ s, rS l s2 n = s := ⟨_, rfl⟩
  have hHD : decP l = (if st.2 ≠ 0 then (zObj 0, 7) else if ((l.length : Int) - st.1 > 0 || !true || !checkB { zObj 1 with bytes := bs }) = true then (zObj 0, 150) else ({ zObj 1 with bytes := bs }, 0)) := by
    have hrN : (rN l s1 2 : Int) = n := hn
    unfold decP
    have hr : readP l = ({ zObj 1 with bytes := bs }, st, true) := by unfold readP; simp only [hk, if_true, hs1, hs2, hrN, hbs, hst]
    simp only [hk, hr]
    rw [if_neg (by simp)]
  have HDP := Lib.hid hHD
  have hbl : bs.length ≤ 140737488355328 := by rw [← hbs]; exact Nat.le_trans (rTake_le _ _ _ _) hb
  have HN := Lib.hid hn
  have hwn : IntKind.i64.wrap n = n := IntWalk.i64_in _ (by omega)
  clear hHD
  have hzi : (Tryd.prog.info? 29).map (·.size) = some 38 := obj_info
  go_enter Tryd.func15, Tryd.ntmps15
  go_wp2_with fail
  have X0 : Ext w (w.alloc (.cells (objC (.slice none 0 0) (.slice none 0 0) (.slice none 0 0) (zObj 0)).toArray 29)) := (Ext.refl w).alloc _
  have bR := heap_alloc_new w (.cells (objC (.slice none 0 0) (.slice none 0 0) (.slice none 0 0) (zObj 0)).toArray 29)
  refine Calls.mono (octetRead _ v l (h.ext X0) hb) ?_
  rintro e w1 ⟨g, rfl, hg1, hr1, x1⟩
  have bR := x1.keeps bR
  have X1 := X0.trans x1
  have hgR : w.heap.size < g := by have := block_lt (heap_alloc_new w (.cells (objC (.slice none 0 0) (.slice none 0 0) (.slice none 0 0) (zObj 0)).toArray 29)); exact Nat.lt_of_lt_of_le this hg1
  have hgw : g < w1.heap.size := by obtain ⟨_, _, _, hgb, _, _⟩ := hr1; exact block_lt hgb
  generalize hR : w.heap.size = R at *
  clear X0 x1
  go_wp2_with fail
  have b4 := heap_alloc_new w1 (.cells #[.pointer (some ⟨g, 0, none⟩)] 60)
  have bR := blk_old (o := .cells #[.pointer (some ⟨g, 0, none⟩)] 60) bR
  have hr1 := hr1.ext ((Ext.refl w1).alloc (.cells #[.pointer (some ⟨g, 0, none⟩)] 60))
  have X1 := X1.alloc (.cells #[.pointer (some ⟨g, 0, none⟩)] 60)
  generalize hH4 : w1.heap.size = H4 at *
  generalize w1.alloc (.cells #[.pointer (some ⟨g, 0, none⟩)] 60) = w1 at *
  have hRw := hR
  refine Calls.mono (octetU8 _ g l 0 0 hr1) ?_
  rintro e w2 ⟨rfl, hr2, hg2⟩
  have X2 : Ext w w2 := X1.grown hg2 (fun k hk => by simp at hk; omega)
  have b4 := grown_other hg2 b4 (by omega)
  have bR := grown_other hg2 bR (by omega)
  have hk' : (num (rTake l 0 0 1) : Int) = 1 := by have : num (rTake l 0 0 1) = 1 := hk; omega
  rw [hk']
  clear hk' hg2 hr1 X1
  have hnl : rNext l 0 0 1 = rS l (0, 0) 1 := rfl
  rw [hnl] at hr2
  clear hnl
  have c50 := (obj_at (heap_alloc_new w2 (.cells (objC (.slice none 0 0) (.slice none 0 0) (.slice none 0 0) (zObj 1)).toArray 29)) rfl (zObj_ok 1 (by omega))).c0
  rw [show (zObj 1).kind = 1 from rfl] at c50
  go_wp2_with (first
    | ((with_reducible refine at_store 29 (.tmp 5) (.tmp 16) ?_); refine wpl_store (by rfl) 29 (.tmp 5) (.tmp 16) rfl w2.heap.size (objC (.slice none 0 0) (.slice none 0 0) (.slice none 0 0) (zObj 1)).toArray (by rfl) (by rfl) 29 _ (heap_alloc_new _ _) (by kernel_rfl) (by rfl) (zObj_is w 1 (by omega)).one ?_; rw [World.setRow_alloc_new]))
  have X3 := X2.alloc (.cells (objC (.slice none 0 0) (.slice none 0 0) (.slice none 0 0) (zObj 1)).toArray 29)
  have b5 := heap_alloc_new w2 (.cells (objC (.slice none 0 0) (.slice none 0 0) (.slice none 0 0) (zObj 1)).toArray 29)
  have b4 := blk_old (o := .cells (objC (.slice none 0 0) (.slice none 0 0) (.slice none 0 0) (zObj 1)).toArray 29) b4
  have bR := blk_old (o := .cells (objC (.slice none 0 0) (.slice none 0 0) (.slice none 0 0) (zObj 1)).toArray 29) bR
  have hr3 := hr2.ext ((Ext.refl w2).alloc (.cells (objC (.slice none 0 0) (.slice none 0 0) (.slice none 0 0) (zObj 1)).toArray 29))
  have hH45 : H4 < w2.heap.size := block_lt (by assumption : w2.heap[H4]? = _)
  rw [hs1] at hr3
  clear hr2
  generalize hH5 : w2.heap.size = H5 at *
  change Code.wp _ _ _ _ (w2.alloc (.cells (objC (.slice none 0 0) (.slice none 0 0) (.slice none 0 0) (zObj 1)).toArray 29))
  generalize w2.alloc (.cells (objC (.slice none 0 0) (.slice none 0 0) (.slice none 0 0) (zObj 1)).toArray 29) = w3 at *
  have c4 : w3.cell? ⟨H4, 0, none⟩ = some (.pointer (some ⟨g, 0, none⟩)) := by rw [block_cell b4]; rfl
  have hs35 : H5 < w3.heap.size := block_lt b5
  go_wp2_with fail
  refine wp_region_S (fun v => v.cell? ⟨H4, 0, none⟩ = some (.pointer (some ⟨g, 0, none⟩))) (by kernel_rfl) (fun w' h => h.cell c4) fun wd hqd xd hHeld => ?_
  refine wpAnyH_take (i := 0) (v := ?va0) rfl (by kernel_rfl) (by kernel_rfl) (by kernel_rfl) (fun _ _ _ h => h) (Or.inl ⟨by rfl, ?hya0⟩) hHeld ?_
  case hya0 => (intro w hSw; go_simp; try with_reducible rfl)
  simp only [Act.put, List.setIfInBounds_toArray, List.set_cons_zero, List.set_cons_succ, List.getElem_toArray, List.getElem_cons_zero, List.getElem_cons_succ]
  refine wpAnyH_take (i := 1) (v := ?va1) rfl (by kernel_rfl) (by kernel_rfl) (by kernel_rfl) (fun _ _ _ h => h) (Or.inl ⟨by rfl, ?hya1⟩) hHeld ?_
  case hya1 => (intro w hSw; go_simp; try with_reducible rfl)
  simp only [Act.put, List.setIfInBounds_toArray, List.set_cons_zero, List.set_cons_succ, List.getElem_toArray, List.getElem_cons_zero, List.getElem_cons_succ]
  refine wpAnyH_take (i := 2) (v := ?va2) rfl (by kernel_rfl) (by kernel_rfl) (by kernel_rfl) (fun _ _ _ h => h) (Or.inl ⟨by rfl, ?hya2⟩) hHeld ?_
  case hya2 => (intro w hSw; go_simp; try with_reducible rfl)
  simp only [Act.put, List.setIfInBounds_toArray, List.set_cons_zero, List.set_cons_succ, List.getElem_toArray, List.getElem_cons_zero, List.getElem_cons_succ]
  refine wpAnyH_take (i := 3) (v := ?va3) rfl (by kernel_rfl) (by kernel_rfl) (by kernel_rfl) (fun _ _ _ h => h) (Or.inl ⟨by rfl, ?hya3⟩) hHeld ?_
  case hya3 => (intro w hSw; go_simp; try with_reducible rfl)
  simp only [Act.put, List.setIfInBounds_toArray, List.set_cons_zero, List.set_cons_succ, List.getElem_toArray, List.getElem_cons_zero, List.getElem_cons_succ]
  refine wpAnyH_all (rs := [4]) (by kernel_rfl) (by simp) ?_
  intro i hi; obtain rfl : i = 4 := by simpa using hi
  refine wpOp_run rfl (by rfl) ?_
  go_simp
  refine Calls.mono (octetU16 _ g l s1.1 s1.2 (hr3.ext xd)) ?_
  rintro e w4 ⟨rfl, hr4, hg4⟩
  rw [HN.out]
  have hr4 : IsRd w4 g l s2.1 s2.2 := by have e : rNext l s1.1 s1.2 2 = s2 := hs2; rw [e] at hr4; exact hr4
  have hHeld := (hg4.cell hHeld (by simp; omega))
  refine ⟨hHeld, ?_⟩
  try simp only [Act.put, List.setIfInBounds_toArray, List.set_cons_zero, List.set_cons_succ, List.getElem_toArray, List.getElem_cons_zero, List.getElem_cons_succ]
  refine wpAnyH_take (i := 5) (v := ?va5) rfl (by kernel_rfl) (by kernel_rfl) (by kernel_rfl) (fun _ _ _ h => h) (Or.inl ⟨by rfl, ?hya5⟩) hHeld ?_
  case hya5 => (intro w hSw; go_simp; try with_reducible rfl)
  simp only [Act.put, List.setIfInBounds_toArray, List.set_cons_zero, List.set_cons_succ, List.getElem_toArray, List.getElem_cons_zero, List.getElem_cons_succ]
  refine wpAnyH_all (rs := [6]) (by kernel_rfl) (by simp) ?_
  intro i hi; obtain rfl : i = 6 := by simpa using hi
  refine wpOp_run rfl (by rfl) ?_
  go_simp
  refine Calls.mono (octetRawO _ g l s2.1 s2.2 n hr4 (by omega)) ?_
  rintro e w5 ⟨vb, rfl, own5, hr5, hg5⟩
  obtain ⟨ab, cb, rfl⟩ := sl_len (IsSl.of_owns own5)
  have hg35 : w3.grownBy w5 (some g) := grown_trans (ext_grown xd (some g)) (grown_trans hg4 hg5)
  have b5 := grown_other hg35 b5 (by omega)
  have b4 := grown_other hg35 b4 (by omega)
  have bR := grown_other hg35 bR (by omega)
  have c51 : w5.cell? ⟨H5, 1, none⟩ = some (.slice none 0 0) := (obj_at b5 rfl (zObj_ok 1 (by omega))).c1
  have f51 := block_free b5 1
  have hHeld := (hg5.cell hHeld (by simp; omega))
  refine ⟨hHeld, ?_⟩
  try simp only [Act.put, List.setIfInBounds_toArray, List.set_cons_zero, List.set_cons_succ, List.getElem_toArray, List.getElem_cons_zero, List.getElem_cons_succ]
  refine wpAnyH_take (i := 7) (v := ?va7) rfl (by kernel_rfl) (by kernel_rfl) (by kernel_rfl) (fun _ _ _ h => h) (Or.inl ⟨by rfl, ?hya7⟩) hHeld ?_
  case hya7 => (intro w hSw; go_simp; try with_reducible rfl)
  simp only [Act.put, List.setIfInBounds_toArray, List.set_cons_zero, List.set_cons_succ, List.getElem_toArray, List.getElem_cons_zero, List.getElem_cons_succ]
  refine wpAnyH_all (rs := [8]) (by kernel_rfl) (by simp) ?_
  intro i hi; obtain rfl : i = 8 := by simpa using hi
  refine wpOp_run rfl (by rfl) ?_
  go_simp
  try refine And.intro hHeld ?_
  try simp only [Act.put, List.setIfInBounds_toArray, List.set_cons_zero, List.set_cons_succ, List.getElem_toArray, List.getElem_cons_zero, List.getElem_cons_succ]
  refine wpAnyH_done (by kernel_rfl) ?_ _
  refine NoPanic.normal ?_
  have hbs' : rTake l s2.1 s2.2 n = bs := hbs
  have ho : ObjOk { zObj 1 with bytes := bs } := ⟨by simp [zObj], hbl, by simp [zObj], by simp [zObj], rfl, by simp [zObj], by simp [zObj], by simp [zObj], Nat.zero_le _⟩
  have own5 : w5.ownsRow w4.heap.size 5 1 (.slice ab bs.length cb) bs.length (bs.map bc) := by have h := own5; rw [hbs'] at h; exact h
  have hr5 : IsRd w5 g l st.1 st.2 := by have e : rNext l s2.1 s2.2 n = st := hst; rw [e] at hr5; exact hr5
  have hH5w : H5 < w4.heap.size := Nat.lt_of_lt_of_le hs35 (Nat.le_trans xd.size hg4.size)
  have hgr : w5.grownBy (w5.setCell ⟨H5, 1, none⟩ (.slice ab bs.length cb)) (some H5) := grown_setCell _ _ _ _
  have b5E := block_setCell b5 (i := 1) (.slice ab bs.length cb)
  rw [obj_set1 _ _ _ _ _ bs] at b5E
  have b4E := grown_other hgr b4 (by omega)
  have bRE := grown_other hgr bR (by omega)
  have hrE := hr5.later hgr (by omega)
  have hvb : Off (.slice ab bs.length cb) R := Off.own own5 (by omega)
  have hve : Off (.slice none 0 0) R := Off.nil _ _ _
  have hvp := hve
  have hO : IsObj (w5.setCell ⟨H5, 1, none⟩ (.slice ab bs.length cb)) (objC (.slice ab bs.length cb) (.slice none 0 0) (.slice none 0 0) { zObj 1 with bytes := bs }).toArray (.slice ab bs.length cb) (.slice none 0 0) (.slice none 0 0) { zObj 1 with bytes := bs } :=
    ⟨rfl, ho, (IsB.of_owns own5).other hgr (Off.own own5 hH5w), IsSl.nil _ _, IsSl.nil _ _⟩
  have XE : Ext w (w5.setCell ⟨H5, 1, none⟩ (.slice ab bs.length cb)) := (X3.grown hg35 (fun k hk => by simp at hk; omega)).grown hgr (fun k hk => by simp at hk; omega)
  generalize hvbb : Value.slice ab bs.length cb = vb at *
  have HVB := Lib.hid hvbb
  clear hvbb
  generalize hoo : ({ zObj 1 with bytes := bs } : ObjL) = o at *
  have HOO := Lib.hid hoo
  clear hoo
  generalize (objC vb (.slice none 0 0) (.slice none 0 0) o).toArray = QO at *
  generalize w5.setCell ⟨H5, 1, none⟩ vb = wE at *
  by_cases he : st.2 = 0
  rotate_left
  · have hE : (st.2 != 0) = true := by simpa using he
    have hd : decP l = (zObj 0, 7) := by rw [HDP.out, if_pos he]
    have HD := Lib.hid hd
    have bX := bRE
    have c4 : wE.cell? ⟨H4, 0, none⟩ = some (.pointer (some ⟨g, 0, none⟩)) := by rw [block_cell b4E]; rfl
    clear hd he
    go_wp2_with (first
      | (go_at_call 34; refine Calls.mono (octetErr _ g l st.1 st.2 hrE) ?_; rintro e we ⟨rfl, rfl⟩)
      | ((with_reducible refine at_store 29 (.tmp 2) (.tmp 99) ?_); refine wpl_store (by rfl) 29 (.tmp 2) (.tmp 99) rfl R (objC (.slice none 0 0) (.slice none 0 0) (.slice none 0 0) (zObj 0)).toArray (by rfl) (by rfl) 29 _ bX (by kernel_rfl) (by rfl) (zObj_is w 0 (by omega)).one ?_))
    have hfin : (wE.setRow R (objC (.slice none 0 0) (.slice none 0 0) (.slice none 0 0) (zObj 0)).toArray).heap[R]? = some (.cells (objC (.slice none 0 0) (.slice none 0 0) (.slice none 0 0) (zObj 0)).toArray 29 (0, 0)) := setRow_heap _ _ _ _ _ _ bX
    refine bodyPost_ret (results_cell_tmp rfl _ _ R _ _ _ _ (by rfl) hfin Tryd.underlying29 rfl (by kernel_rfl)) rfl ⟨(objC (.slice none 0 0) (.slice none 0 0) (.slice none 0 0) (zObj 0)).toArray, .slice none 0 0, .slice none 0 0, .slice none 0 0, ?_, ?_, XE.grown grown_setRow' (fun k hk => by simp at hk; omega)⟩
    · rw [HD.out]; rfl
    · rw [HD.out]; exact zObj_is _ 0 (by omega)
  have hrE0 := hrE
  obtain ⟨pa, pe⟩ := st
  simp only at he hrE hrE0
  subst he
  have c4 : wE.cell? ⟨H4, 0, none⟩ = some (.pointer (some ⟨g, 0, none⟩)) := by rw [block_cell b4E]; rfl
  have hpl : pa ≤ l.length := hrE.le
  have hdp := HDP.out
  rw [if_neg (by simp)] at hdp
  have HDP2 := Lib.hid hdp
  clear hdp HDP
  cases hA : decide ((l.length : Int) - pa > 0) with
  | true =>
    have hA1 : (0 : Int) < (l.length : Int) - pa := of_decide_eq_true hA
    obtain ⟨z, hz⟩ : ∃ z, (l.length : Int) - pa = z := ⟨_, rfl⟩
    have hLeft := octetLeft wE g l pa 0 hrE
    rw [hz] at hLeft hA1
    clear hz
    have hd : decP l = (zObj 0, 150) := by rw [HDP2.out, if_pos (by simp only [hA, Bool.true_or])]
    have HD := Lib.hid hd
    clear hd hA
    have bX := toExtKeep bRE
    go_wp2_with (first
      | (go_at_call 34; refine Calls.mono (octetErr _ g l pa 0 hrE) ?_; rintro e we ⟨rfl, rfl⟩)
      | (go_at_call 35; refine Calls.mono hLeft ?_; rintro e we ⟨rfl, q, rfl⟩; have bX := bX q)
      | ((with_reducible refine at_store 29 (.tmp 2) (.tmp 114) ?_); refine wpl_store (by rfl) 29 (.tmp 2) (.tmp 114) rfl R (objC (.slice none 0 0) (.slice none 0 0) (.slice none 0 0) (zObj 0)).toArray (by rfl) (by rfl) 29 _ bX (by kernel_rfl) (by rfl) (zObj_is w 0 (by omega)).one ?_))
    have hfin : ((wE.drewN q).setRow R (objC (.slice none 0 0) (.slice none 0 0) (.slice none 0 0) (zObj 0)).toArray).heap[R]? = some (.cells (objC (.slice none 0 0) (.slice none 0 0) (.slice none 0 0) (zObj 0)).toArray 29 (0, 0)) := setRow_heap _ _ _ _ _ _ bX
    refine bodyPost_ret (results_cell_tmp rfl _ _ R _ _ _ _ (by rfl) hfin Tryd.underlying29 rfl (by kernel_rfl)) rfl ⟨(objC (.slice none 0 0) (.slice none 0 0) (.slice none 0 0) (zObj 0)).toArray, .slice none 0 0, .slice none 0 0, .slice none 0 0, ?_, ?_, (XE.drewN q).grown grown_setRow' (fun k hk => by simp at hk; omega)⟩
    · rw [HD.out]; rfl
    · rw [HD.out]; exact zObj_is _ 0 (by omega)
  | false =>
    have hA1 : ¬ (0 : Int) < (l.length : Int) - pa := of_decide_eq_false hA
    obtain ⟨z, hz⟩ : ∃ z, (l.length : Int) - pa = z := ⟨_, rfl⟩
    have hLeft := octetLeft wE g l pa 0 hrE
    have HA1 := Lib.hid hA1
    rw [hz] at hLeft hA1
    have hA2 : decide ((0 : Int) < z) = false := decide_eq_false hA1
    clear hz hA1
    cases hC : checkB o with
    | false =>
      have hd : decP l = (zObj 0, 150) := by rw [HDP2.out, if_pos (by simp [hC])]
      have HD := Lib.hid hd
      clear hd hA
      have bX := toExtKeep bRE
      go_wp2_with (first
        | (go_at_call 34; refine Calls.mono (octetErr _ g l pa 0 hrE) ?_; rintro e we ⟨rfl, rfl⟩)
        | (go_at_call 35; refine Calls.mono hLeft ?_; rintro e we ⟨rfl, q, rfl⟩; have bX := bX q; have b5q := toExtKeep b5E q; have hOq := hO.ext ((Ext.refl wE).drewN q); have XE := XE.drewN q)
        | ((with_reducible refine at_load 29 (.tmp 5) ?_); refine wpl_load (by rfl) 29 (.tmp 5) rfl H5 (by rfl) 29 QO (0, 0) _ b5q Tryd.underlying29 rfl hO.info ?_)
        | (go_at_call 11; refine Calls.mono (objCheck _ QO vb (.slice none 0 0) (.slice none 0 0) o hOq) ?_; rintro e wc ⟨rfl, xc⟩; rw [hC]; have bX := xc.keeps bX; have XE := XE.trans xc)
        | ((with_reducible refine at_store 29 (.tmp 2) (.tmp 114) ?_); refine wpl_store (by rfl) 29 (.tmp 2) (.tmp 114) rfl R (objC (.slice none 0 0) (.slice none 0 0) (.slice none 0 0) (zObj 0)).toArray (by rfl) (by rfl) 29 _ bX (by kernel_rfl) (by rfl) (zObj_is w 0 (by omega)).one ?_))
      have hfin : (wc.setRow R (objC (.slice none 0 0) (.slice none 0 0) (.slice none 0 0) (zObj 0)).toArray).heap[R]? = some (.cells (objC (.slice none 0 0) (.slice none 0 0) (.slice none 0 0) (zObj 0)).toArray 29 (0, 0)) := setRow_heap _ _ _ _ _ _ bX
      refine bodyPost_ret (results_cell_tmp rfl _ _ R _ _ _ _ (by rfl) hfin Tryd.underlying29 rfl (by kernel_rfl)) rfl ⟨(objC (.slice none 0 0) (.slice none 0 0) (.slice none 0 0) (zObj 0)).toArray, .slice none 0 0, .slice none 0 0, .slice none 0 0, ?_, ?_, XE.grown grown_setRow' (fun k hk => by simp at hk; omega)⟩
      · rw [HD.out]; rfl
      · rw [HD.out]; exact zObj_is _ 0 (by omega)
    | true =>
      have hd : decP l = (o, 0) := by rw [HDP2.out, if_neg (by simp [hC]; have := HA1.out; omega)]
      have HD := Lib.hid hd
      clear hd hA
      have bX := toExtKeep bRE
      go_wp2_with (first
        | (go_at_call 34; refine Calls.mono (octetErr _ g l pa 0 hrE) ?_; rintro e we ⟨rfl, rfl⟩)
        | (go_at_call 35; refine Calls.mono hLeft ?_; rintro e we ⟨rfl, q, rfl⟩; have bX := bX q; have b5q := toExtKeep b5E q; have hOq := hO.ext ((Ext.refl wE).drewN q); have XE := XE.drewN q)
        | ((with_reducible refine at_load 29 (.tmp 5) ?_); refine wpl_load (by rfl) 29 (.tmp 5) rfl H5 (by rfl) 29 QO (0, 0) _ b5q Tryd.underlying29 rfl hO.info ?_)
        | (go_at_call 11; refine Calls.mono (objCheck _ QO vb (.slice none 0 0) (.slice none 0 0) o hOq) ?_; rintro e wc ⟨rfl, xc⟩; rw [hC]; have bX := xc.keeps bX; have b5q := xc.keeps b5q; have hOc := hOq.ext xc; have XE := XE.trans xc)
        | ((with_reducible refine at_store 29 (.tmp 2) (.tmp 115) ?_); refine wpl_store (by rfl) 29 (.tmp 2) (.tmp 115) rfl R QO (by rfl) (by rfl) 29 _ bX hO.info (by rw [hO.size]; rfl) hO.one ?_))
      have hfin : (wc.setRow R QO).heap[R]? = some (.cells QO 29 (0, 0)) := setRow_heap _ _ _ _ _ _ bX
      refine bodyPost_ret (results_cell_tmp rfl _ _ R _ _ _ _ (by rfl) hfin Tryd.underlying29 rfl hO.info) rfl ⟨QO, vb, (.slice none 0 0), (.slice none 0 0), ?_, ?_, XE.grown grown_setRow' (fun k hk => by simp at hk; omega)⟩
      · rw [HD.out]; rfl
      · rw [HD.out]
        exact ⟨hOc.eq, hOc.ok, hOc.vb.other grown_setRow' hvb, hOc.ve.other grown_setRow' hve, hOc.vp.other grown_setRow' hvp⟩
end Go.Proofs.YtcdlmappcbbacaaDoor
