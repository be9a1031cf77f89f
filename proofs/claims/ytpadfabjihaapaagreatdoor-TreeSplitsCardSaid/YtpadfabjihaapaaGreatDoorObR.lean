/- The walks of object.text and object.Encode: an object's bytes. -/
import Derived.Test.YtpadfabjihaapaaGreatDoorObL
import Derived.Test.YtpadfabjihaapaaGreatDoorObS
import Derived.Lib.AppendStr
namespace Go.Proofs.YtpadfabjihaapaaGreatDoor
open Go.RowKit
set_option linter.unusedVariables false
set_option linter.unusedSimpArgs false

/-- Every block but rows of bytes is as it was. -/
def KeepU (w w' : World) : Prop := ∀ (k : Nat) (c : Array Value) (t : TypeId) (f : Nat × Nat), w.heap[k]? = some (.cells c t f) → t ≠ 5 → w'.heap[k]? = some (.cells c t f)
theorem KeepU.refl (w : World) : KeepU w w := fun _ _ _ _ h _ => h
theorem KeepU.trans {a b c : World} (h : KeepU a b) (k : KeepU b c) : KeepU a c := fun i d t f q r => k i d t f (h i d t f q r) r
theorem KeepU.ext {w w' : World} (h : Ext w w') : KeepU w w' := fun _ _ _ _ q _ => h.keeps q
theorem KeepU.own {w w' : World} {base size : Nat} {v : Value} {n : Nat} {xs : List Value} (hown : w.ownsRow base 5 size v n xs) (hg : w.grownBy w' v.ownBlock) : KeepU w w' := fun k c t f h ht => grown_keep hg h (fun e => by
  rcases hown.2 with ⟨rfl, _⟩ | ⟨g, cap, cur, rfl, _, hh, _⟩
  · simp [Value.ownBlock] at e
  · simp only [Value.ownBlock, Option.some.injEq] at e
    subst e
    rw [h] at hh
    simp at hh
    exact ht hh.2.1)
theorem below_own {w w' : World} {base size : Nat} {v : Value} {n : Nat} {xs : List Value} {B : Nat} {a : World} (h : Below B a w) (hB : B ≤ base) (hBa : B ≤ a.heap.size) (hown : w.ownsRow base 5 size v n xs) (hg : w.grownBy w' v.ownBlock) : Below B a w' :=
  Below.grown h hg (Nat.le_trans hBa (Below.size h)) (fun k hk => Nat.le_trans hB (hown.lt k hk).1)

/-- A row that has just been laid, whole. -/
theorem own_new (w : World) (l : List Value) (n size : Nat) (e : TypeId) (hl : l.length = n * size) (hm : n ≤ maxLen) : (w.alloc (.cells l.toArray e)).ownsRow w.heap.size e size (.slice (some ⟨w.heap.size, 0, none⟩) n n) n l :=
  ⟨hl, .inr ⟨w.heap.size, n, l.toArray, rfl, Nat.le_refl _, heap_alloc_new w _, Nat.le_refl _, hm, by simpa using hl, by rw [List.take_of_length_le (by simp [hl])]⟩⟩

set_option maxHeartbeats 1000000 in
theorem objText (w : World) (v : Value) (base n : Nat) (xs : List UInt8) (s : ByteArray) (hown : w.ownsRow base 5 1 v n (xs.map bc)) (hb : base ≤ w.heap.size) (hlim : n + 1 + s.size ≤ 140737488355328) :
    Calls Tryz.prog 140 #[v, .string s] w fun e w' => ∃ v', e = .returned v' ∧ w'.ownsRow base 5 1 v' (n + 1 + s.size) ((xs ++ txtB s).map bc) ∧ Below base w w' ∧ KeepU w w' := by
  obtain ⟨i0, hi, hz0, hz1, hz2⟩ := info_parts infoByte
  go_enter Tryz.func140, Tryz.ntmps140
  go_wp2_with (first
    | (at_builtin; refine wp_app1 tyB rfl _ _ rfl base _ n _ _ _ hown (by rfl) (by rfl) rfl (by omega) (by omega) hb ?_; intro v1 w1 hown1 hgrow1)
    | (at_builtin; go_loud (refine Lib.wpList_append_own_string _ rfl _ _ 40 9 rfl base 5 i0 Tryz.underlying40 Tryz.underlying9 hi hz0 hz1 hz2 _ (n + 1) _ (by rfl) hown1 s (by rfl) (by unfold maxLen; omega) (by omega) (by have := hgrow1.size; simp at this; omega) ?_; intro v2 w2 hown2 hgrow2 _)))
  go_ret
  have x0 : Ext w (w.alloc (.cells #[.int .u8 ((s.size : Int) % 256)] 5)) := (Ext.refl w).alloc _
  have y1 := hown.alloc (.cells #[.int .u8 ((s.size : Int) % 256)] 5)
  refine ⟨v2, rfl, ?_, below_own (below_own (Below.mono (B := w.heap.size) x0 hb) (Nat.le_refl _) hb y1 hgrow1) (Nat.le_refl _) hb hown1 hgrow2, ((KeepU.ext x0).trans (KeepU.own y1 hgrow1)).trans (KeepU.own hown1 hgrow2)⟩
  have e : (xs ++ txtB s).map bc = xs.map bc ++ [.int .u8 ((s.size : Int) % 256)] ++ Lib.strCells s := by
    rw [txtB, List.map_append, List.map_cons, bc_ofNat, List.append_assoc]
    rfl
  rw [e]
  exact hown2

/-- What encoding hands back. -/
def EncEnd (o : ObjL) (w : World) (e : Ending) (w' : World) : Prop := ∃ v', e = .returned (.tuple #[v', .int .i64 (chkE (checkB o))]) ∧ w'.ownsRow w.heap.size 5 1 v' (encO o).length ((encO o).map bc) ∧ Ext w w'

set_option maxHeartbeats 4000000 in
set_option maxRecDepth 100000 in
theorem objEncode0 (w : World) (QA : Array Value) (vb ve vp : Value) (o : ObjL) (h : IsObj w QA vb ve vp o) (hc : checkB o = false) :
    Calls Tryz.prog 109 #[.agg QA] w (EncEnd o w) := by
  have b0 := heap_alloc_new w (.cells QA 45)
  have X0 : Ext w (w.alloc (.cells QA 45)) := (Ext.refl w).alloc _
  have hinfo := h.info
  go_enter Tryz.func109, Tryz.ntmps109
  go_wp2_with ((with_reducible refine at_load 45 (.tmp 1) ?_); refine wpl_load (by rfl) 45 (.tmp 1) rfl w.heap.size (by rfl) 45 QA (0, 0) _ b0 Tryz.underlying45 rfl hinfo ?_)
  refine Calls.mono (objCheck _ QA vb ve vp o (h.ext X0)) ?_
  rintro e w1 ⟨rfl, x1⟩
  have HC := Lib.hid hc
  rw [hc]
  unfold chkE
  rw [if_neg (by decide)]
  clear hc
  go_wp2
  go_ret2
  refine ⟨_, by rw [HC.out]; rfl, ?_, X0.trans x1⟩
  rw [show encO o = [] from by unfold encO; rw [HC.out]; rfl]
  exact World.ownsRow_nil _ _ _ _

--DEV<
set_option maxHeartbeats 4000000 in
set_option maxRecDepth 100000 in
theorem objEncode1 (w : World) (QA : Array Value) (vb ve vp : Value) (o : ObjL) (h : IsObj w QA vb ve vp o) (hc : checkB o = true) (hk : o.kind = 1) :
    Calls Tryz.prog 109 #[.agg QA] w (EncEnd o w) := by
  have b0 := heap_alloc_new w (.cells QA 45)
  have X0 : Ext w (w.alloc (.cells QA 45)) := (Ext.refl w).alloc _
  have hinfo := h.info
  obtain ⟨_, hp1, hp2, hp3, hp4, hp5⟩ := chk_parts hc
  obtain ⟨ab, cb, rfl⟩ := sl_len h.vb
  go_enter Tryz.func109, Tryz.ntmps109
  go_wp2_with ((with_reducible refine at_load 45 (.tmp 1) ?_); refine wpl_load (by rfl) 45 (.tmp 1) rfl w.heap.size (by rfl) 45 QA (0, 0) _ b0 Tryz.underlying45 rfl hinfo ?_)
  refine Calls.mono (objCheck _ QA _ ve vp o (h.ext X0)) ?_
  rintro e w1 ⟨rfl, x1⟩
  have HC := Lib.hid hc
  have HK := Lib.hid hk
  have X1 := X0.trans x1
  have hA := obj_at (x1.keeps b0) h.eq h.ok
  obtain ⟨c0, c1, c2, c3, c4, c5, c6⟩ := hA
  have HB := Lib.hid (h.ext X1).vb
  rw [hk] at c0
  rw [hc]
  unfold chkE
  rw [if_pos rfl]
  have hmod : IntKind.u16.wrap (o.bytes.length : Int) = ((o.bytes.length : Nat) : Int) := by rw [IntKind.wrap_u16]; omega
  clear hc hk h hp5
  have hGw : w.heap.size < w1.heap.size := block_lt (x1.keeps b0)
  generalize hG : w.heap.size = G at *
  go_wp2_with fail
  have xw : Ext w1 (w1.alloc (.cells #[.int .u8 1] 5)) := (Ext.refl w1).alloc _
  have own0 : (w1.alloc (.cells #[.int .u8 1] 5)).ownsRow w1.heap.size 5 1 (.slice (some ⟨w1.heap.size, 0, none⟩) 1 1) 1 (([1] : List UInt8).map bc) := own_new w1 [.int .u8 1] 1 1 _ rfl (by decide)
  refine wp_region_S (fun v => Ext w1 v) (by kernel_rfl) (fun w' h => xw.trans h) fun wd hqd xd hHeld => ?_
  refine wpAnyH_take (i := 0) (v := ?va0) rfl (by kernel_rfl) (by kernel_rfl) (by kernel_rfl) (fun _ _ _ h => h) (Or.inl ⟨by rfl, ?hya0⟩) hHeld ?_
  case hya0 => (intro w hSw; go_simp; try with_reducible rfl)
  simp only [Act.put, List.setIfInBounds_toArray, List.set_cons_zero, List.set_cons_succ, List.getElem_toArray, List.getElem_cons_zero, List.getElem_cons_succ]
  refine wpAnyH_take (i := 1) (v := ?va1) rfl (by kernel_rfl) (by kernel_rfl) (by kernel_rfl) (fun _ _ _ h => h) (Or.inl ⟨by rfl, ?hya1⟩) hHeld ?_
  case hya1 => (intro w hSw; go_simp; try with_reducible rfl)
  simp only [Act.put, List.setIfInBounds_toArray, List.set_cons_zero, List.set_cons_succ, List.getElem_toArray, List.getElem_cons_zero, List.getElem_cons_succ]
  refine wpAnyH_take (i := 2) (v := ?va2) rfl (by kernel_rfl) (by kernel_rfl) (by kernel_rfl) (fun _ _ _ h => h) (Or.inl ⟨by rfl, ?hya2⟩) hHeld ?_
  case hya2 => (intro w hSw; have k := (hSw.cell c1); go_simp; try with_reducible rfl)
  simp only [Act.put, List.setIfInBounds_toArray, List.set_cons_zero, List.set_cons_succ, List.getElem_toArray, List.getElem_cons_zero, List.getElem_cons_succ]
  refine wpAnyH_take (i := 3) (v := ?va3) rfl (by kernel_rfl) (by kernel_rfl) (by kernel_rfl) (fun _ _ _ h => h) (Or.inl ⟨by rfl, ?hya3⟩) hHeld ?_
  case hya3 => (intro w hSw; go_simp; try with_reducible rfl)
  simp only [Act.put, List.setIfInBounds_toArray, List.set_cons_zero, List.set_cons_succ, List.getElem_toArray, List.getElem_cons_zero, List.getElem_cons_succ]
  refine wpAnyH_take (i := 4) (v := ?va4) rfl (by kernel_rfl) (by kernel_rfl) (by kernel_rfl) (fun _ _ _ h => h) (Or.inl ⟨by rfl, ?hya4⟩) hHeld ?_
  case hya4 => (intro w hSw; go_simp; try with_reducible rfl)
  simp only [Act.put, List.setIfInBounds_toArray, List.set_cons_zero, List.set_cons_succ, List.getElem_toArray, List.getElem_cons_zero, List.getElem_cons_succ]
  refine wpAnyH_take (i := 6) (v := ?va6) rfl (by kernel_rfl) (by kernel_rfl) (by kernel_rfl) (fun _ _ _ h => h) (Or.inl ⟨by rfl, ?hya6⟩) hHeld ?_
  case hya6 => (intro w hSw; go_simp; try with_reducible rfl)
  simp only [Act.put, List.setIfInBounds_toArray, List.set_cons_zero, List.set_cons_succ, List.getElem_toArray, List.getElem_cons_zero, List.getElem_cons_succ]
  refine wpAnyH_take (i := 7) (v := ?va7) rfl (by kernel_rfl) (by kernel_rfl) (by kernel_rfl) (fun _ _ _ h => h) (Or.inl ⟨by rfl, ?hya7⟩) hHeld ?_
  case hya7 => (intro w hSw; have k := (hSw.cell c1); go_simp; try with_reducible rfl)
  simp only [Act.put, List.setIfInBounds_toArray, List.set_cons_zero, List.set_cons_succ, List.getElem_toArray, List.getElem_cons_zero, List.getElem_cons_succ]
  refine wpAnyH_all (rs := [5]) (by kernel_rfl) (by simp) ?_
  intro i hi; obtain rfl : i = 5 := by simpa using hi
  refine wpOp_run rfl (by rfl) ?_
  go_simp
  refine Calls.mono (octetPut16 _ _ [1] o.bytes.length (IsB.of_owns (ownsRow_ext own0 xd)) (by omega) (by decide)) ?_
  rintro ee w5 ⟨v5, rfl, own5, x5⟩
  have hHeld := (xw.trans (xd.trans x5))
  refine ⟨hHeld, ?_⟩
  try simp only [Act.put, List.setIfInBounds_toArray, List.set_cons_zero, List.set_cons_succ, List.getElem_toArray, List.getElem_cons_zero, List.getElem_cons_succ]
  refine wpAnyH_all (rs := [8]) (by kernel_rfl) (by simp) ?_
  intro i hi; obtain rfl : i = 8 := by simpa using hi
  refine wpOp_run rfl (by rfl) ?_
  refine wp_appO tyB (.tmp 28) (.tmp 30) rfl w1.heap.size v5 _ _ (ownsRow_base own5 (by have := (xw.trans xd).size; exact this)) (by rfl) (.slice ab o.bytes.length cb) o.bytes.length (o.bytes.map bc) (HB.out.ext hHeld) (by rfl) (bc_one _) (by simp; omega) (by simp; omega) hHeld.size ?_
  intro v6 w6 own6 gr6
  have hHeld := own_base (ownsRow_base own5 (by have := (xw.trans xd).size; exact this)) gr6 hHeld (Nat.le_refl _)
  refine ⟨hHeld, ?_⟩
  try simp only [Act.put, List.setIfInBounds_toArray, List.set_cons_zero, List.set_cons_succ, List.getElem_toArray, List.getElem_cons_zero, List.getElem_cons_succ]
  refine wpAnyH_take (i := 9) (v := ?va9) rfl (by kernel_rfl) (by kernel_rfl) (by kernel_rfl) (fun _ _ _ h => h) (Or.inl ⟨by rfl, ?hya9⟩) hHeld ?_
  case hya9 => (intro w hSw; go_simp; try with_reducible rfl)
  simp only [Act.put, List.setIfInBounds_toArray, List.set_cons_zero, List.set_cons_succ, List.getElem_toArray, List.getElem_cons_zero, List.getElem_cons_succ]
  refine wpAnyH_take (i := 10) (v := ?va10) rfl (by kernel_rfl) (by kernel_rfl) (by kernel_rfl) (fun _ _ _ h => h) (Or.inl ⟨by rfl, ?hya10⟩) hHeld ?_
  case hya10 => (intro w hSw; go_simp; try with_reducible rfl)
  simp only [Act.put, List.setIfInBounds_toArray, List.set_cons_zero, List.set_cons_succ, List.getElem_toArray, List.getElem_cons_zero, List.getElem_cons_succ]
  refine wpAnyH_done (by kernel_rfl) ?_ _
  refine NoPanic.normal ?_
  go_wp2
  go_ret2
  have he : encO o = 1 :: (be o.bytes.length 2 ++ o.bytes) := by unfold encO encB; rw [HC.out, if_pos rfl, if_pos HK.out]
  have hl : (encO o).length = ([1] : List UInt8).length + 2 + o.bytes.length := by rw [he]; simp [be_length]; omega
  refine ⟨v6, by rw [HC.out]; rfl, ?_, X1.trans hHeld⟩
  rw [hl, he]
  refine ownsRow_base ?_ X1.size
  have e2 : (1 :: (be o.bytes.length 2 ++ o.bytes)).map bc = ([1] ++ be o.bytes.length 2).map bc ++ o.bytes.map bc := by simp
  rw [e2]
  exact own6
--DEV>
end Go.Proofs.YtpadfabjihaapaaGreatDoor
