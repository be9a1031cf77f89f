/- What differs at a path: the closure of tree.Diff. -/
import Derived.Test.YtpadfabjihaapaaGreatDoorWtB
namespace Go.Proofs.YtpadfabjihaapaaGreatDoor
open Go.RowKit Go.Sort Go.Shelf Go.Lib
set_option linter.unusedVariables false
set_option linter.unusedSimpArgs false

/-- A path whose file differs. -/
structure Dl where
  path : ByteArray
  was : Bool
  is : Bool
  old : ByteArray
  new : ByteArray
instance : Inhabited Dl := ⟨⟨ByteArray.empty, false, false, ByteArray.empty, ByteArray.empty⟩⟩
def dlC (d : Dl) : List Value := [.string d.path, .bool d.was, .bool d.is, .string d.old, .string d.new]
theorem dlC_one (d : Dl) : ∀ c ∈ dlC d, c.oneCell' = true := by
  intro c hc
  simp only [dlC, List.mem_cons, List.not_mem_nil, or_false] at hc
  rcases hc with rfl | rfl | rfl | rfl | rfl <;> rfl
def tx (m : Option Fl) : ByteArray := match m with | some f => f.text | none => ⟨#[]⟩
/-- What differs at a path. -/
def dlt (a b : List Fl) (p : ByteArray) : Dl := ⟨p, (getL a p).isSome, (getL b p).isSome, tx (getL a p), tx (getL b p)⟩
def dlB (d : Dl) : Bool := (d.was != d.is) || (d.old.toList != d.new.toList)
theorem infoDl : (Tryz.prog.info? 55).map (fun i => (i.zero.map (·.cells.size), i.size)) = some (some 5, 5) := by kernel_rfl
theorem tyDl : ∃ z, ETy Tryz.prog 49 55 z 5 56 := tyOf Tryz.underlying49 infoDl (by kernel_rfl) (by omega)
theorem build_dl (w : World) (d : Dl) : (Instr.buildSlice 49 1 #[(0, .agg (dlC d).toArray)]).run Tryz.prog w = .ok (.slice (some ⟨w.heap.size, 0, none⟩) 1 1) (w.alloc (.cells (dlC d).toArray 55)) :=
  build_one w _ _ 5 Tryz.underlying49 infoDl (by omega) (by omega) (dlC d) rfl

set_option maxHeartbeats 1000000 in
theorem closDiff (x y : Dl) (W : World) : Calls Tryz.prog 38 #[.agg (dlC x).toArray, .agg (dlC y).toArray] W fun e w' => e = .returned (.int .i64 (cmpN x.path y.path)) ∧ ∃ q os', w' = grow (W.drewN q) os' := by
  have hcon := fun W' => cmpCompare W' x.path y.path
  generalize cmpN x.path y.path = r at hcon ⊢
  unfold dlC
  go_enter Tryz.func38, Tryz.ntmps38
  go_wp2_with (go_at_call 39; refine (hcon _).mono ?_; rintro e w' ⟨rfl, rfl⟩)
  go_ret
  exact ⟨rfl, 0, _, by rw [alloc_eq_grow, alloc_eq_grow, grow_grow]; rfl⟩
theorem sortDeltas (w : World) (base : Nat) (v : Value) (l : List Dl) (h : w.ownsRow base 55 5 v l.length (l.flatMap dlC)) (hl : l.length ≤ 1000000) :
    Calls Tryz.prog 37 #[v, .func (.func 38) #[] #[]] w fun ex w' => ex = .returned (.tuple #[]) ∧ ∃ l' : List Dl, l'.Perm l ∧ l'.Pairwise (fun a b => nl b.path a.path = false) ∧ w'.ownsRow base 55 5 v l.length (l'.flatMap dlC) ∧ w.grownBy w' v.ownBlock := by
  have eg : ∀ args w, (callFunc 38 args).run Tryz.prog w = .ok (.enter 38 args) w := enters_of Tryz.func38 (by kernel_rfl) rfl
  have hcon := sortOwn Tryz.sortDelta 55 (fun w => Tryz.isAgg55 w) (fun w => Tryz.sizeOf55 w) (fun _ => rfl) (by decide) (fun x v hv => dlC_one x v hv) (fun x y : Dl => cmpN x.path y.path) (cmpN_swo Dl.path) 38 eg closDiff w base v l h hl
  change Calls Tryz.prog 37 _ _ _ at hcon
  refine Calls.mono hcon ?_
  rintro ex w' ⟨rfl, l', h1, h2, h3, h4⟩
  exact ⟨rfl, l', h1, h2.imp fun h => by rwa [cmpN_lt] at h, h3, h4⟩

set_option maxHeartbeats 8000000 in
set_option maxRecDepth 100000 in
theorem diffAdd (W0 w : World) (A B L base : Nat) (va vb lv : Value) (a b : List Fl) (ha : IsF W0 va a) (hb : IsF W0 vb b) (sa : FsS a) (sb : FsS b) (la : a.length ≤ 16) (lb : b.length ≤ 16) (bA : W0.heap[A]? = some (.cells #[va] 24 (0, 0))) (bB : W0.heap[B]? = some (.cells #[vb] 24 (0, 0)))
    (bL : w.heap[L]? = some (.cells #[lv] 49 (0, 0))) (ds : List Dl) (own : w.ownsRow base 55 5 lv ds.length (ds.flatMap dlC)) (hds : ds.length ≤ 1000) (X : Ext W0 w) (hb0 : W0.heap.size ≤ base) (hbw : base ≤ w.heap.size) (hL : W0.heap.size ≤ L) (p : ByteArray) :
    Calls Tryz.prog 35 #[.string p, .pointer (some ⟨A, 0, none⟩), .pointer (some ⟨B, 0, none⟩), .pointer (some ⟨L, 0, none⟩)] w fun e w' => e = .returned (.tuple #[]) ∧ ∃ lv', w'.heap[L]? = some (.cells #[lv'] 49 (0, 0)) ∧
      w'.ownsRow base 55 5 lv' (ds ++ [dlt a b p].filter dlB).length ((ds ++ [dlt a b p].filter dlB).flatMap dlC) ∧ Ext W0 w' ∧ w.heap.size ≤ w'.heap.size := by
  obtain ⟨zD, tyD⟩ := tyDl
  have HA := Lib.hid ha
  have HB := Lib.hid hb
  have HSA := Lib.hid sa
  have HSB := Lib.hid sb
  obtain ⟨aa, ca, ea⟩ := sl_len ha.sl
  obtain ⟨ab, cb, eb⟩ := sl_len hb.sl
  subst ea
  subst eb
  have HOWN := Lib.hid own
  have HX := Lib.hid X
  have HBA := Lib.hid bA
  have HBB := Lib.hid bB
  have HBL := Lib.hid bL
  have hLl := block_lt bL
  clear ha hb sa sb own X bA bB bL
  go_enter Tryz.func35, Tryz.ntmps35
  go_upto_region 1 with fail
  obtain ⟨D, hD⟩ : ∃ D, w.heap.size = D := ⟨_, rfl⟩
  rw [hD]
  refine wp_forgetH (fun W => Ext w W ∧ W.heap[D]? = some (.cells (dlC ⟨p, false, false, ⟨#[]⟩, ⟨#[]⟩⟩).toArray 55 (0, 0))) ⟨(Ext.refl w).alloc _, blk_new hD⟩ ?_
  rintro w1 ⟨x1, bD⟩
  have bD1 := Lib.hid bD
  have XW1 := Lib.hid x1
  clear bD x1
  have bA1 := (HX.out.trans XW1.out).keeps HBA.out
  go_wp2_with ((with_reducible refine at_load 24 (.tmp 1) ?_); refine wpl_load (by rfl) 24 (.tmp 1) rfl A (by rfl) 24 #[.slice aa a.length ca] (0, 0) _ bA1 Tryz.underlying24 rfl (infoRp _) ?_)
  refine Calls.mono (treeFind w1 _ a (HA.out.ext (HX.out.trans XW1.out)) p HSA.out (by omega)) ?_
  rintro e w2 ⟨i1, hi1, rfl, x2⟩
  obtain ⟨q1, q2⟩ := hit_has HSA.out hi1
  have bD2 := Lib.hid (x2.keeps bD1.out)
  have XW2 := Lib.hid (XW1.out.trans x2)
  clear bA1 x2
  cases hh1 : hitB a p i1 with
  | false =>
    have HGa := Lib.hid (q2 hh1)
    clear q1 q2 hi1
    have bB2 := (HX.out.trans XW2.out).keeps HBB.out
    go_wp2_with ((with_reducible refine at_load 24 (.tmp 2) ?_); refine wpl_load (by rfl) 24 (.tmp 2) rfl B (by rfl) 24 #[.slice ab b.length cb] (0, 0) _ bB2 Tryz.underlying24 rfl (infoRp _) ?_)
    refine Calls.mono (treeFind w2 _ b (HB.out.ext (HX.out.trans XW2.out)) p HSB.out (by omega)) ?_
    rintro e w3 ⟨i2, hi2, rfl, x3⟩
    obtain ⟨q1, q2⟩ := hit_has HSB.out hi2
    have bD3 := Lib.hid (x3.keeps bD2.out)
    have XW3 := Lib.hid (XW2.out.trans x3)
    clear bB2 x3
    cases hh2 : hitB b p i2 with
    | false =>
      have HGb := Lib.hid (q2 hh2)
      clear q1 q2 hi2
      have hd : dlt a b p = ⟨p, false, false, ⟨#[]⟩, ⟨#[]⟩⟩ := by unfold dlt; rw [HGa.out, HGb.out]; rfl
      have kD0 : w3.cell? ⟨D, 0, none⟩ = some (.string p) := by rw [block_cell bD3.out]; rfl
      have kD1 : w3.cell? ⟨D, 1, none⟩ = some (.bool false) := by rw [block_cell bD3.out]; rfl
      have kD2 : w3.cell? ⟨D, 2, none⟩ = some (.bool false) := by rw [block_cell bD3.out]; rfl
      have kD3 : w3.cell? ⟨D, 3, none⟩ = some (.string ⟨#[]⟩) := by rw [block_cell bD3.out]; rfl
      have kD4 : w3.cell? ⟨D, 4, none⟩ = some (.string ⟨#[]⟩) := by rw [block_cell bD3.out]; rfl
      have hB : dlB (dlt a b p) = false := by rw [hd]; unfold dlB; simp
      have HB1 := Lib.hid hB
      clear hd hB
      go_wp2_with fail
      go_end0
      refine ⟨rfl, _, XW3.out.keeps HBL.out, ?_, HX.out.trans XW3.out, XW3.out.size⟩
      rw [List.filter_cons_of_neg (by rw [HB1.out]; decide), List.filter_nil, List.append_nil]
      exact ownsRow_ext HOWN.out XW3.out
    | true =>
      obtain ⟨hil2, hg2⟩ := q1 hh2
      obtain ⟨_, _, e0, _, _, _, g1⟩ := HB.out.opened
      simp only [Value.slice.injEq, true_and] at e0
      obtain ⟨rfl, rfl⟩ := e0
      obtain ⟨pb2, o2, rfl, e0, e1⟩ := g1 i2 hil2
      obtain ⟨fb, hf2⟩ : ∃ f, b[i2] = f := ⟨_, rfl⟩
      rw [hf2] at e1 hg2
      have HGb := Lib.hid hg2
      have E12 := Lib.hid e1
      have i02 : (0 : Int) ≤ (i2 : Int) := Int.natCast_nonneg _
      have i12 : (i2 : Int) < (b.length : Int) := by omega
      clear q1 q2 g1 e0 e1 hf2 hg2 hi2
      go_upto_region 6 with fail
      obtain ⟨SS2, hSS⟩ : ∃ SS : World → Prop, SS = fun v => Ext w v := ⟨_, rfl⟩
      have KS2 := fun v (h : SS2 v) => block_allH ((HX.out.trans (show Ext w v by rw [hSS] at h; exact h)).keeps HBB.out)
      have KE2 := fun v (h : SS2 v) => (HX.out.trans (show Ext w v by rw [hSS] at h; exact h)).cell E12.out
      have HSS := Lib.hid hSS
      clear hSS
      refine wp_region_G 9 (SS2) (by kernel_rfl) fun wd hqd hHeld => ?_
      have hE : Ext w3 wd := hHeld
      have hHeld : SS2 wd := by rw [HSS.out]; exact XW3.out.trans hE
      refine G_pure (i := 0) (u := ?vhb20) rfl (by kernel_rfl) (by kernel_rfl) (by kernel_rfl) (fun _ _ _ h => h) (by decide) (Or.inl ⟨by rfl, ?hyhb20⟩) hHeld ?_
      case hyhb20 => (intro w hSw; go_simp; try with_reducible rfl)
      simp only [Act.put, List.setIfInBounds_toArray, List.set_cons_zero, List.set_cons_succ, List.getElem_toArray, List.getElem_cons_zero, List.getElem_cons_succ]
      refine G_take (i := 1) (u := ?vhb21) rfl (by kernel_rfl) (by kernel_rfl) (by kernel_rfl) (fun _ _ _ h => h) rfl (by kernel_rfl) (by decide) (by rfl) (Or.inl ⟨by rfl, ?hyhb21⟩) hHeld ?_
      case hyhb21 => (intro w hSw; have kk := KS2 _ hSw; go_simp; try with_reducible rfl)
      simp only [Act.put, List.setIfInBounds_toArray, List.set_cons_zero, List.set_cons_succ, List.getElem_toArray, List.getElem_cons_zero, List.getElem_cons_succ]
      refine G_pure (i := 2) (u := ?vhb22) rfl (by kernel_rfl) (by kernel_rfl) (by kernel_rfl) (fun _ _ _ h => h) (by decide) (Or.inl ⟨by rfl, ?hyhb22⟩) hHeld ?_
      case hyhb22 => (intro w hSw; go_simp; try with_reducible rfl)
      simp only [Act.put, List.setIfInBounds_toArray, List.set_cons_zero, List.set_cons_succ, List.getElem_toArray, List.getElem_cons_zero, List.getElem_cons_succ]
      refine G_pure (i := 3) (u := ?vhb23) rfl (by kernel_rfl) (by kernel_rfl) (by kernel_rfl) (fun _ _ _ h => h) (by decide) (Or.inl ⟨by rfl, ?hyhb23⟩) hHeld ?_
      case hyhb23 => (intro w hSw; go_simp; try with_reducible rfl)
      simp only [Act.put, List.setIfInBounds_toArray, List.set_cons_zero, List.set_cons_succ, List.getElem_toArray, List.getElem_cons_zero, List.getElem_cons_succ]
      refine G_pure (i := 4) (u := ?vhb24) rfl (by kernel_rfl) (by kernel_rfl) (by kernel_rfl) (fun _ _ _ h => h) (by decide) (Or.inl ⟨by rfl, ?hyhb24⟩) hHeld ?_
      case hyhb24 => (intro w hSw; go_simp; try with_reducible rfl)
      simp only [Act.put, List.setIfInBounds_toArray, List.set_cons_zero, List.set_cons_succ, List.getElem_toArray, List.getElem_cons_zero, List.getElem_cons_succ]
      refine G_take (i := 5) (u := ?vhb25) rfl (by kernel_rfl) (by kernel_rfl) (by kernel_rfl) (fun _ _ _ h => h) rfl (by kernel_rfl) (by decide) (by rfl) (Or.inl ⟨by rfl, ?hyhb25⟩) hHeld ?_
      case hyhb25 => (intro w hSw; have kk := KE2 _ hSw; go_simp; try with_reducible rfl)
      simp only [Act.put, List.setIfInBounds_toArray, List.set_cons_zero, List.set_cons_succ, List.getElem_toArray, List.getElem_cons_zero, List.getElem_cons_succ]
      refine G_pure (i := 6) (u := ?vhb26) rfl (by kernel_rfl) (by kernel_rfl) (by kernel_rfl) (fun _ _ _ h => h) (by decide) (Or.inl ⟨by rfl, ?hyhb26⟩) hHeld ?_
      case hyhb26 => (intro w hSw; go_simp; try with_reducible rfl)
      simp only [Act.put, List.setIfInBounds_toArray, List.set_cons_zero, List.set_cons_succ, List.getElem_toArray, List.getElem_cons_zero, List.getElem_cons_succ]
      refine G_all (rs := [7]) (by kernel_rfl) (by simp) ?_
      intro i hi; obtain rfl : i = 7 := by simpa using hi
      refine wpOp_run rfl (by rfl) ?_
      have bD7 := hE.keeps bD3.out
      have kk := block_allH bD7
      have ff := fun z => block_free bD7 z
      go_simp
      have g7 : wd.grownBy (wd.setCell ⟨D, 2, none⟩ (.bool true)) (some D) := grown_setCell _ _ _ _
      have bD8 := block_setCell bD7 (i := 2) (.bool true)
      have X8 : Ext w (wd.setCell ⟨D, 2, none⟩ (.bool true)) := (XW3.out.trans hE).grown g7 (fun k hk => by cases hk; omega)
      have hHeld : SS2 (wd.setCell ⟨D, 2, none⟩ (.bool true)) := by rw [HSS.out]; exact X8
      clear kk ff
      first | refine ⟨fun _ => hHeld, ?_⟩ | refine ⟨hHeld, ?_⟩ | skip
      try simp only [Act.put, List.setIfInBounds_toArray, List.set_cons_zero, List.set_cons_succ, List.getElem_toArray, List.getElem_cons_zero, List.getElem_cons_succ]
      refine G_pure (i := 8) (u := ?vhb28) rfl (by kernel_rfl) (by kernel_rfl) (by kernel_rfl) (fun _ _ _ h => h) (by decide) (Or.inl ⟨by rfl, ?hyhb28⟩) hHeld ?_
      case hyhb28 => (intro w hSw; go_simp; try with_reducible rfl)
      simp only [Act.put, List.setIfInBounds_toArray, List.set_cons_zero, List.set_cons_succ, List.getElem_toArray, List.getElem_cons_zero, List.getElem_cons_succ]
      refine G_all (rs := [9]) (by kernel_rfl) (by simp) ?_
      intro i hi; obtain rfl : i = 9 := by simpa using hi
      refine wpOp_run rfl (by rfl) ?_
      have kk := block_allH bD8
      have ff := fun z => block_free bD8 z
      go_simp
      try refine ⟨fun e => absurd e (by decide), ?_⟩
      refine G_free _ _ _ _ (by kernel_rfl) ?_
      try simp only [Act.put, List.setIfInBounds_toArray, List.set_cons_zero, List.set_cons_succ, List.getElem_toArray, List.getElem_cons_zero, List.getElem_cons_succ]
      refine wpAny_done (by kernel_rfl) ?_ _
      refine NoPanic.normal ?_
      have g9 := grown_setCell (wd.setCell ⟨D, 2, none⟩ (.bool true)) D 4 (.string fb.text)
      have bD9 := block_setCell bD8 (i := 4) (.string fb.text)
      have X9 := X8.grown g9 (fun k hk => by cases hk; omega)
      have bD9' : ((wd.setCell ⟨D, 2, none⟩ (.bool true)).setCell ⟨D, 4, none⟩ (.string fb.text)).heap[D]? = some (.cells (dlC ⟨p, false, true, ⟨#[]⟩, fb.text⟩).toArray 55 (0, 0)) := by simpa [dlC] using bD9
      generalize (wd.setCell ⟨D, 2, none⟩ (.bool true)).setCell ⟨D, 4, none⟩ (.string fb.text) = w4 at *
      have bD4 := Lib.hid bD9'
      have XW4 := Lib.hid X9
      clear bD7 bD8 bD9 bD9' g7 g9 X8 X9 kk ff hHeld KS2 KE2 HSS hE
      have hd : dlt a b p = ⟨p, false, true, ⟨#[]⟩, fb.text⟩ := by unfold dlt; rw [HGa.out, HGb.out]; rfl
      have kD0 : w4.cell? ⟨D, 0, none⟩ = some (.string p) := by rw [block_cell bD4.out]; rfl
      have kD1 : w4.cell? ⟨D, 1, none⟩ = some (.bool false) := by rw [block_cell bD4.out]; rfl
      have kD2 : w4.cell? ⟨D, 2, none⟩ = some (.bool true) := by rw [block_cell bD4.out]; rfl
      have kD3 : w4.cell? ⟨D, 3, none⟩ = some (.string ⟨#[]⟩) := by rw [block_cell bD4.out]; rfl
      have kD4 : w4.cell? ⟨D, 4, none⟩ = some (.string fb.text) := by rw [block_cell bD4.out]; rfl
      have hB : dlB (dlt a b p) = true := by rw [hd]; unfold dlB; simp
      have HDL := Lib.hid hd
      have HB1 := Lib.hid hB
      clear hd hB
      have ownN := ownsRow_ext HOWN.out XW4.out
      have bLN := XW4.out.keeps HBL.out
      obtain ⟨al, cl, el⟩ := ownSh ownN
      subst el
      have kL := block_allH bLN
      have xb : Ext w4 (w4.alloc (.cells (dlC ⟨p, false, true, ⟨#[]⟩, fb.text⟩).toArray 55)) := (Ext.refl _).alloc _
      have HBNb := Lib.hid (heap_alloc_new w4 (.cells (dlC ⟨p, false, true, ⟨#[]⟩, fb.text⟩).toArray 55))
      have HOBb := Lib.hid (ownsRow_ext ownN xb)
      have hsb : base ≤ (w4.alloc (.cells (dlC ⟨p, false, true, ⟨#[]⟩, fb.text⟩).toArray 55)).heap.size := by have := xb.size; have := XW4.out.size; omega
      have HNL := Lib.hid (own_neH (ownsRow_ext ownN xb) (xb.keeps bLN) (by decide))
      have HBLb := Lib.hid (xb.keeps bLN)
      clear ownN bLN
      go_wp2_with (first | ((with_reducible refine at_build1 49 (.tmp 55) ?_); refine wpl_buildOne (by rfl) 49 (.tmp 55) rfl (dlC ⟨p, false, true, ⟨#[]⟩, fb.text⟩) (by rfl) (build_dl _ ⟨p, false, true, ⟨#[]⟩, fb.text⟩) ?_) | (at_builtin; refine wpl_appAt tyD (by rfl) (.tmp 54) (.tmp 56) rfl base _ _ _ HOBb.out (by rfl) w4.heap.size (dlC ⟨p, false, true, ⟨#[]⟩, fb.text⟩) (0, 0) HBNb.out rfl (by rfl) (dlC_one _) (by omega) (by omega) hsb ?_; intro v9 w9 own9 gr9 at9; obtain ⟨a9, c9, e9⟩ := ownSh own9; subst e9; have bL9 := grown_keep gr9 HBLb.out HNL.out; have kk := block_allH bL9; have ff := fun z => block_free bL9 z))
      have g10 : w9.grownBy (w9.setCell ⟨L, 0, none⟩ (.slice a9 (ds.length + 1) c9)) (some L) := grown_setCell _ _ _ _
      have bL10 := block_setCell bL9 (i := 0) (.slice a9 (ds.length + 1) c9)
      have own10 := ownsRow_grown own9 g10 (own_neH own9 bL9 (by decide))
      have x10 := ((HX.out.trans (XW4.out.trans xb)).grown gr9 (fun k hk => by have := (HOBb.out.lt k hk).1; omega)).grown g10 (fun k hk => by cases hk; omega)
      have s10 : w.heap.size ≤ (w9.setCell ⟨L, 0, none⟩ (.slice a9 (ds.length + 1) c9)).heap.size := by have := XW4.out.size; have := xb.size; have := gr9.size; have := g10.size; omega
      go_end0
      refine ⟨rfl, _, by simpa using bL10, ?_, x10, s10⟩
      rw [List.filter_cons_of_pos HB1.out, List.filter_nil, HDL.out, List.length_append, List.flatMap_append]
      simpa using own10
  | true =>
    obtain ⟨hil1, hg1⟩ := q1 hh1
    obtain ⟨_, _, e0, _, _, _, g1⟩ := HA.out.opened
    simp only [Value.slice.injEq, true_and] at e0
    obtain ⟨rfl, rfl⟩ := e0
    obtain ⟨pb1, o1, rfl, e0, e1⟩ := g1 i1 hil1
    obtain ⟨fa, hf1⟩ : ∃ f, a[i1] = f := ⟨_, rfl⟩
    rw [hf1] at e1 hg1
    have HGa := Lib.hid hg1
    have E11 := Lib.hid e1
    have i01 : (0 : Int) ≤ (i1 : Int) := Int.natCast_nonneg _
    have i11 : (i1 : Int) < (a.length : Int) := by omega
    clear q1 q2 g1 e0 e1 hf1 hg1 hi1
    go_upto_region 3 with fail
    obtain ⟨SS1, hSS⟩ : ∃ SS : World → Prop, SS = fun v => Ext w v := ⟨_, rfl⟩
    have KS1 := fun v (h : SS1 v) => block_allH ((HX.out.trans (show Ext w v by rw [hSS] at h; exact h)).keeps HBA.out)
    have KE1 := fun v (h : SS1 v) => (HX.out.trans (show Ext w v by rw [hSS] at h; exact h)).cell E11.out
    have HSS := Lib.hid hSS
    clear hSS
    refine wp_region_G 9 (SS1) (by kernel_rfl) fun wd hqd hHeld => ?_
    have hE : Ext w2 wd := hHeld
    have hHeld : SS1 wd := by rw [HSS.out]; exact XW2.out.trans hE
    refine G_pure (i := 0) (u := ?vha10) rfl (by kernel_rfl) (by kernel_rfl) (by kernel_rfl) (fun _ _ _ h => h) (by decide) (Or.inl ⟨by rfl, ?hyha10⟩) hHeld ?_
    case hyha10 => (intro w hSw; go_simp; try with_reducible rfl)
    simp only [Act.put, List.setIfInBounds_toArray, List.set_cons_zero, List.set_cons_succ, List.getElem_toArray, List.getElem_cons_zero, List.getElem_cons_succ]
    refine G_take (i := 1) (u := ?vha11) rfl (by kernel_rfl) (by kernel_rfl) (by kernel_rfl) (fun _ _ _ h => h) rfl (by kernel_rfl) (by decide) (by rfl) (Or.inl ⟨by rfl, ?hyha11⟩) hHeld ?_
    case hyha11 => (intro w hSw; have kk := KS1 _ hSw; go_simp; try with_reducible rfl)
    simp only [Act.put, List.setIfInBounds_toArray, List.set_cons_zero, List.set_cons_succ, List.getElem_toArray, List.getElem_cons_zero, List.getElem_cons_succ]
    refine G_pure (i := 2) (u := ?vha12) rfl (by kernel_rfl) (by kernel_rfl) (by kernel_rfl) (fun _ _ _ h => h) (by decide) (Or.inl ⟨by rfl, ?hyha12⟩) hHeld ?_
    case hyha12 => (intro w hSw; go_simp; try with_reducible rfl)
    simp only [Act.put, List.setIfInBounds_toArray, List.set_cons_zero, List.set_cons_succ, List.getElem_toArray, List.getElem_cons_zero, List.getElem_cons_succ]
    refine G_pure (i := 3) (u := ?vha13) rfl (by kernel_rfl) (by kernel_rfl) (by kernel_rfl) (fun _ _ _ h => h) (by decide) (Or.inl ⟨by rfl, ?hyha13⟩) hHeld ?_
    case hyha13 => (intro w hSw; go_simp; try with_reducible rfl)
    simp only [Act.put, List.setIfInBounds_toArray, List.set_cons_zero, List.set_cons_succ, List.getElem_toArray, List.getElem_cons_zero, List.getElem_cons_succ]
    refine G_pure (i := 4) (u := ?vha14) rfl (by kernel_rfl) (by kernel_rfl) (by kernel_rfl) (fun _ _ _ h => h) (by decide) (Or.inl ⟨by rfl, ?hyha14⟩) hHeld ?_
    case hyha14 => (intro w hSw; go_simp; try with_reducible rfl)
    simp only [Act.put, List.setIfInBounds_toArray, List.set_cons_zero, List.set_cons_succ, List.getElem_toArray, List.getElem_cons_zero, List.getElem_cons_succ]
    refine G_take (i := 5) (u := ?vha15) rfl (by kernel_rfl) (by kernel_rfl) (by kernel_rfl) (fun _ _ _ h => h) rfl (by kernel_rfl) (by decide) (by rfl) (Or.inl ⟨by rfl, ?hyha15⟩) hHeld ?_
    case hyha15 => (intro w hSw; have kk := KE1 _ hSw; go_simp; try with_reducible rfl)
    simp only [Act.put, List.setIfInBounds_toArray, List.set_cons_zero, List.set_cons_succ, List.getElem_toArray, List.getElem_cons_zero, List.getElem_cons_succ]
    refine G_pure (i := 6) (u := ?vha16) rfl (by kernel_rfl) (by kernel_rfl) (by kernel_rfl) (fun _ _ _ h => h) (by decide) (Or.inl ⟨by rfl, ?hyha16⟩) hHeld ?_
    case hyha16 => (intro w hSw; go_simp; try with_reducible rfl)
    simp only [Act.put, List.setIfInBounds_toArray, List.set_cons_zero, List.set_cons_succ, List.getElem_toArray, List.getElem_cons_zero, List.getElem_cons_succ]
    refine G_all (rs := [7]) (by kernel_rfl) (by simp) ?_
    intro i hi; obtain rfl : i = 7 := by simpa using hi
    refine wpOp_run rfl (by rfl) ?_
    have bD7 := hE.keeps bD2.out
    have kk := block_allH bD7
    have ff := fun z => block_free bD7 z
    go_simp
    have g7 : wd.grownBy (wd.setCell ⟨D, 1, none⟩ (.bool true)) (some D) := grown_setCell _ _ _ _
    have bD8 := block_setCell bD7 (i := 1) (.bool true)
    have X8 : Ext w (wd.setCell ⟨D, 1, none⟩ (.bool true)) := (XW2.out.trans hE).grown g7 (fun k hk => by cases hk; omega)
    have hHeld : SS1 (wd.setCell ⟨D, 1, none⟩ (.bool true)) := by rw [HSS.out]; exact X8
    clear kk ff
    first | refine ⟨fun _ => hHeld, ?_⟩ | refine ⟨hHeld, ?_⟩ | skip
    try simp only [Act.put, List.setIfInBounds_toArray, List.set_cons_zero, List.set_cons_succ, List.getElem_toArray, List.getElem_cons_zero, List.getElem_cons_succ]
    refine G_pure (i := 8) (u := ?vha18) rfl (by kernel_rfl) (by kernel_rfl) (by kernel_rfl) (fun _ _ _ h => h) (by decide) (Or.inl ⟨by rfl, ?hyha18⟩) hHeld ?_
    case hyha18 => (intro w hSw; go_simp; try with_reducible rfl)
    simp only [Act.put, List.setIfInBounds_toArray, List.set_cons_zero, List.set_cons_succ, List.getElem_toArray, List.getElem_cons_zero, List.getElem_cons_succ]
    refine G_all (rs := [9]) (by kernel_rfl) (by simp) ?_
    intro i hi; obtain rfl : i = 9 := by simpa using hi
    refine wpOp_run rfl (by rfl) ?_
    have kk := block_allH bD8
    have ff := fun z => block_free bD8 z
    go_simp
    try refine ⟨fun e => absurd e (by decide), ?_⟩
    refine G_free _ _ _ _ (by kernel_rfl) ?_
    try simp only [Act.put, List.setIfInBounds_toArray, List.set_cons_zero, List.set_cons_succ, List.getElem_toArray, List.getElem_cons_zero, List.getElem_cons_succ]
    refine wpAny_done (by kernel_rfl) ?_ _
    refine NoPanic.normal ?_
    have g9 := grown_setCell (wd.setCell ⟨D, 1, none⟩ (.bool true)) D 3 (.string fa.text)
    have bD9 := block_setCell bD8 (i := 3) (.string fa.text)
    have X9 := X8.grown g9 (fun k hk => by cases hk; omega)
    have bD9' : ((wd.setCell ⟨D, 1, none⟩ (.bool true)).setCell ⟨D, 3, none⟩ (.string fa.text)).heap[D]? = some (.cells (dlC ⟨p, true, false, fa.text, ⟨#[]⟩⟩).toArray 55 (0, 0)) := by simpa [dlC] using bD9
    generalize (wd.setCell ⟨D, 1, none⟩ (.bool true)).setCell ⟨D, 3, none⟩ (.string fa.text) = w3 at *
    have bD3 := Lib.hid bD9'
    have XW3 := Lib.hid X9
    clear bD7 bD8 bD9 bD9' g7 g9 X8 X9 kk ff hHeld KS1 KE1 HSS hE
    have bB3 := (HX.out.trans XW3.out).keeps HBB.out
    go_wp2_with ((with_reducible refine at_load 24 (.tmp 2) ?_); refine wpl_load (by rfl) 24 (.tmp 2) rfl B (by rfl) 24 #[.slice ab b.length cb] (0, 0) _ bB3 Tryz.underlying24 rfl (infoRp _) ?_)
    refine Calls.mono (treeFind w3 _ b (HB.out.ext (HX.out.trans XW3.out)) p HSB.out (by omega)) ?_
    rintro e w4 ⟨i3, hi3, rfl, x4⟩
    obtain ⟨q1, q2⟩ := hit_has HSB.out hi3
    have bD4 := Lib.hid (x4.keeps bD3.out)
    have XW4 := Lib.hid (XW3.out.trans x4)
    clear bB3 x4
    cases hh3 : hitB b p i3 with
    | false =>
      have HGb := Lib.hid (q2 hh3)
      clear q1 q2 hi3
      have hd : dlt a b p = ⟨p, true, false, fa.text, ⟨#[]⟩⟩ := by unfold dlt; rw [HGa.out, HGb.out]; rfl
      have kD0 : w4.cell? ⟨D, 0, none⟩ = some (.string p) := by rw [block_cell bD4.out]; rfl
      have kD1 : w4.cell? ⟨D, 1, none⟩ = some (.bool true) := by rw [block_cell bD4.out]; rfl
      have kD2 : w4.cell? ⟨D, 2, none⟩ = some (.bool false) := by rw [block_cell bD4.out]; rfl
      have kD3 : w4.cell? ⟨D, 3, none⟩ = some (.string fa.text) := by rw [block_cell bD4.out]; rfl
      have kD4 : w4.cell? ⟨D, 4, none⟩ = some (.string ⟨#[]⟩) := by rw [block_cell bD4.out]; rfl
      have hB : dlB (dlt a b p) = true := by rw [hd]; unfold dlB; simp
      have HDL := Lib.hid hd
      have HB1 := Lib.hid hB
      clear hd hB
      have ownN := ownsRow_ext HOWN.out XW4.out
      have bLN := XW4.out.keeps HBL.out
      obtain ⟨al, cl, el⟩ := ownSh ownN
      subst el
      have kL := block_allH bLN
      have xb : Ext w4 (w4.alloc (.cells (dlC ⟨p, true, false, fa.text, ⟨#[]⟩⟩).toArray 55)) := (Ext.refl _).alloc _
      have HBNb := Lib.hid (heap_alloc_new w4 (.cells (dlC ⟨p, true, false, fa.text, ⟨#[]⟩⟩).toArray 55))
      have HOBb := Lib.hid (ownsRow_ext ownN xb)
      have hsb : base ≤ (w4.alloc (.cells (dlC ⟨p, true, false, fa.text, ⟨#[]⟩⟩).toArray 55)).heap.size := by have := xb.size; have := XW4.out.size; omega
      have HNL := Lib.hid (own_neH (ownsRow_ext ownN xb) (xb.keeps bLN) (by decide))
      have HBLb := Lib.hid (xb.keeps bLN)
      clear ownN bLN
      go_wp2_with (first | ((with_reducible refine at_build1 49 (.tmp 55) ?_); refine wpl_buildOne (by rfl) 49 (.tmp 55) rfl (dlC ⟨p, true, false, fa.text, ⟨#[]⟩⟩) (by rfl) (build_dl _ ⟨p, true, false, fa.text, ⟨#[]⟩⟩) ?_) | (at_builtin; refine wpl_appAt tyD (by rfl) (.tmp 54) (.tmp 56) rfl base _ _ _ HOBb.out (by rfl) w4.heap.size (dlC ⟨p, true, false, fa.text, ⟨#[]⟩⟩) (0, 0) HBNb.out rfl (by rfl) (dlC_one _) (by omega) (by omega) hsb ?_; intro v9 w9 own9 gr9 at9; obtain ⟨a9, c9, e9⟩ := ownSh own9; subst e9; have bL9 := grown_keep gr9 HBLb.out HNL.out; have kk := block_allH bL9; have ff := fun z => block_free bL9 z))
      have g10 : w9.grownBy (w9.setCell ⟨L, 0, none⟩ (.slice a9 (ds.length + 1) c9)) (some L) := grown_setCell _ _ _ _
      have bL10 := block_setCell bL9 (i := 0) (.slice a9 (ds.length + 1) c9)
      have own10 := ownsRow_grown own9 g10 (own_neH own9 bL9 (by decide))
      have x10 := ((HX.out.trans (XW4.out.trans xb)).grown gr9 (fun k hk => by have := (HOBb.out.lt k hk).1; omega)).grown g10 (fun k hk => by cases hk; omega)
      have s10 : w.heap.size ≤ (w9.setCell ⟨L, 0, none⟩ (.slice a9 (ds.length + 1) c9)).heap.size := by have := XW4.out.size; have := xb.size; have := gr9.size; have := g10.size; omega
      go_end0
      refine ⟨rfl, _, by simpa using bL10, ?_, x10, s10⟩
      rw [List.filter_cons_of_pos HB1.out, List.filter_nil, HDL.out, List.length_append, List.flatMap_append]
      simpa using own10
    | true =>
      obtain ⟨hil3, hg3⟩ := q1 hh3
      obtain ⟨_, _, e0, _, _, _, g1⟩ := HB.out.opened
      simp only [Value.slice.injEq, true_and] at e0
      obtain ⟨rfl, rfl⟩ := e0
      obtain ⟨pb3, o3, rfl, e0, e1⟩ := g1 i3 hil3
      obtain ⟨fb, hf3⟩ : ∃ f, b[i3] = f := ⟨_, rfl⟩
      rw [hf3] at e1 hg3
      have HGb := Lib.hid hg3
      have E13 := Lib.hid e1
      have i03 : (0 : Int) ≤ (i3 : Int) := Int.natCast_nonneg _
      have i13 : (i3 : Int) < (b.length : Int) := by omega
      clear q1 q2 g1 e0 e1 hf3 hg3 hi3
      go_upto_region 6 with fail
      obtain ⟨SS3, hSS⟩ : ∃ SS : World → Prop, SS = fun v => Ext w v := ⟨_, rfl⟩
      have KS3 := fun v (h : SS3 v) => block_allH ((HX.out.trans (show Ext w v by rw [hSS] at h; exact h)).keeps HBB.out)
      have KE3 := fun v (h : SS3 v) => (HX.out.trans (show Ext w v by rw [hSS] at h; exact h)).cell E13.out
      have HSS := Lib.hid hSS
      clear hSS
      refine wp_region_G 9 (SS3) (by kernel_rfl) fun wd hqd hHeld => ?_
      have hE : Ext w4 wd := hHeld
      have hHeld : SS3 wd := by rw [HSS.out]; exact XW4.out.trans hE
      refine G_pure (i := 0) (u := ?vhb30) rfl (by kernel_rfl) (by kernel_rfl) (by kernel_rfl) (fun _ _ _ h => h) (by decide) (Or.inl ⟨by rfl, ?hyhb30⟩) hHeld ?_
      case hyhb30 => (intro w hSw; go_simp; try with_reducible rfl)
      simp only [Act.put, List.setIfInBounds_toArray, List.set_cons_zero, List.set_cons_succ, List.getElem_toArray, List.getElem_cons_zero, List.getElem_cons_succ]
      refine G_take (i := 1) (u := ?vhb31) rfl (by kernel_rfl) (by kernel_rfl) (by kernel_rfl) (fun _ _ _ h => h) rfl (by kernel_rfl) (by decide) (by rfl) (Or.inl ⟨by rfl, ?hyhb31⟩) hHeld ?_
      case hyhb31 => (intro w hSw; have kk := KS3 _ hSw; go_simp; try with_reducible rfl)
      simp only [Act.put, List.setIfInBounds_toArray, List.set_cons_zero, List.set_cons_succ, List.getElem_toArray, List.getElem_cons_zero, List.getElem_cons_succ]
      refine G_pure (i := 2) (u := ?vhb32) rfl (by kernel_rfl) (by kernel_rfl) (by kernel_rfl) (fun _ _ _ h => h) (by decide) (Or.inl ⟨by rfl, ?hyhb32⟩) hHeld ?_
      case hyhb32 => (intro w hSw; go_simp; try with_reducible rfl)
      simp only [Act.put, List.setIfInBounds_toArray, List.set_cons_zero, List.set_cons_succ, List.getElem_toArray, List.getElem_cons_zero, List.getElem_cons_succ]
      refine G_pure (i := 3) (u := ?vhb33) rfl (by kernel_rfl) (by kernel_rfl) (by kernel_rfl) (fun _ _ _ h => h) (by decide) (Or.inl ⟨by rfl, ?hyhb33⟩) hHeld ?_
      case hyhb33 => (intro w hSw; go_simp; try with_reducible rfl)
      simp only [Act.put, List.setIfInBounds_toArray, List.set_cons_zero, List.set_cons_succ, List.getElem_toArray, List.getElem_cons_zero, List.getElem_cons_succ]
      refine G_pure (i := 4) (u := ?vhb34) rfl (by kernel_rfl) (by kernel_rfl) (by kernel_rfl) (fun _ _ _ h => h) (by decide) (Or.inl ⟨by rfl, ?hyhb34⟩) hHeld ?_
      case hyhb34 => (intro w hSw; go_simp; try with_reducible rfl)
      simp only [Act.put, List.setIfInBounds_toArray, List.set_cons_zero, List.set_cons_succ, List.getElem_toArray, List.getElem_cons_zero, List.getElem_cons_succ]
      refine G_take (i := 5) (u := ?vhb35) rfl (by kernel_rfl) (by kernel_rfl) (by kernel_rfl) (fun _ _ _ h => h) rfl (by kernel_rfl) (by decide) (by rfl) (Or.inl ⟨by rfl, ?hyhb35⟩) hHeld ?_
      case hyhb35 => (intro w hSw; have kk := KE3 _ hSw; go_simp; try with_reducible rfl)
      simp only [Act.put, List.setIfInBounds_toArray, List.set_cons_zero, List.set_cons_succ, List.getElem_toArray, List.getElem_cons_zero, List.getElem_cons_succ]
      refine G_pure (i := 6) (u := ?vhb36) rfl (by kernel_rfl) (by kernel_rfl) (by kernel_rfl) (fun _ _ _ h => h) (by decide) (Or.inl ⟨by rfl, ?hyhb36⟩) hHeld ?_
      case hyhb36 => (intro w hSw; go_simp; try with_reducible rfl)
      simp only [Act.put, List.setIfInBounds_toArray, List.set_cons_zero, List.set_cons_succ, List.getElem_toArray, List.getElem_cons_zero, List.getElem_cons_succ]
      refine G_all (rs := [7]) (by kernel_rfl) (by simp) ?_
      intro i hi; obtain rfl : i = 7 := by simpa using hi
      refine wpOp_run rfl (by rfl) ?_
      have bD7 := hE.keeps bD4.out
      have kk := block_allH bD7
      have ff := fun z => block_free bD7 z
      go_simp
      have g7 : wd.grownBy (wd.setCell ⟨D, 2, none⟩ (.bool true)) (some D) := grown_setCell _ _ _ _
      have bD8 := block_setCell bD7 (i := 2) (.bool true)
      have X8 : Ext w (wd.setCell ⟨D, 2, none⟩ (.bool true)) := (XW4.out.trans hE).grown g7 (fun k hk => by cases hk; omega)
      have hHeld : SS3 (wd.setCell ⟨D, 2, none⟩ (.bool true)) := by rw [HSS.out]; exact X8
      clear kk ff
      first | refine ⟨fun _ => hHeld, ?_⟩ | refine ⟨hHeld, ?_⟩ | skip
      try simp only [Act.put, List.setIfInBounds_toArray, List.set_cons_zero, List.set_cons_succ, List.getElem_toArray, List.getElem_cons_zero, List.getElem_cons_succ]
      refine G_pure (i := 8) (u := ?vhb38) rfl (by kernel_rfl) (by kernel_rfl) (by kernel_rfl) (fun _ _ _ h => h) (by decide) (Or.inl ⟨by rfl, ?hyhb38⟩) hHeld ?_
      case hyhb38 => (intro w hSw; go_simp; try with_reducible rfl)
      simp only [Act.put, List.setIfInBounds_toArray, List.set_cons_zero, List.set_cons_succ, List.getElem_toArray, List.getElem_cons_zero, List.getElem_cons_succ]
      refine G_all (rs := [9]) (by kernel_rfl) (by simp) ?_
      intro i hi; obtain rfl : i = 9 := by simpa using hi
      refine wpOp_run rfl (by rfl) ?_
      have kk := block_allH bD8
      have ff := fun z => block_free bD8 z
      go_simp
      try refine ⟨fun e => absurd e (by decide), ?_⟩
      refine G_free _ _ _ _ (by kernel_rfl) ?_
      try simp only [Act.put, List.setIfInBounds_toArray, List.set_cons_zero, List.set_cons_succ, List.getElem_toArray, List.getElem_cons_zero, List.getElem_cons_succ]
      refine wpAny_done (by kernel_rfl) ?_ _
      refine NoPanic.normal ?_
      have g9 := grown_setCell (wd.setCell ⟨D, 2, none⟩ (.bool true)) D 4 (.string fb.text)
      have bD9 := block_setCell bD8 (i := 4) (.string fb.text)
      have X9 := X8.grown g9 (fun k hk => by cases hk; omega)
      have bD9' : ((wd.setCell ⟨D, 2, none⟩ (.bool true)).setCell ⟨D, 4, none⟩ (.string fb.text)).heap[D]? = some (.cells (dlC ⟨p, true, true, fa.text, fb.text⟩).toArray 55 (0, 0)) := by simpa [dlC] using bD9
      generalize (wd.setCell ⟨D, 2, none⟩ (.bool true)).setCell ⟨D, 4, none⟩ (.string fb.text) = w5 at *
      have bD5 := Lib.hid bD9'
      have XW5 := Lib.hid X9
      clear bD7 bD8 bD9 bD9' g7 g9 X8 X9 kk ff hHeld KS3 KE3 HSS hE
      have hd : dlt a b p = ⟨p, true, true, fa.text, fb.text⟩ := by unfold dlt; rw [HGa.out, HGb.out]; rfl
      have kD0 : w5.cell? ⟨D, 0, none⟩ = some (.string p) := by rw [block_cell bD5.out]; rfl
      have kD1 : w5.cell? ⟨D, 1, none⟩ = some (.bool true) := by rw [block_cell bD5.out]; rfl
      have kD2 : w5.cell? ⟨D, 2, none⟩ = some (.bool true) := by rw [block_cell bD5.out]; rfl
      have kD3 : w5.cell? ⟨D, 3, none⟩ = some (.string fa.text) := by rw [block_cell bD5.out]; rfl
      have kD4 : w5.cell? ⟨D, 4, none⟩ = some (.string fb.text) := by rw [block_cell bD5.out]; rfl
      cases hq : (fa.text.toList == fb.text.toList) with
      | true =>
        have hq2 : (fa.text.toList != fb.text.toList) = false := by rw [bne, hq]; rfl
        have hB : dlB (dlt a b p) = false := by rw [hd]; unfold dlB; show ((true != true) || (fa.text.toList != fb.text.toList)) = _; rw [hq2]; rfl
        have HB1 := Lib.hid hB
        clear hd hB
        go_wp2_with fail
        go_end0
        refine ⟨rfl, _, XW5.out.keeps HBL.out, ?_, HX.out.trans XW5.out, XW5.out.size⟩
        rw [List.filter_cons_of_neg (by rw [HB1.out]; decide), List.filter_nil, List.append_nil]
        exact ownsRow_ext HOWN.out XW5.out
      | false =>
        have hq2 : (fa.text.toList != fb.text.toList) = true := by rw [bne, hq]; rfl
        have hB : dlB (dlt a b p) = true := by rw [hd]; unfold dlB; show ((true != true) || (fa.text.toList != fb.text.toList)) = _; rw [hq2]; rfl
        have HDL := Lib.hid hd
        have HB1 := Lib.hid hB
        clear hd hB
        have ownN := ownsRow_ext HOWN.out XW5.out
        have bLN := XW5.out.keeps HBL.out
        obtain ⟨al, cl, el⟩ := ownSh ownN
        subst el
        have kL := block_allH bLN
        have xb : Ext w5 (w5.alloc (.cells (dlC ⟨p, true, true, fa.text, fb.text⟩).toArray 55)) := (Ext.refl _).alloc _
        have HBNb := Lib.hid (heap_alloc_new w5 (.cells (dlC ⟨p, true, true, fa.text, fb.text⟩).toArray 55))
        have HOBb := Lib.hid (ownsRow_ext ownN xb)
        have hsb : base ≤ (w5.alloc (.cells (dlC ⟨p, true, true, fa.text, fb.text⟩).toArray 55)).heap.size := by have := xb.size; have := XW5.out.size; omega
        have HNL := Lib.hid (own_neH (ownsRow_ext ownN xb) (xb.keeps bLN) (by decide))
        have HBLb := Lib.hid (xb.keeps bLN)
        clear ownN bLN
        go_wp2_with (first | ((with_reducible refine at_build1 49 (.tmp 55) ?_); refine wpl_buildOne (by rfl) 49 (.tmp 55) rfl (dlC ⟨p, true, true, fa.text, fb.text⟩) (by rfl) (build_dl _ ⟨p, true, true, fa.text, fb.text⟩) ?_) | (at_builtin; refine wpl_appAt tyD (by rfl) (.tmp 54) (.tmp 56) rfl base _ _ _ HOBb.out (by rfl) w5.heap.size (dlC ⟨p, true, true, fa.text, fb.text⟩) (0, 0) HBNb.out rfl (by rfl) (dlC_one _) (by omega) (by omega) hsb ?_; intro v9 w9 own9 gr9 at9; obtain ⟨a9, c9, e9⟩ := ownSh own9; subst e9; have bL9 := grown_keep gr9 HBLb.out HNL.out; have kk := block_allH bL9; have ff := fun z => block_free bL9 z))
        have g10 : w9.grownBy (w9.setCell ⟨L, 0, none⟩ (.slice a9 (ds.length + 1) c9)) (some L) := grown_setCell _ _ _ _
        have bL10 := block_setCell bL9 (i := 0) (.slice a9 (ds.length + 1) c9)
        have own10 := ownsRow_grown own9 g10 (own_neH own9 bL9 (by decide))
        have x10 := ((HX.out.trans (XW5.out.trans xb)).grown gr9 (fun k hk => by have := (HOBb.out.lt k hk).1; omega)).grown g10 (fun k hk => by cases hk; omega)
        have s10 : w.heap.size ≤ (w9.setCell ⟨L, 0, none⟩ (.slice a9 (ds.length + 1) c9)).heap.size := by have := XW5.out.size; have := xb.size; have := gr9.size; have := g10.size; omega
        go_end0
        refine ⟨rfl, _, by simpa using bL10, ?_, x10, s10⟩
        rw [List.filter_cons_of_pos HB1.out, List.filter_nil, HDL.out, List.length_append, List.flatMap_append]
        simpa using own10
end Go.Proofs.YtpadfabjihaapaaGreatDoor
