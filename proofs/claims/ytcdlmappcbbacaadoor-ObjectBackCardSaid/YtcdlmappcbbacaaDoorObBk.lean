/- The walk of the law ObjectBack. -/
import Derived.Test.YtcdlmappcbbacaaDoorObEw
namespace Go.Proofs.YtcdlmappcbbacaaDoor
open Go.RowKit
set_option linter.unusedVariables false
set_option linter.unusedSimpArgs false

theorem encB_pos (o : ObjL) : 0 < (encB o).length := by
  unfold encB
  split
  · simp
  split <;> simp

/-- A beginning of a slice of bytes. -/
theorem IsB.pre {w : World} {a : Option Addr} {n k : Nat} {l : List UInt8} (h : IsB w (.slice a n k) l) {c : Nat} (hc : c ≤ l.length) : IsB w (.slice a c k) (l.take c) := by
  obtain ⟨hlen, ao', cap', e, h2, h3, h4, h5⟩ := h
  simp only [Value.slice.injEq] at e
  obtain ⟨rfl, rfl, rfl⟩ := e
  have hl : (l.take c).length = c := by rw [List.length_take]; omega
  unfold IsB
  rw [hl]
  refine ⟨by simp; omega, _, _, rfl, by omega, h3, h4, fun i hi => ?_⟩
  have hi' : i < c := by rw [List.length_map, hl] at hi; exact hi
  obtain ⟨b, off, e1, e2⟩ := h5 i (by simp; omega)
  refine ⟨b, off, e1, ?_⟩
  rw [e2, List.map_take, List.getElem?_take, if_pos hi']

set_option maxHeartbeats 8000000 in
set_option maxRecDepth 100000 in
theorem walkBack0 (w : World) (QA : Array Value) (va ve vp : Value) (o : ObjL) (h : IsObj w QA va ve vp o) (cut : Int) (hcut : -9223372036854775808 ≤ cut ∧ cut ≤ 9223372036854775807) (hT : Tabs w) :
    Calls Tryd.prog 4 #[.agg QA, .int .i64 cut] w fun e w' => e = .returned (.bool true) ∧ Below w.heap.size w w' := by
  have b3 := heap_alloc_new w (.cells QA 29)
  have X0 : Ext w (w.alloc (.cells QA 29)) := (Ext.refl w).alloc _
  have HX := Lib.hid (h.ext X0)
  have HT := Lib.hid (hT.ext X0)
  have ho := h.ok
  have hiba : (Tryd.prog.info? 29).map (·.size) = some QA.toList.length := by rw [Array.length_toList]; exact h.info
  clear h hT
  go_enter Tryd.func4, Tryd.ntmps4
  go_wp2_with fail
  generalize w.alloc (.cells QA 29) = w0 at *
  generalize hG : w.heap.size = G at *
  refine (wakes05 _).mono ?_
  rintro e w1 ⟨rfl, x1⟩
  have b31 := x1.keeps b3
  go_wp2_with ((with_reducible refine at_load 29 (.tmp 2) ?_); refine wpl_load (by rfl) 29 (.tmp 2) rfl G (by rfl) 29 QA (0, 0) _ b31 Tryd.underlying29 rfl (HX.out).info ?_)
  refine Calls.mono (lawLarge _ _ _ _ _ o (HX.out.ext x1)) ?_
  rintro e w2 ⟨rfl, x2⟩
  have X2 := x1.trans x2
  cases hla : largeB o with
  | true =>
    go_wp2
    go_ret
    exact ⟨rfl, X0.trans X2⟩
  | false =>
  have b32 := x2.keeps b31
  clear b31 hla
  go_wp2_with ((with_reducible refine at_load 29 (.tmp 2) ?_); refine wpl_load (by rfl) 29 (.tmp 2) rfl G (by rfl) 29 QA (0, 0) _ b32 Tryd.underlying29 rfl HX.out.info ?_)
  refine Calls.mono (objEncode _ _ _ _ _ o (HX.out.ext X2)) ?_
  rintro ee w4 ⟨v4, rfl, own4, x4⟩
  have hB4 := IsB.of_owns own4
  have X4 := X2.trans x4
  have b34 := x4.keeps b32
  clear own4 b32
  cases hc : checkB o with
  | false =>
    have hE : encO o = [] := by unfold encO; rw [hc]; rfl
    rw [hE] at hB4
    obtain ⟨a4, k4, rfl⟩ := sl_len hB4
    rw [chkF]
    go_wp2
    go_ret
    exact ⟨rfl, X0.trans X4⟩
  | true =>
    have hE : encO o = encB o := by unfold encO; rw [hc]; rfl
    have hle := encB_le hc ho
    have hps := encB_pos o
    have hdec := dec_enc hc ho
    have HSH := Lib.hid (fun c hc' => dec_short (c := c) hc ho hc')
    rw [hE] at hB4
    rw [chkT]
    obtain ⟨a4, k4, rfl⟩ := sl_len hB4
    have hk4 := (sl_cap hB4).2.1
    have hk5 := (sl_cap hB4).2.2
    have HB4 := Lib.hid hB4
    clear hB4 hE
    go_wp2_with fail
    refine Calls.mono (objDecode _ _ _ HB4.out (by omega)) ?_
    rintro ee w5 ⟨QD, d1, d2, d3, rfl, hD, x5⟩
    rw [hdec] at hD ⊢
    simp only at hD
    have hsz := hD.size
    have hob := hD.one
    have hinfo := hD.info
    have hibd : (Tryd.prog.info? 29).map (·.size) = some QD.toList.length := by rw [Array.length_toList]; exact hinfo
    have bD := heap_alloc_new w5 (.cells QD 29)
    have xq : Ext w5 (w5.alloc (.cells QD 29)) := (Ext.refl w5).alloc _
    have HD := Lib.hid (hD.ext xq)
    have b36 := xq.keeps (x5.keeps b34)
    have X6 := X4.trans (x5.trans xq)
    have HB4 := Lib.hid ((HB4.out.ext x5).ext xq)
    clear hD b34 hdec
    obtain ⟨L, hL⟩ : ∃ L, (encB o).length = L := ⟨_, rfl⟩
    rw [hL] at hle hps HB4 hk4 ⊢
    have hL0 : ((L : Int) == 0) = false := by simp; omega
    obtain ⟨c, hcL, hcE⟩ : ∃ c : Nat, c < L ∧ max cut 0 % (L : Int) = (c : Int) := by
      refine ⟨(max cut 0).toNat % L, Nat.mod_lt _ hps, ?_⟩
      have h0 : (0 : Int) ≤ max cut 0 := by omega
      generalize max cut 0 = m at *
      rw [Int.natCast_emod, Int.toNat_of_nonneg h0]
    have hck : (c : Int) ≤ (k4 : Int) := by omega
    have hc0 : (0 : Int) ≤ (c : Int) := Int.natCast_nonneg _
    go_wp2_with ((with_reducible refine at_store 29 (.tmp 7) (.tmp 30) ?_); refine wpl_store (by rfl) 29 (.tmp 7) (.tmp 30) rfl w5.heap.size QD (by rfl) (by rfl) 29 _ (heap_alloc_new _ _) hinfo (by rw [hsz]; rfl) hob ?_; rw [World.setRow_alloc_new])
    have hsh := HSH.out c (by omega)
    refine Calls.mono (objDecode _ _ _ (HB4.out.pre (c := c) (by omega)) (by rw [List.length_take]; omega)) ?_
    rintro ee w6 ⟨QE, e1, e2, e3, rfl, hE, x6⟩
    rw [hsh] at hE ⊢
    simp only at hE
    have hszE := hE.size
    have hobE := hE.one
    have hinfoE := hE.info
    have bE := heap_alloc_new w6 (.cells QE 29)
    have xe : Ext w6 (w6.alloc (.cells QE 29)) := (Ext.refl w6).alloc _
    have x67 := x6.trans xe
    have HD := Lib.hid (HD.out.ext x67)
    have HB4 := Lib.hid (HB4.out.ext x67)
    have b37 := x67.keeps b36
    have bD := x67.keeps bD
    have X7 := X6.trans x67
    clear hE b36 hsh
    generalize hK5 : w5.heap.size = K5 at *
    go_wp2_with (first
      | ((with_reducible refine at_store 29 (.tmp 9) (.tmp 41) ?_); refine wpl_store (by rfl) 29 (.tmp 9) (.tmp 41) rfl w6.heap.size QE (by rfl) (by rfl) 29 _ (heap_alloc_new _ _) hinfoE (by rw [hszE]; rfl) hobE ?_; rw [World.setRow_alloc_new])
      | ((with_reducible refine at_load 29 (.tmp 2) ?_); refine wpl_load (by rfl) 29 (.tmp 2) rfl G (by rfl) 29 QA (0, 0) _ b37 Tryd.underlying29 rfl HX.out.info ?_))
    refine Calls.mono (objId _ _ _ _ _ o (HX.out.ext X7) (HT.out.ext X7)) ?_
    rintro ee w8 ⟨rfl, x8⟩
    rw [hc, chkT]
    have hIl := idL_len o
    have bI := heap_alloc_new w8 (.cells ((idL o).map bc).toArray 25)
    have xi : Ext w8 (w8.alloc (.cells ((idL o).map bc).toArray 25)) := (Ext.refl w8).alloc _
    have x9 := x8.trans xi
    have ba := x9.keeps b37
    have bD := x9.keeps bD
    have HD := Lib.hid (HD.out.ext x9)
    have HB4 := Lib.hid (HB4.out.ext x9)
    have Xd := X7.trans x9
    have hiI : (Tryd.prog.info? 25).map (·.size) = some ((idL o).map bc).length := by rw [id_size hIl, List.size_toArray]
    have hIs : idL o = shaL (encB o) := by unfold idL; rw [hc]; rfl
    have hII : ∀ w : World, (binOp .eql 25 (.agg ((idL o).map bc).toArray) (.agg ((shaL (encB o)).map bc).toArray)).run Tryd.prog w = .ok (.bool true) w := fun w => by rw [eql_id w _ _ hIl (shaL_len _), decide_eq_true hIs]
    clear b37 hIs hcE hcut
    go_wp2_with ((with_reducible refine at_store 25 (.tmp 11) (.tmp 46) ?_); refine wpl_store (by rfl) 25 (.tmp 11) (.tmp 46) rfl w8.heap.size ((idL o).map bc).toArray (by rfl) (by rfl) 25 _ (heap_alloc_new _ _) (id_size hIl) (by simp [hIl]) (id_one _) ?_; rw [World.setRow_alloc_new])
    have HA := HX
    have hle9 : (encB o).length ≤ 1099511627776 := by omega
    generalize w8.alloc (.cells ((idL o).map bc).toArray 25) = w9 at *
    generalize w8.heap.size = J at *
    have xq : Ext w9 w9 := Ext.refl _
    refine wp_region_ext (by kernel_rfl) fun wd hqd xd hHeld => ?_
    have ba := xd.keeps ba
    have bI := xd.keeps bI
    have bD := xd.keeps bD
    have Xd := Xd.trans xd; have xq := xq.trans xd
    refine wpAnyH_take (i := 0) (v := ?vb0) rfl (by kernel_rfl) (by kernel_rfl) (by kernel_rfl) (fun _ _ _ h => h) (Or.inl ⟨by rfl, ?hyb0⟩) hHeld ?_
    case hyb0 => (intro w hSw; go_simp; try with_reducible rfl)
    simp only [Act.put, List.setIfInBounds_toArray, List.set_cons_zero, List.set_cons_succ, List.getElem_toArray, List.getElem_cons_zero, List.getElem_cons_succ]
    refine wpAnyH_take (i := 1) (v := ?vb1) rfl (by kernel_rfl) (by kernel_rfl) (by kernel_rfl) (fun _ _ _ h => h) (Or.inl ⟨by rfl, ?hyb1⟩) hHeld ?_
    case hyb1 => (intro w hSw; go_simp; try with_reducible rfl)
    simp only [Act.put, List.setIfInBounds_toArray, List.set_cons_zero, List.set_cons_succ, List.getElem_toArray, List.getElem_cons_zero, List.getElem_cons_succ]
    refine wpAnyH_take (i := 2) (v := ?vb2) rfl (by kernel_rfl) (by kernel_rfl) (by kernel_rfl) (fun _ _ _ h => h) (Or.inl ⟨by rfl, ?hyb2⟩) hHeld ?_
    case hyb2 => (intro w hSw; go_simp; try with_reducible rfl)
    simp only [Act.put, List.setIfInBounds_toArray, List.set_cons_zero, List.set_cons_succ, List.getElem_toArray, List.getElem_cons_zero, List.getElem_cons_succ]
    refine wpAnyH_take (i := 3) rfl (by kernel_rfl) (by kernel_rfl) (by kernel_rfl) (fun _ _ _ h => h) (yieldsIf_load_mid (by rfl) _ _ rfl _ _ rfl (QD.toList) _ (fun w h => rangeAt_of (h.keeps bD)) Tryd.underlying29 rfl hibd) hHeld ?_
    simp only [Act.put, List.setIfInBounds_toArray, List.set_cons_zero, List.set_cons_succ, List.getElem_toArray, List.getElem_cons_zero, List.getElem_cons_succ]
    refine wpAnyH_take (i := 4) rfl (by kernel_rfl) (by kernel_rfl) (by kernel_rfl) (fun _ _ _ h => h) (yieldsIf_load_mid (by rfl) _ _ rfl _ _ rfl (QA.toList) _ (fun w h => rangeAt_of (h.keeps ba)) Tryd.underlying29 rfl hiba) hHeld ?_
    simp only [Act.put, List.setIfInBounds_toArray, List.set_cons_zero, List.set_cons_succ, List.getElem_toArray, List.getElem_cons_zero, List.getElem_cons_succ]
    refine wpAnyH_all (rs := [5]) (by kernel_rfl) (by simp) ?_
    intro i hi; obtain rfl : i = 5 := by simpa using hi
    refine wpOp_run rfl (by rfl) ?_
    go_simp
    refine Calls.mono (objSame _ _ _ _ _ _ _ _ _ o o (HD.out.ext xq) (HA.out.ext Xd)) ?_
    rintro ee wa ⟨rfl, xa⟩
    have ba := xa.keeps ba
    have bI := xa.keeps bI
    have bD := xa.keeps bD
    have Xd := Xd.trans xa; have xq := xq.trans xa
    refine wpAnyH_call (xa) fun hHeld => ?_
    try simp only [Act.put, List.setIfInBounds_toArray, List.set_cons_zero, List.set_cons_succ, List.getElem_toArray, List.getElem_cons_zero, List.getElem_cons_succ]
    refine wpAnyH_take (i := 6) (v := ?vb6) rfl (by kernel_rfl) (by kernel_rfl) (by kernel_rfl) (fun _ _ _ h => h) (Or.inl ⟨by rfl, ?hyb6⟩) hHeld ?_
    case hyb6 => (intro w hSw; have k := same_self o; go_simp; try with_reducible rfl)
    simp only [Act.put, List.setIfInBounds_toArray, List.set_cons_zero, List.set_cons_succ, List.getElem_toArray, List.getElem_cons_zero, List.getElem_cons_succ]
    refine wpAnyH_take (i := 7) (v := ?vb7) rfl (by kernel_rfl) (by kernel_rfl) (by kernel_rfl) (fun _ _ _ h => h) (Or.inl ⟨by rfl, ?hyb7⟩) hHeld ?_
    case hyb7 => (intro w hSw; go_simp; try with_reducible rfl)
    simp only [Act.put, List.setIfInBounds_toArray, List.set_cons_zero, List.set_cons_succ, List.getElem_toArray, List.getElem_cons_zero, List.getElem_cons_succ]
    refine wpAnyH_take (i := 8) (v := ?vb8) rfl (by kernel_rfl) (by kernel_rfl) (by kernel_rfl) (fun _ _ _ h => h) (Or.inl ⟨by rfl, ?hyb8⟩) hHeld ?_
    case hyb8 => (intro w hSw; go_simp; try with_reducible rfl)
    simp only [Act.put, List.setIfInBounds_toArray, List.set_cons_zero, List.set_cons_succ, List.getElem_toArray, List.getElem_cons_zero, List.getElem_cons_succ]
    refine wpAnyH_take (i := 9) (v := ?vb9) rfl (by kernel_rfl) (by kernel_rfl) (by kernel_rfl) (fun _ _ _ h => h) (Or.inl ⟨by rfl, ?hyb9⟩) hHeld ?_
    case hyb9 => (intro w hSw; go_simp; try with_reducible rfl)
    simp only [Act.put, List.setIfInBounds_toArray, List.set_cons_zero, List.set_cons_succ, List.getElem_toArray, List.getElem_cons_zero, List.getElem_cons_succ]
    refine wpAnyH_take (i := 10) (v := ?vb10) rfl (by kernel_rfl) (by kernel_rfl) (by kernel_rfl) (fun _ _ _ h => h) (Or.inl ⟨by rfl, ?hyb10⟩) hHeld ?_
    case hyb10 => (intro w hSw; go_simp; try with_reducible rfl)
    simp only [Act.put, List.setIfInBounds_toArray, List.set_cons_zero, List.set_cons_succ, List.getElem_toArray, List.getElem_cons_zero, List.getElem_cons_succ]
    refine wpAnyH_take (i := 11) (v := ?vb11) rfl (by kernel_rfl) (by kernel_rfl) (by kernel_rfl) (fun _ _ _ h => h) (Or.inl ⟨by rfl, ?hyb11⟩) hHeld ?_
    case hyb11 => (intro w hSw; go_simp; try with_reducible rfl)
    simp only [Act.put, List.setIfInBounds_toArray, List.set_cons_zero, List.set_cons_succ, List.getElem_toArray, List.getElem_cons_zero, List.getElem_cons_succ]
    refine wpAnyH_take (i := 12) (v := ?vb12) rfl (by kernel_rfl) (by kernel_rfl) (by kernel_rfl) (fun _ _ _ h => h) (Or.inl ⟨by rfl, ?hyb12⟩) hHeld ?_
    case hyb12 => (intro w hSw; go_simp; try with_reducible rfl)
    simp only [Act.put, List.setIfInBounds_toArray, List.set_cons_zero, List.set_cons_succ, List.getElem_toArray, List.getElem_cons_zero, List.getElem_cons_succ]
    refine wpAnyH_take (i := 13) (v := ?vb13) rfl (by kernel_rfl) (by kernel_rfl) (by kernel_rfl) (fun _ _ _ h => h) (Or.inl ⟨by rfl, ?hyb13⟩) hHeld ?_
    case hyb13 => (intro w hSw; go_simp; try with_reducible rfl)
    simp only [Act.put, List.setIfInBounds_toArray, List.set_cons_zero, List.set_cons_succ, List.getElem_toArray, List.getElem_cons_zero, List.getElem_cons_succ]
    refine wpAnyH_take (i := 14) (v := ?vb14) rfl (by kernel_rfl) (by kernel_rfl) (by kernel_rfl) (fun _ _ _ h => h) (Or.inl ⟨by rfl, ?hyb14⟩) hHeld ?_
    case hyb14 => (intro w hSw; go_simp; try with_reducible rfl)
    simp only [Act.put, List.setIfInBounds_toArray, List.set_cons_zero, List.set_cons_succ, List.getElem_toArray, List.getElem_cons_zero, List.getElem_cons_succ]
    refine wpAnyH_take (i := 15) (v := ?vb15) rfl (by kernel_rfl) (by kernel_rfl) (by kernel_rfl) (fun _ _ _ h => h) (Or.inl ⟨by rfl, ?hyb15⟩) hHeld ?_
    case hyb15 => (intro w hSw; go_simp; try with_reducible rfl)
    simp only [Act.put, List.setIfInBounds_toArray, List.set_cons_zero, List.set_cons_succ, List.getElem_toArray, List.getElem_cons_zero, List.getElem_cons_succ]
    refine wpAnyH_take (i := 16) rfl (by kernel_rfl) (by kernel_rfl) (by kernel_rfl) (fun _ _ _ h => h) (yieldsIf_load_mid (by rfl) _ _ rfl _ _ rfl (((idL o).map bc)) _ (fun w h => rangeAt_of (h.keeps bI)) Tryd.underlying25 rfl hiI) hHeld ?_
    simp only [Act.put, List.setIfInBounds_toArray, List.set_cons_zero, List.set_cons_succ, List.getElem_toArray, List.getElem_cons_zero, List.getElem_cons_succ]
    refine wpAnyH_take (i := 17) (v := ?vb17) rfl (by kernel_rfl) (by kernel_rfl) (by kernel_rfl) (fun _ _ _ h => h) (Or.inl ⟨by rfl, ?hyb17⟩) hHeld ?_
    case hyb17 => (intro w hSw; go_simp; try with_reducible rfl)
    simp only [Act.put, List.setIfInBounds_toArray, List.set_cons_zero, List.set_cons_succ, List.getElem_toArray, List.getElem_cons_zero, List.getElem_cons_succ]
    refine wpAnyH_all (rs := [18]) (by kernel_rfl) (by simp) ?_
    intro i hi; obtain rfl : i = 18 := by simpa using hi
    refine wpOp_run rfl (by rfl) ?_
    go_simp
    refine Calls.mono (shaSum _ _ (encB o) (HB4.out.ext xq) hle9 (HT.out.ext Xd)) ?_
    rintro ee wg ⟨rfl, xg⟩
    have ba := xg.keeps ba
    have bI := xg.keeps bI
    have bD := xg.keeps bD
    have Xd := Xd.trans xg; have xq := xq.trans xg
    refine wpAnyH_call (xg) fun hHeld => ?_
    try simp only [Act.put, List.setIfInBounds_toArray, List.set_cons_zero, List.set_cons_succ, List.getElem_toArray, List.getElem_cons_zero, List.getElem_cons_succ]
    refine wpAnyH_take (i := 19) (v := ?vb19) rfl (by kernel_rfl) (by kernel_rfl) (by kernel_rfl) (fun _ _ _ h => h) (Or.inl ⟨by rfl, ?hyb19⟩) hHeld ?_
    case hyb19 => (intro w hSw; have k := hII w; go_simp; try with_reducible rfl)
    simp only [Act.put, List.setIfInBounds_toArray, List.set_cons_zero, List.set_cons_succ, List.getElem_toArray, List.getElem_cons_zero, List.getElem_cons_succ]
    refine wpAnyH_take (i := 20) (v := ?vb20) rfl (by kernel_rfl) (by kernel_rfl) (by kernel_rfl) (fun _ _ _ h => h) (Or.inl ⟨by rfl, ?hyb20⟩) hHeld ?_
    case hyb20 => (intro w hSw; go_simp; try with_reducible rfl)
    simp only [Act.put, List.setIfInBounds_toArray, List.set_cons_zero, List.set_cons_succ, List.getElem_toArray, List.getElem_cons_zero, List.getElem_cons_succ]
    refine wpAnyH_take (i := 21) (v := ?vb21) rfl (by kernel_rfl) (by kernel_rfl) (by kernel_rfl) (fun _ _ _ h => h) (Or.inl ⟨by rfl, ?hyb21⟩) hHeld ?_
    case hyb21 => (intro w hSw; go_simp; try with_reducible rfl)
    simp only [Act.put, List.setIfInBounds_toArray, List.set_cons_zero, List.set_cons_succ, List.getElem_toArray, List.getElem_cons_zero, List.getElem_cons_succ]
    refine wpAnyH_done (by kernel_rfl) ?_ _
    refine NoPanic.normal ?_
    go_wp2
    go_ret
    exact ⟨rfl, X0.trans Xd⟩
theorem walkObjectBack (w : World) (v : Value) (o : ObjL) (h : ArgObj w v o) (cut : Int) (h1 : -9223372036854775808 ≤ cut) (h2 : cut ≤ 9223372036854775807) (hT : Tabs w) :
    Calls Tryd.prog 4 #[v, .int .i64 cut] w fun e w' => e = .returned (.bool true) ∧ Below w.heap.size w w' := by
  obtain ⟨QA, a1, a2, a3, rfl, h⟩ := h
  exact walkBack0 w QA a1 a2 a3 o h cut ⟨h1, h2⟩ hT
end Go.Proofs.YtcdlmappcbbacaaDoor
