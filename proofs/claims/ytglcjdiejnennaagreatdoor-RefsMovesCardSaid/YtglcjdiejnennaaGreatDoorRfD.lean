/- slices.Delete at branches. -/
import Derived.Test.YtglcjdiejnennaaGreatDoorCpN
import Derived.Test.YtglcjdiejnennaaGreatDoorObL
import Derived.Test.YtglcjdiejnennaaGreatDoorRfC
import Derived.Test.YtglcjdiejnennaaGreatDoorRegG
import Derived.Test.YtglcjdiejnennaaGreatDoorRegC
import Derived.Test.YtglcjdiejnennaaGreatDoorRegP
import Derived.Laws.Externs
import Derived.Deep.DeepAppendWide
import Derived.Deep.DeepCutAuto
import Derived.BigGuardPart
import Derived.Outline
namespace Go.Proofs.YtglcjdiejnennaaGreatDoor
open Go.RowKit
set_option linter.unusedVariables false
set_option linter.unusedSimpArgs false

theorem Z1 (z : Value) (hz : (Tryz.prog.info? 78).bind (·.zero) = some z) (Z : List Value) (h : (Builtin.zeroCells z.cells 1).toList = Z) : ∀ v ∈ Z, v.oneCell' = true := by
  have hq : ((Tryz.prog.info? 78).bind (·.zero)).map (fun z => (Builtin.zeroCells z.cells 1).toList.all (·.oneCell')) = some true := by kernel_rfl
  rw [hz] at hq
  simp only [Option.map_some, Option.some.injEq] at hq
  rw [h] at hq
  exact List.all_eq_true.1 hq

set_option maxHeartbeats 1000000 in
set_option maxRecDepth 100000 in
theorem delRf (w : World) (base : Nat) (v : Value) (n : Nat) (xs : List Value) (own : w.ownsRow base 78 33 v n xs) (hbase : base ≤ w.heap.size) (i : Nat) (hi : i < n) (hn : n ≤ 100000) (hx1 : ∀ c ∈ xs, c.oneCell' = true) :
    Calls Tryz.prog 45 #[v, .int .i64 (i : Int), .int .i64 ((i : Int) + 1)] w fun e w' => ∃ v', e = .returned v' ∧ w'.ownsRow base 78 33 v' (n - 1) (xs.take (i * 33) ++ xs.drop ((i + 1) * 33)) ∧ w.grownBy w' v.ownBlock := by
  obtain ⟨zE, tyE⟩ := tyRf
  have hlx := own.1
  obtain ⟨_, h2⟩ := own
  rcases h2 with ⟨_, h0⟩ | ⟨g, cap, cur, rfl, hb, hg, hnc, hcm, hsz, htk⟩
  · omega
  have hcm' : cap ≤ 9223372036854775807 := by unfold maxLen at hcm; omega
  obtain ⟨ie, hie1, hzz, hiz, hib⟩ := tyE.info
  have hinfo : (Tryz.prog.info? 78).map (·.size) = some 33 := by rw [hie1]; simp [hiz]
  have hzs := tyE.cells
  have hcells : ∀ j u, xs[j]? = some u → w.cell? ⟨g, j, none⟩ = some u := by
    intro j u hj
    have hjl : j < n * 33 := by have := (List.getElem?_eq_some_iff.1 hj).1; omega
    rw [block_cell hg, ← hj, ← htk, List.getElem?_take, if_pos hjl, Array.getElem?_toList]
  obtain ⟨m, hm⟩ : ∃ m, n = i + 1 + m := ⟨n - (i + 1), by omega⟩
  subst hm
  have hxdl : (xs.drop ((i + 1) * 33)).length = m * 33 := by rw [List.length_drop, hlx, ← Nat.sub_mul]; congr 1; omega
  have hxtl : (xs.take (i * 33)).length = i * 33 := by rw [List.length_take, hlx, Nat.min_eq_left (Nat.mul_le_mul_right _ (by omega))]
  have hcl : cur.toList.length = cap * 33 := by rw [Array.length_toList, hsz]
  have hik : i * 33 + m * 33 = (i + m) * 33 := by rw [← Nat.add_mul]
  have hik4 : (i + m) * 33 + 33 = (i + 1 + m) * 33 := by rw [← Nat.succ_mul]; congr 1; omega
  have hfit : (i + 1 + m) * 33 ≤ cap * 33 := Nat.mul_le_mul_right _ hnc
  have hx1d : ∀ c ∈ xs.drop ((i + 1) * 33), c.oneCell' = true := fun c hc => hx1 c (List.mem_of_mem_drop hc)
  have q2 : ((i : Int) == (i : Int) + 1) = false := by rw [beq_eq_false_iff_ne]; omega
  have q3 : (i : Int) ≤ (cap : Int) := by omega
  have q4 : (i : Int) + 1 + (m : Int) ≤ (cap : Int) := by omega
  have q5 : (cap : Int) ≤ 9223372036854775807 := by omega
  have q6 : (i : Int) + 1 + (m : Int) ≤ 100000 := by omega
  have q1 : ¬ cap = i := by omega
  have q9 : (0 : Int) ≤ (i : Int) + 1 := by omega
  have q10 : (0 : Int) ≤ (i : Int) := by omega
  have q11 : ((i : Int) + 1).toNat = i + 1 := by omega
  have q14 : (i : Int) + 1 ≤ (cap : Int) := by omega
  have q15 : (i : Int) + 1 ≤ (i : Int) + 1 + (m : Int) := by omega
  have q16 : ¬ cap = i + m := by omega
  have q17 : (i : Int) + (m : Int) ≤ (i : Int) + 1 + (m : Int) := by omega
  have q19 : (i : Int) ≤ (i : Int) + 1 := by omega
  have q20 : 0 < i + 1 + m - (i + m) := by omega
  have hd1 : i + 1 + m - (i + m) = 1 := by omega
  obtain ⟨L1, hL1⟩ : ∃ L1, cur.toList.take (i * 33) ++ xs.drop ((i + 1) * 33) ++ cur.toList.drop (i * 33 + (xs.drop ((i + 1) * 33)).length) = L1 := ⟨_, rfl⟩
  have hL1l : L1.length = cap * 33 := by rw [← hL1]; simp only [List.length_append, List.length_take, List.length_drop, hcl, hlx]; omega
  have hap : ∀ (W : World), W.heap = w.heap → ∀ ty (o : Nat) sc, (m = 0 ∨ o = (i + 1) * 33) → (Builtin.append_ #[61, 61] ty #[.slice (some ⟨g, 0, none⟩) i cap, .slice (some ⟨g, o, none⟩) m sc]).run Tryz.prog W = .ok (.slice (some ⟨g, 0, none⟩) (i + m) cap) (W.setRow g L1.toArray) := fun W hW ty o sc ho => by
    rw [← hL1]
    exact run_appendN W _ ty 78 33 g i cap ⟨g, o, none⟩ m sc (xs.drop ((i + 1) * 33)) cur Tryz.underlying61 hinfo (by rw [hW]; exact hg) hxdl
      (fun j u hj => by
        rcases ho with ho | ho
        · have := (List.getElem?_eq_some_iff.1 hj).1
          rw [hxdl, ho] at this
          omega
        · subst ho
          rw [Addr.add_lit]; rw [List.getElem?_drop] at hj; have := hcells _ u hj; unfold World.cell? at this ⊢; rw [hW]; exact this) (by omega) (by rw [hxdl, hik, hsz]; omega) hx1d
  obtain ⟨Z, hZ⟩ : ∃ Z, (Builtin.zeroCells zE.cells 1).toList = Z := ⟨_, rfl⟩
  have hZl : Z.length = 33 := by rw [← hZ, Array.length_toList, size_zeroCells, hzs]
  obtain ⟨L2, hL2⟩ : ∃ L2, L1.take ((i + m) * 33) ++ Z ++ L1.drop ((i + m) * 33 + Z.length) = L2 := ⟨_, rfl⟩
  have hL2l : L2.length = cap * 33 := by rw [← hL2]; simp only [List.length_append, List.length_take, List.length_drop, hL1l, hZl]; omega
  have hcl' : ∀ (W : World), W.heap[g]? = some (.cells L1.toArray 78 (0, 0)) → ∀ ty c d, d = 1 → (Builtin.clear_ #[61] ty #[.slice (some ⟨g, (i + m) * 33, none⟩) d c]).run Tryz.prog W = .ok (.tuple #[]) (W.setRow g L2.toArray) := fun W hW ty c d hd => by
    subst hd
    have := run_clearN (P := Tryz.prog) W 61 ty 78 ie zE g ((i + m) * 33) 1 c L1.toArray 78 Tryz.underlying61 hie1 hzz (by omega) hW (by rw [hZ, hZl, List.size_toArray, hL1l, hik4]; exact hfit) (by rw [hZ]; exact Z1 zE (by rw [hie1]; exact hzz) Z hZ)
    rw [hZ] at this
    rw [← hL2]
    simpa using this
  have HF : ∀ (W : World), W.heap[g]? = some (.cells L2.toArray 78 (0, 0)) → W.ownsRow base 78 33 (.slice (some ⟨g, 0, none⟩) (i + m) cap) (i + 1 + m - 1) (xs.take (i * 33) ++ xs.drop ((i + 1) * 33)) := fun W hW => by
    have e1 : i + 1 + m - 1 = i + m := by omega
    rw [e1]
    refine ⟨?_, .inr ⟨g, cap, _, rfl, hb, hW, (by omega), hcm, ?_, ?_⟩⟩
    · rw [List.length_append, hxdl, hxtl, hik]
    · rw [List.size_toArray, hL2l]
    · have hle : (L1.take ((i + m) * 33)).length = (i + m) * 33 := by rw [List.length_take, hL1l]; omega
      have t1 : cur.toList.take (i * 33) = xs.take (i * 33) := by
        rw [← htk, List.take_take, Nat.min_eq_left (Nat.mul_le_mul_right _ (by omega))]
      rw [← hL2, List.append_assoc, List.take_left' hle, ← hL1, t1]
      exact List.take_left' (by rw [List.length_append, hxdl, hxtl, hik])
  have HG := Lib.hid hg
  have HFF := Lib.hid HF
  have HAP := Lib.hid hap
  have HCL := Lib.hid hcl'
  clear HF hg hcells hx1 hx1d htk hL1 hinfo hL2 hap hcl' hZ hZl hL1l hL2l
  by_cases q13 : cap = i + 1
  · have q18 : m = 0 := by omega
    subst q18 q13
    go_enter Tryz.func45, Tryz.ntmps45
    go_upto_region 5 with fail
    refine wp_region_G 6 (fun v => Ext w v) (by kernel_rfl) fun wd hqd hHeld => ?_
    refine G_pure (i := 0) (u := ?va0) rfl (by kernel_rfl) (by kernel_rfl) (by kernel_rfl) (fun _ _ _ h => h) (by decide) (Or.inl ⟨by rfl, ?hya0⟩) hHeld ?_
    case hya0 => (intro w hSw; go_simp; try with_reducible rfl)
    simp only [Act.put, List.setIfInBounds_toArray, List.set_cons_zero, List.set_cons_succ, List.getElem_toArray, List.getElem_cons_zero, List.getElem_cons_succ]
    refine G_pure (i := 1) (u := ?va1) rfl (by kernel_rfl) (by kernel_rfl) (by kernel_rfl) (fun _ _ _ h => h) (by decide) (Or.inl ⟨by rfl, ?hya1⟩) hHeld ?_
    case hya1 => (intro w hSw; go_simp; try with_reducible rfl)
    simp only [Act.put, List.setIfInBounds_toArray, List.set_cons_zero, List.set_cons_succ, List.getElem_toArray, List.getElem_cons_zero, List.getElem_cons_succ]
    refine G_pure (i := 2) (u := ?va2) rfl (by kernel_rfl) (by kernel_rfl) (by kernel_rfl) (fun _ _ _ h => h) (by decide) (Or.inl ⟨by rfl, ?hya2⟩) hHeld ?_
    case hya2 => (intro w hSw; go_simp; try with_reducible rfl)
    simp only [Act.put, List.setIfInBounds_toArray, List.set_cons_zero, List.set_cons_succ, List.getElem_toArray, List.getElem_cons_zero, List.getElem_cons_succ]
    refine G_pure (i := 3) (u := ?va3) rfl (by kernel_rfl) (by kernel_rfl) (by kernel_rfl) (fun _ _ _ h => h) (by decide) (Or.inl ⟨by rfl, ?hya3⟩) hHeld ?_
    case hya3 => (intro w hSw; go_simp; try with_reducible rfl)
    simp only [Act.put, List.setIfInBounds_toArray, List.set_cons_zero, List.set_cons_succ, List.getElem_toArray, List.getElem_cons_zero, List.getElem_cons_succ]
    refine G_pure (i := 4) (u := ?va4) rfl (by kernel_rfl) (by kernel_rfl) (by kernel_rfl) (fun _ _ _ h => h) (by decide) (Or.inl ⟨by rfl, ?hya4⟩) hHeld ?_
    case hya4 => (intro w hSw; go_simp; try with_reducible rfl)
    simp only [Act.put, List.setIfInBounds_toArray, List.set_cons_zero, List.set_cons_succ, List.getElem_toArray, List.getElem_cons_zero, List.getElem_cons_succ]
    refine G_pure (i := 5) (u := ?va5) rfl (by kernel_rfl) (by kernel_rfl) (by kernel_rfl) (fun _ _ _ h => h) (by decide) (Or.inl ⟨by rfl, ?hya5⟩) hHeld ?_
    case hya5 => (intro w hSw; go_simp; try with_reducible rfl)
    simp only [Act.put, List.setIfInBounds_toArray, List.set_cons_zero, List.set_cons_succ, List.getElem_toArray, List.getElem_cons_zero, List.getElem_cons_succ]
    refine G_all (rs := [6]) (by kernel_rfl) (by simp) ?_
    intro i hi; obtain rfl : i = 6 := by simpa using hi
    refine wpOp_run rfl (by rfl) ?_
    have hwd : wd.heap = w.heap := (by obtain ⟨q, rfl⟩ := hqd; rfl)
    refine wp_appendN _ (.tmp 22) (.tmp 25) 61 61 rfl _ _ (by rfl) (by rfl) (fun ty => HAP.out _ hwd ty _ _ (.inl rfl)) ?_
    try refine ⟨fun e => absurd e (by decide), ?_⟩
    refine G_free _ _ _ _ (by kernel_rfl) ?_
    try simp only [Act.put, List.setIfInBounds_toArray, List.set_cons_zero, List.set_cons_succ, List.getElem_toArray, List.getElem_cons_zero, List.getElem_cons_succ]
    refine wpAny_take (i := 7) (v := ?va7) rfl (by kernel_rfl) (by kernel_rfl) (by kernel_rfl) (fun _ _ _ h => h) (Or.inl ⟨by rfl, ?hya7⟩) ?_
    case hya7 => (intro w ; go_simp; try with_reducible rfl)
    simp only [Act.put, List.setIfInBounds_toArray, List.set_cons_zero, List.set_cons_succ, List.getElem_toArray, List.getElem_cons_zero, List.getElem_cons_succ]
    refine wpAny_done (by kernel_rfl) ?_ _
    refine NoPanic.normal ?_
    have hgd : wd.heap[g]? = some (.cells cur 78 (0, 0)) := by rw [hwd]; exact HG.out
    have hA := setRow_heap wd g _ L1.toArray _ _ hgd
    have hgr : w.grownBy wd (some g) := ext_grown (toExt hqd) _
    have C3 := HCL.out _ hA
    clear hgd
    go_wp2_with ((with_reducible refine at_clear (.tmp 31) ?_); go_must (refine wpl_clearN _ (by rfl) (.tmp 31) 61 rfl _ (by rfl) (fun ty => C3 ty _ _ (by omega)) ?_))
    go_ret
    exact ⟨_, rfl, HFF.out _ (setRow_heap _ g _ _ _ _ hA), grown_trans (grown_trans hgr grownSetRow) grownSetRow⟩
  · go_enter Tryz.func45, Tryz.ntmps45
    go_upto_region 5 with fail
    refine wp_region_G 6 (fun v => Ext w v) (by kernel_rfl) fun wd hqd hHeld => ?_
    refine G_pure (i := 0) (u := ?vb0) rfl (by kernel_rfl) (by kernel_rfl) (by kernel_rfl) (fun _ _ _ h => h) (by decide) (Or.inl ⟨by rfl, ?hyb0⟩) hHeld ?_
    case hyb0 => (intro w hSw; go_simp; try with_reducible rfl)
    simp only [Act.put, List.setIfInBounds_toArray, List.set_cons_zero, List.set_cons_succ, List.getElem_toArray, List.getElem_cons_zero, List.getElem_cons_succ]
    refine G_pure (i := 1) (u := ?vb1) rfl (by kernel_rfl) (by kernel_rfl) (by kernel_rfl) (fun _ _ _ h => h) (by decide) (Or.inl ⟨by rfl, ?hyb1⟩) hHeld ?_
    case hyb1 => (intro w hSw; go_simp; try with_reducible rfl)
    simp only [Act.put, List.setIfInBounds_toArray, List.set_cons_zero, List.set_cons_succ, List.getElem_toArray, List.getElem_cons_zero, List.getElem_cons_succ]
    refine G_pure (i := 2) (u := ?vb2) rfl (by kernel_rfl) (by kernel_rfl) (by kernel_rfl) (fun _ _ _ h => h) (by decide) (Or.inl ⟨by rfl, ?hyb2⟩) hHeld ?_
    case hyb2 => (intro w hSw; go_simp; try with_reducible rfl)
    simp only [Act.put, List.setIfInBounds_toArray, List.set_cons_zero, List.set_cons_succ, List.getElem_toArray, List.getElem_cons_zero, List.getElem_cons_succ]
    refine G_pure (i := 3) (u := ?vb3) rfl (by kernel_rfl) (by kernel_rfl) (by kernel_rfl) (fun _ _ _ h => h) (by decide) (Or.inl ⟨by rfl, ?hyb3⟩) hHeld ?_
    case hyb3 => (intro w hSw; go_simp; try with_reducible rfl)
    simp only [Act.put, List.setIfInBounds_toArray, List.set_cons_zero, List.set_cons_succ, List.getElem_toArray, List.getElem_cons_zero, List.getElem_cons_succ]
    refine G_pure (i := 4) (u := ?vb4) rfl (by kernel_rfl) (by kernel_rfl) (by kernel_rfl) (fun _ _ _ h => h) (by decide) (Or.inl ⟨by rfl, ?hyb4⟩) hHeld ?_
    case hyb4 => (intro w hSw; go_simp; try with_reducible rfl)
    simp only [Act.put, List.setIfInBounds_toArray, List.set_cons_zero, List.set_cons_succ, List.getElem_toArray, List.getElem_cons_zero, List.getElem_cons_succ]
    refine G_pure (i := 5) (u := ?vb5) rfl (by kernel_rfl) (by kernel_rfl) (by kernel_rfl) (fun _ _ _ h => h) (by decide) (Or.inl ⟨by rfl, ?hyb5⟩) hHeld ?_
    case hyb5 => (intro w hSw; go_simp; try with_reducible rfl)
    simp only [Act.put, List.setIfInBounds_toArray, List.set_cons_zero, List.set_cons_succ, List.getElem_toArray, List.getElem_cons_zero, List.getElem_cons_succ]
    refine G_all (rs := [6]) (by kernel_rfl) (by simp) ?_
    intro i hi; obtain rfl : i = 6 := by simpa using hi
    refine wpOp_run rfl (by rfl) ?_
    have hwd : wd.heap = w.heap := (by obtain ⟨q, rfl⟩ := hqd; rfl)
    refine wp_appendN _ (.tmp 22) (.tmp 25) 61 61 rfl _ _ (by rfl) (by rfl) (fun ty => HAP.out _ hwd ty _ _ (.inr rfl)) ?_
    try refine ⟨fun e => absurd e (by decide), ?_⟩
    refine G_free _ _ _ _ (by kernel_rfl) ?_
    try simp only [Act.put, List.setIfInBounds_toArray, List.set_cons_zero, List.set_cons_succ, List.getElem_toArray, List.getElem_cons_zero, List.getElem_cons_succ]
    refine wpAny_take (i := 7) (v := ?vb7) rfl (by kernel_rfl) (by kernel_rfl) (by kernel_rfl) (fun _ _ _ h => h) (Or.inl ⟨by rfl, ?hyb7⟩) ?_
    case hyb7 => (intro w ; go_simp; try with_reducible rfl)
    simp only [Act.put, List.setIfInBounds_toArray, List.set_cons_zero, List.set_cons_succ, List.getElem_toArray, List.getElem_cons_zero, List.getElem_cons_succ]
    refine wpAny_done (by kernel_rfl) ?_ _
    refine NoPanic.normal ?_
    have hgd : wd.heap[g]? = some (.cells cur 78 (0, 0)) := by rw [hwd]; exact HG.out
    have hA := setRow_heap wd g _ L1.toArray _ _ hgd
    have hgr : w.grownBy wd (some g) := ext_grown (toExt hqd) _
    have C3 := HCL.out _ hA
    clear hgd
    go_wp2_with ((with_reducible refine at_clear (.tmp 31) ?_); go_must (refine wpl_clearN _ (by rfl) (.tmp 31) 61 rfl _ (by rfl) (fun ty => C3 ty _ _ (by omega)) ?_))
    go_ret
    exact ⟨_, rfl, HFF.out _ (setRow_heap _ g _ _ _ _ hA), grown_trans (grown_trans hgr grownSetRow) grownSetRow⟩
end Go.Proofs.YtglcjdiejnennaaGreatDoor
