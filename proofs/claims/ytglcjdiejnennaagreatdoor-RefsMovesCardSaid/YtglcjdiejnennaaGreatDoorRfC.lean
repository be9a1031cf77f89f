/- slices.Clone, Insert and Delete at branches. -/
import Derived.Test.YtglcjdiejnennaaGreatDoorCpN
import Derived.Test.YtglcjdiejnennaaGreatDoorObL
import Derived.Test.YtglcjdiejnennaaGreatDoorRfA
import Derived.Test.YtglcjdiejnennaaGreatDoorRegG
import Derived.Test.YtglcjdiejnennaaGreatDoorRegC
import Derived.Test.YtglcjdiejnennaaGreatDoorRegP
import Derived.Laws.Externs
import Derived.Deep.DeepAppendWide
import Derived.Deep.DeepCutAuto
import Derived.BigGuardPart
import Derived.Outline
namespace Go.Proofs.YtglcjdiejnennaaGreatDoor
open Go.RowKit
set_option linter.unusedVariables false
set_option linter.unusedSimpArgs false

theorem infoRf : (Tryz.prog.info? 78).map (fun i => (i.zero.map (·.cells.size), i.size)) = some (some 33, 33) := by kernel_rfl
theorem tyRf : ∃ z, ETy Tryz.prog 61 78 z 33 48 := tyOf Tryz.underlying61 infoRf (by kernel_rfl) (by omega)

set_option maxHeartbeats 1000000 in
set_option maxRecDepth 100000 in
theorem insRf (w : World) (base : Nat) (v : Value) (n : Nat) (xs : List Value) (own : w.ownsRow base 78 33 v n xs) (hbase : base ≤ w.heap.size) (i : Nat) (hi : i ≤ n) (hn : n ≤ 100000)
    (g1 : Nat) (ys : List Value) (T1 : TypeId) (hy : ys.length = 33) (hg1 : w.heap[g1]? = some (.cells ys.toArray T1 (0, 0))) (hne : v.ownBlock ≠ some g1) (hx1 : ∀ c ∈ xs, c.oneCell' = true) (hy1 : ∀ c ∈ ys, c.oneCell' = true) :
    Calls Tryz.prog 44 #[v, .int .i64 (i : Int), .slice (some ⟨g1, 0, none⟩) 1 1] w fun e w' => ∃ v', e = .returned v' ∧ w'.ownsRow base 78 33 v' (n + 1) (xs.take (i * 33) ++ ys ++ xs.drop (i * 33)) ∧ w.grownBy w' v.ownBlock := by
  obtain ⟨zE, tyE⟩ := tyRf
  have hys : IsSl w (.slice (some ⟨g1, 0, none⟩) 1 1) 33 1 ys := ⟨by omega, some ⟨g1, 0, none⟩, 1, rfl, by omega, by omega, (fun h => by cases h), fun j hj => ⟨g1, 0, rfl, by rw [Nat.zero_add, block_cell hg1]; simp⟩⟩
  have hlx := own.1
  have hsh := ownSh own
  have hi0 : (0 : Int) ≤ (i : Int) := Int.natCast_nonneg _
  have hin : (i : Int) ≤ (n : Int) := by omega
  by_cases hie : i = n
  · subst hie
    obtain ⟨a, c, rfl⟩ := hsh
    have hcm : i ≤ c ∧ c ≤ 9223372036854775807 := by obtain ⟨_, ao, cap, e, h2, h3, _⟩ := IsSl.of_owns own; simp only [Value.slice.injEq, true_and] at e; obtain ⟨_, rfl⟩ := e; exact ⟨h2, h3⟩
    have hc1 : (i : Int) ≤ (c : Int) := by omega
    have hc2 : (c : Int) ≤ 9223372036854775807 := by omega
    have OWN := Lib.hid own
    have HY := Lib.hid hys
    clear hg1 hne own hys
    go_enter Tryz.func44, Tryz.ntmps44
    go_wp2_with (at_builtin; refine wp_app tyE rfl (.tmp 23) (.tmp 24) rfl base _ i xs OWN.out (by rfl) _ 1 ys HY.out (by rfl) hy1 (by omega) (by omega) hbase ?_; intro v2 w2 own2 gr2)
    all_goals
      go_ret
      refine ⟨v2, rfl, ?_, by cases a <;> exact gr2⟩
      rw [List.take_of_length_le (by omega), List.drop_of_length_le (by omega), List.append_nil]
      exact own2
  · have hlt : i < n := by omega
    obtain ⟨_, h2⟩ := own
    rcases h2 with ⟨_, h0⟩ | ⟨g, cap, cur, rfl, hb, hg, hnc, hcm, hsz, htk⟩
    · omega
    have hcm' : cap ≤ 9223372036854775807 := by unfold maxLen at hcm; omega
    have hg1n : g1 ≠ g := fun e => hne (by rw [e]; rfl)
    have hgs := block_lt hg
    have hg1s := block_lt hg1
    obtain ⟨ie, hie1, hzz, hiz, hib⟩ := tyE.info
    have hinfo : (Tryz.prog.info? 78).map (·.size) = some 33 := by rw [hie1]; simp [hiz]
    have hzs := tyE.cells
    have hcells : ∀ j u, xs[j]? = some u → w.cell? ⟨g, j, none⟩ = some u := by
      intro j u hj
      have hjl : j < n * 33 := by have := (List.getElem?_eq_some_iff.1 hj).1; omega
      rw [block_cell hg, ← hj, ← htk, List.getElem?_take, if_pos hjl, Array.getElem?_toList]
    have hxdl : (xs.drop (i * 33)).length = (n - i) * 33 := by rw [List.length_drop, hlx, Nat.sub_mul]
    have hxtl : (xs.take (i * 33)).length = i * 33 := by rw [List.length_take, hlx, Nat.min_eq_left (Nat.mul_le_mul_right _ hi)]
    have hcl : cur.toList.length = cap * 33 := by rw [Array.length_toList, hsz]
    have hik : (i + 1) * 33 + (n - i) * 33 = (n + 1) * 33 := by rw [← Nat.add_mul]; congr 1; omega
    have hik2 : i * 33 + 33 = (i + 1) * 33 := by rw [Nat.add_mul, Nat.one_mul]
    have hik3 : (i + 1) * 33 ≤ (n + 1) * 33 := Nat.mul_le_mul_right _ (by omega)
    have hx1d : ∀ c ∈ xs.drop (i * 33), c.oneCell' = true := fun c hc => hx1 c (List.mem_of_mem_drop hc)
    have q1 : ¬ cap = i := by omega
    have q2 : ((i : Int) == (n : Int)) = false := by rw [beq_eq_false_iff_ne]; omega
    have q3 : (i : Int) ≤ (cap : Int) := by omega
    have q4 : (n : Int) ≤ (cap : Int) := by omega
    have q5 : (cap : Int) ≤ 9223372036854775807 := by omega
    have q6 : (n : Int) ≤ 100000 := by omega
    have q9 : (0 : Int) ≤ (i : Int) + 1 := by omega
    have q10 : (i : Int) + 1 ≤ (n : Int) + 1 := by omega
    have q11 : ((i : Int) + 1).toNat = i + 1 := by omega
    have q12 : (i : Int) ≤ (n : Int) + 1 := by omega
    have hdl0 : 0 < n + 1 - i := by omega
    have q13 : IntKind.i64.wrap ((i : Int) + 1) = (i : Int) + 1 := by rw [IntKind.wrap_i64]; omega
    have HC2 : ∀ (G : Nat) (L1 : List Value) (c : Nat) (W : World), L1.length = c * 33 → n + 1 ≤ c → W.heap[G]? = some (.cells L1.toArray 78 (0, 0)) → W.heap[g1]? = some (.cells ys.toArray T1 (0, 0)) → ∀ ty dl dc, 0 < dl → (Builtin.copy_ #[61, 61] ty #[.slice (some ⟨G, i * 33, none⟩) dl dc, .slice (some ⟨g1, 0, none⟩) 1 1]).run Tryz.prog W = .ok (goInt 1) (W.setRow G (L1.take (i * 33) ++ ys ++ L1.drop (i * 33 + ys.length)).toArray) := fun G L1 c W hL1l hc hW hW1 ty dl dc hdl => by
      have := run_copyN (P := Tryz.prog) W 61 61 ty 78 33 G (i * 33) dl dc ⟨g1, 0, none⟩ 1 1 1 L1.toArray 78 ys Tryz.underlying61 hinfo hW (by simp only [Nat.min_def]; split <;> omega) (by omega)
        (fun j u hj => by rw [Addr.add_lit, Nat.zero_add, block_cell hW1]; simpa using hj) (by rw [List.size_toArray, hL1l, hy, hik2]; have : (n + 1) * 33 ≤ c * 33 := Nat.mul_le_mul_right _ hc; omega) hy1
      simpa using this
    have HC2 := Lib.hid HC2
    by_cases hroom : n + 1 ≤ cap
    · have q7 : (n : Int) + 1 ≤ (cap : Int) := by omega
      have q8 : ¬ cap = i + 1 := by omega
      have hfit : (n + 1) * 33 ≤ cap * 33 := Nat.mul_le_mul_right _ hroom
      have hov : ∀ lb cb, (callFunc 73 #[.slice (some ⟨g1, 0, none⟩) 1 1, .slice (some ⟨g, (i + 1) * 33, none⟩) lb cb]).run Tryz.prog w = .ok (.value (.bool false)) w := fun lb cb => by
        rw [run_callFunc_extern (P := Tryz.prog) Tryz.func73 (by kernel_rfl) (by kernel_rfl) (by kernel_rfl) (e := Extern.SlicesOverlaps.overlaps #[61, 61] #[4]) (by kernel_rfl),
          Lib.run_overlaps_apart (P := Tryz.prog) w 61 4 78 Tryz.underlying61 33 (fun w => by simp [sizeOf, typeInfo, hie1, hiz]) ⟨g1, 0, none⟩ ⟨g, (i + 1) * 33, none⟩ 1 1 lb cb hg1n T1 78 ys.toArray.size cur.size (by simp [World.shape?, hg1]) (by simp [World.shape?, hg]) (by omega) (block_free hg1 _) (block_free hg1 _)]
        rfl
      have hcp1 : ∀ (W : World), W.heap = w.heap → ∀ ty dl dc sl sc, Nat.min sl dl = n - i → (Builtin.copy_ #[61, 61] ty #[.slice (some ⟨g, (i + 1) * 33, none⟩) dl dc, .slice (some ⟨g, i * 33, none⟩) sl sc]).run Tryz.prog W = .ok (goInt ((n - i : Nat))) (W.setRow g (cur.toList.take ((i + 1) * 33) ++ xs.drop (i * 33) ++ cur.toList.drop ((i + 1) * 33 + (xs.drop (i * 33)).length)).toArray) := fun W hW ty dl dc sl sc hmn =>
        run_copyN W _ _ ty 78 33 g ((i + 1) * 33) dl dc ⟨g, i * 33, none⟩ sl sc (n - i) cur 78 (xs.drop (i * 33)) Tryz.underlying61 hinfo (by rw [hW]; exact hg) hmn hxdl
          (fun j u hj => by rw [Addr.add_lit]; rw [List.getElem?_drop] at hj; have := hcells _ u hj; unfold World.cell? at this ⊢; rw [hW]; exact this) (by rw [hxdl, hik]; omega) hx1d
      obtain ⟨L1, hL1⟩ : ∃ L1, cur.toList.take ((i + 1) * 33) ++ xs.drop (i * 33) ++ cur.toList.drop ((i + 1) * 33 + (xs.drop (i * 33)).length) = L1 := ⟨_, rfl⟩
      rw [hL1] at hcp1
      have hL1l : L1.length = cap * 33 := by rw [← hL1]; simp only [List.length_append, List.length_take, List.length_drop, hcl, hlx]; omega
      have HG := Lib.hid hg
      have HG1 := Lib.hid hg1
      have HF : ∀ (W : World), W.heap[g]? = some (.cells (L1.take (i * 33) ++ ys ++ L1.drop (i * 33 + ys.length)).toArray 78 (0, 0)) → W.ownsRow base 78 33 (.slice (some ⟨g, 0, none⟩) (n + 1) cap) (n + 1) (xs.take (i * 33) ++ ys ++ xs.drop (i * 33)) := fun W hW => by
        refine ⟨?_, .inr ⟨g, cap, _, rfl, hb, hW, hroom, hcm, ?_, ?_⟩⟩
        · rw [List.length_append, List.length_append, hxdl, hxtl, hy, hik2, hik]
        · rw [List.size_toArray]
          simp only [List.length_append, List.length_take, List.length_drop, hL1l, hy]
          omega
        · have hle : ((cur.toList.take ((i + 1) * 33)).length) = (i + 1) * 33 := by rw [List.length_take, hcl]; omega
          have t1 : L1.take (i * 33) = xs.take (i * 33) := by
            rw [← hL1, List.append_assoc, List.take_append_of_le_length (by rw [hle]; omega), List.take_take, Nat.min_eq_left (by omega), ← htk, List.take_take, Nat.min_eq_left (Nat.mul_le_mul_right _ hi)]
          have t2 : L1.drop (i * 33 + ys.length) = xs.drop (i * 33) ++ cur.toList.drop ((i + 1) * 33 + (xs.drop (i * 33)).length) := by
            rw [hy, hik2, ← hL1, List.append_assoc]
            exact List.drop_left' hle
          rw [t1, t2]
          simp only [← List.append_assoc]
          exact List.take_left' (by rw [List.length_append, List.length_append, hxdl, hxtl, hy, hik2, hik])
      obtain ⟨L2, hL2⟩ : ∃ L2, L1.take (i * 33) ++ ys ++ L1.drop (i * 33 + ys.length) = L2 := ⟨_, rfl⟩
      rw [hL2] at HF
      have HL2 := Lib.hid hL2
      have HFF := Lib.hid HF
      clear HF hg hg1 hcells hx1 hx1d htk hL1 hys hinfo hL2
      go_enter Tryz.func44, Tryz.ntmps44
      go_upto_region 15 with (simp only [hov])
      refine wp_region_G 8 (fun v => Ext w v) (by kernel_rfl) fun wd hqd hHeld => ?_
      refine G_pure (i := 0) (u := ?va0) rfl (by kernel_rfl) (by kernel_rfl) (by kernel_rfl) (fun _ _ _ h => h) (by decide) (Or.inl ⟨by rfl, ?hya0⟩) hHeld ?_
      case hya0 => (intro w hSw; go_simp; try with_reducible rfl)
      simp only [Act.put, List.setIfInBounds_toArray, List.set_cons_zero, List.set_cons_succ, List.getElem_toArray, List.getElem_cons_zero, List.getElem_cons_succ]
      refine G_pure (i := 1) (u := ?va1) rfl (by kernel_rfl) (by kernel_rfl) (by kernel_rfl) (fun _ _ _ h => h) (by decide) (Or.inl ⟨by rfl, ?hya1⟩) hHeld ?_
      case hya1 => (intro w hSw; go_simp; try with_reducible rfl)
      simp only [Act.put, List.setIfInBounds_toArray, List.set_cons_zero, List.set_cons_succ, List.getElem_toArray, List.getElem_cons_zero, List.getElem_cons_succ]
      refine G_pure (i := 2) (u := ?va2) rfl (by kernel_rfl) (by kernel_rfl) (by kernel_rfl) (fun _ _ _ h => h) (by decide) (Or.inl ⟨by rfl, ?hya2⟩) hHeld ?_
      case hya2 => (intro w hSw; go_simp; try with_reducible rfl)
      simp only [Act.put, List.setIfInBounds_toArray, List.set_cons_zero, List.set_cons_succ, List.getElem_toArray, List.getElem_cons_zero, List.getElem_cons_succ]
      refine G_pure (i := 3) (u := ?va3) rfl (by kernel_rfl) (by kernel_rfl) (by kernel_rfl) (fun _ _ _ h => h) (by decide) (Or.inl ⟨by rfl, ?hya3⟩) hHeld ?_
      case hya3 => (intro w hSw; go_simp; try with_reducible rfl)
      simp only [Act.put, List.setIfInBounds_toArray, List.set_cons_zero, List.set_cons_succ, List.getElem_toArray, List.getElem_cons_zero, List.getElem_cons_succ]
      refine G_pure (i := 4) (u := ?va4) rfl (by kernel_rfl) (by kernel_rfl) (by kernel_rfl) (fun _ _ _ h => h) (by decide) (Or.inl ⟨by rfl, ?hya4⟩) hHeld ?_
      case hya4 => (intro w hSw; go_simp; try with_reducible rfl)
      simp only [Act.put, List.setIfInBounds_toArray, List.set_cons_zero, List.set_cons_succ, List.getElem_toArray, List.getElem_cons_zero, List.getElem_cons_succ]
      refine G_pure (i := 5) (u := ?va5) rfl (by kernel_rfl) (by kernel_rfl) (by kernel_rfl) (fun _ _ _ h => h) (by decide) (Or.inl ⟨by rfl, ?hya5⟩) hHeld ?_
      case hya5 => (intro w hSw; go_simp; try with_reducible rfl)
      simp only [Act.put, List.setIfInBounds_toArray, List.set_cons_zero, List.set_cons_succ, List.getElem_toArray, List.getElem_cons_zero, List.getElem_cons_succ]
      refine G_pure (i := 6) (u := ?va6) rfl (by kernel_rfl) (by kernel_rfl) (by kernel_rfl) (fun _ _ _ h => h) (by decide) (Or.inl ⟨by rfl, ?hya6⟩) hHeld ?_
      case hya6 => (intro w hSw; go_simp; try with_reducible rfl)
      simp only [Act.put, List.setIfInBounds_toArray, List.set_cons_zero, List.set_cons_succ, List.getElem_toArray, List.getElem_cons_zero, List.getElem_cons_succ]
      refine G_pure (i := 7) (u := ?va7) rfl (by kernel_rfl) (by kernel_rfl) (by kernel_rfl) (fun _ _ _ h => h) (by decide) (Or.inl ⟨by rfl, ?hya7⟩) hHeld ?_
      case hya7 => (intro w hSw; go_simp; try with_reducible rfl)
      simp only [Act.put, List.setIfInBounds_toArray, List.set_cons_zero, List.set_cons_succ, List.getElem_toArray, List.getElem_cons_zero, List.getElem_cons_succ]
      refine G_all (rs := [8]) (by kernel_rfl) (by simp) ?_
      intro i hi; obtain rfl : i = 8 := by simpa using hi
      refine wpOp_run rfl (by rfl) ?_
      have hwd : wd.heap = w.heap := (by obtain ⟨q, rfl⟩ := hqd; rfl)
      refine wp_copyN _ (.tmp 73) (.tmp 76) 61 61 rfl _ _ (by rfl) (by rfl) (fun ty => hcp1 _ hwd ty _ _ _ _ (by simp only [Nat.min_def]; split <;> omega)) ?_
      try refine ⟨fun e => absurd e (by decide), ?_⟩
      refine G_free _ _ _ _ (by kernel_rfl) ?_
      try simp only [Act.put, List.setIfInBounds_toArray, List.set_cons_zero, List.set_cons_succ, List.getElem_toArray, List.getElem_cons_zero, List.getElem_cons_succ]
      refine wpAny_done (by kernel_rfl) ?_ _
      refine NoPanic.normal ?_
      have hgd : wd.heap[g]? = some (.cells cur 78 (0, 0)) := by rw [hwd]; exact HG.out
      have hA := setRow_heap wd g _ L1.toArray _ _ hgd
      have hB := grown_other (grownSetRow (c := L1.toArray)) (show wd.heap[g1]? = _ by rw [hwd]; exact HG1.out) hg1n
      have hgr : w.grownBy wd (some g) := ext_grown (toExt hqd) _
      have C2 := fun ty dl dc hd => HC2.out g L1 cap _ hL1l hroom hA hB ty dl dc hd
      rw [HL2.out] at C2
      clear hov hcp1 hgd hB
      go_wp2_with ((with_reducible refine at_copy (.tmp 80) (.tmp 81) ?_); go_must (refine wpl_copyN _ (by rfl) (.tmp 80) (.tmp 81) 61 61 rfl _ _ (by rfl) (by rfl) (fun ty => C2 ty (n + 1 - i) _ hdl0) ?_))
      go_ret
      exact ⟨_, rfl, HFF.out _ (setRow_heap _ g _ _ _ _ hA), grown_trans (grown_trans hgr grownSetRow) grownSetRow⟩
    · have q7 : ¬ (n : Int) + 1 ≤ (cap : Int) := by omega
      have q7b : (cap : Int) < (n : Int) + 1 := by omega
      obtain ⟨m, hm⟩ : ∃ m, n + 1 - i = m := ⟨_, rfl⟩
      have him : i + m = n + 1 := by omega
      have hm0 : 0 < m := by omega
      obtain ⟨gc, hgc⟩ : ∃ gc, grownCap w (i + m) cap 78 = gc := ⟨_, rfl⟩
      have hgcn : n + 1 ≤ gc := by rw [← hgc]; have := grownCap_ge w (i + m) cap 78; omega
      have hgcm : gc ≤ maxLen := by rw [← hgc]; exact grownCap_le_maxLen _ _ _ _ (by unfold maxLen; omega)
      have hgcm' : (gc : Int) ≤ 9223372036854775807 := by unfold maxLen at hgcm; omega
      have q8 : ¬ gc = i + 1 := by omega
      have q14 : ¬ gc = i := by omega
      have q15 : (n : Int) + 1 ≤ (gc : Int) := by omega
      have q16 : IntKind.i64.wrap ((n : Int) + 1 - (i : Int)) = (n : Int) + 1 - (i : Int) := by rw [IntKind.wrap_i64]; omega
      have q17 : (n : Int) + 1 - (i : Int) = (m : Int) := by omega
      have f1 : cap < i + m := by omega
      have f2 := ins_fit (i + m) 48 (by omega) (by omega)
      have f3 := growslice_fits_wide (need := i + m) (old := cap) (bytes := 48) f1 f2
      rw [← hib] at f3
      have hap : ∀ ty, (Builtin.append_ #[61, 3] ty #[.slice (some ⟨g, 0, none⟩) i cap, .int .i64 (m : Int)]).run Tryz.prog w = .ok (.slice (some ⟨w.heap.size, 0, none⟩) (n + 1) gc) (w.drew.alloc (.cells ((xs.take (i * 33)).toArray ++ Builtin.zeroCells zE.cells m ++ Builtin.zeroCells zE.cells (gc - (n + 1))) 78)) := fun ty => by
        have := Lib.run_append_grow_zeros (P := Tryz.prog) w 61 3 ty 78 ie zE .i64 .i64 Tryz.underlying61 Tryz.underlying3 hie1 hzz (some ⟨g, 0, none⟩) i cap (xs.take (i * 33))
          (by rw [hiz]; exact run_firstCells_some w.drew 33 i ⟨g, 0, none⟩ i cap _ hxtl (fun j u hj => by
            rw [Addr.add_lit, Nat.zero_add]
            have hj2 : j < i * 33 := by have := (List.getElem?_eq_some_iff.1 hj).1; omega
            rw [List.getElem?_take, if_pos hj2] at hj
            exact hcells j u hj))
          m (by omega) (by omega) (by omega) (by omega) (by rw [hib]; omega) f3
        rw [hgc, him] at this
        exact this
      obtain ⟨L0, hL0⟩ : ∃ L0, ((xs.take (i * 33)).toArray ++ Builtin.zeroCells zE.cells m ++ Builtin.zeroCells zE.cells (gc - (n + 1))).toList = L0 := ⟨_, rfl⟩
      have hL0a : (xs.take (i * 33)).toArray ++ Builtin.zeroCells zE.cells m ++ Builtin.zeroCells zE.cells (gc - (n + 1)) = L0.toArray := by rw [← hL0]
      have hL0l : L0.length = gc * 33 := by
        rw [← hL0, Array.length_toList, Array.size_append, Array.size_append, size_zeroCells, size_zeroCells, hzs, List.size_toArray, hxtl, ← Nat.add_mul, ← Nat.add_mul]
        congr 1
        omega
      have hL0t : L0.take (i * 33) = xs.take (i * 33) := by
        rw [← hL0, Array.toList_append, Array.toList_append, List.append_assoc]
        exact List.take_left' hxtl
      rw [hL0a] at hap
      obtain ⟨L1, hL1⟩ : ∃ L1, L0.take (i * 33) ++ ys ++ L0.drop (i * 33 + ys.length) = L1 := ⟨_, rfl⟩
      have hfit : (n + 1) * 33 ≤ gc * 33 := Nat.mul_le_mul_right _ hgcn
      have hL1l : L1.length = gc * 33 := by rw [← hL1]; simp only [List.length_append, List.length_take, List.length_drop, hL0l, hy]; omega
      have hcp2 : ∀ (W : World), W.heap[w.heap.size]? = some (.cells L1.toArray 78 (0, 0)) → (∀ j u, (xs.drop (i * 33))[j]? = some u → W.cell? ⟨g, i * 33 + j, none⟩ = some u) → ∀ ty dl dc sl sc, Nat.min sl dl = n - i → (Builtin.copy_ #[61, 61] ty #[.slice (some ⟨w.heap.size, (i + 1) * 33, none⟩) dl dc, .slice (some ⟨g, i * 33, none⟩) sl sc]).run Tryz.prog W = .ok (goInt ((n - i : Nat))) (W.setRow w.heap.size (L1.take ((i + 1) * 33) ++ xs.drop (i * 33) ++ L1.drop ((i + 1) * 33 + (xs.drop (i * 33)).length)).toArray) := fun W hW hsrc ty dl dc sl sc hmn => by
        have := run_copyN (P := Tryz.prog) W 61 61 ty 78 33 w.heap.size ((i + 1) * 33) dl dc ⟨g, i * 33, none⟩ sl sc (n - i) L1.toArray 78 (xs.drop (i * 33)) Tryz.underlying61 hinfo hW hmn hxdl
          (fun j u hj => by rw [Addr.add_lit]; exact hsrc j u hj) (by rw [List.size_toArray, hL1l, hxdl, hik]; exact hfit) hx1d
        simpa using this
      have HF : ∀ (W : World), W.heap[w.heap.size]? = some (.cells (L1.take ((i + 1) * 33) ++ xs.drop (i * 33) ++ L1.drop ((i + 1) * 33 + (xs.drop (i * 33)).length)).toArray 78 (0, 0)) → W.ownsRow base 78 33 (.slice (some ⟨w.heap.size, 0, none⟩) (n + 1) gc) (n + 1) (xs.take (i * 33) ++ ys ++ xs.drop (i * 33)) := fun W hW => by
        have t1 : L1.take ((i + 1) * 33) = xs.take (i * 33) ++ ys := by
          rw [← hL1, hL0t]
          exact List.take_left' (by rw [List.length_append, hxtl, hy, hik2])
        refine ⟨?_, .inr ⟨w.heap.size, gc, _, rfl, hbase, hW, hgcn, hgcm, ?_, ?_⟩⟩
        · rw [List.length_append, List.length_append, hxdl, hxtl, hy, hik2, hik]
        · rw [List.size_toArray]
          simp only [List.length_append, List.length_take, List.length_drop, hL1l, hlx]
          omega
        · rw [t1]
          exact List.take_left' (by rw [List.length_append, List.length_append, hxdl, hxtl, hy, hik2, hik])
      obtain ⟨L2, hL2⟩ : ∃ L2, L1.take ((i + 1) * 33) ++ xs.drop (i * 33) ++ L1.drop ((i + 1) * 33 + (xs.drop (i * 33)).length) = L2 := ⟨_, rfl⟩
      rw [hL2] at HF hcp2
      have HFF := Lib.hid HF
      have HCP := Lib.hid hcp2
      have HCE := Lib.hid hcells
      have HG1 := Lib.hid hg1
      have HL0 := Lib.hid hL0l
      have HL1 := Lib.hid hL1
      clear HF hcp2 hg hg1 hcells hx1 hx1d htk hL1 hL2 f1 f2 f3 hys hinfo hL0 hL0a hL0t hL0l hgc
      go_enter Tryz.func44, Tryz.ntmps44
      go_upto_region 10 with (at_builtin; go_must (refine wpl_appendN _ (by rfl) (.tmp 34) (.tmp 39) 61 3 rfl _ _ (by rfl) (by rfl) (fun ty => hap ty) ?_))
      have hA0 : (w.alloc (.cells L0.toArray 78)).drew.heap[w.heap.size]? = some (.cells L0.toArray 78 (0, 0)) := heap_alloc_new w _
      have hE0 : Ext w (w.alloc (.cells L0.toArray 78)).drew := ((Ext.refl w).alloc _).drew
      generalize (w.alloc (.cells L0.toArray 78)).drew = W0 at *
      have C2 := fun ty dl dc hd => HC2.out w.heap.size L0 gc W0 HL0.out hgcn hA0 (hE0.keeps HG1.out) ty dl dc hd
      rw [HL1.out] at C2
      clear hap
      go_upto_region 11 with ((with_reducible refine at_copy (.tmp 43) (.tmp 44) ?_); go_must (refine wpl_copyN _ (by rfl) (.tmp 43) (.tmp 44) 61 61 rfl _ _ (by rfl) (by rfl) (fun ty => C2 ty m _ hm0) ?_))
      have hA1 := setRow_heap W0 w.heap.size _ L1.toArray _ _ hA0
      have gr1 := grownSetRow (w := W0) (g := w.heap.size) (c := L1.toArray)
      have HS : ∀ W, Ext (W0.setRow w.heap.size L1.toArray) W → ∀ j u, (xs.drop (i * 33))[j]? = some u → W.cell? ⟨g, i * 33 + j, none⟩ = some u := fun W hW j u hj => by
        rw [List.getElem?_drop] at hj
        exact hW.cell (gr1.cell (hE0.cell (HCE.out _ u hj)) (by simp; omega))
      generalize W0.setRow w.heap.size L1.toArray = W1 at *
      have HS := Lib.hid HS
      clear C2 hA0
      refine wp_region_G 8 (fun v => Ext W1 v) (by kernel_rfl) fun wd hqd hHeld => ?_
      refine G_pure (i := 0) (u := ?vb0) rfl (by kernel_rfl) (by kernel_rfl) (by kernel_rfl) (fun _ _ _ h => h) (by decide) (Or.inl ⟨by rfl, ?hyb0⟩) hHeld ?_
      case hyb0 => (intro w hSw; go_simp; try with_reducible rfl)
      simp only [Act.put, List.setIfInBounds_toArray, List.set_cons_zero, List.set_cons_succ, List.getElem_toArray, List.getElem_cons_zero, List.getElem_cons_succ]
      refine G_pure (i := 1) (u := ?vb1) rfl (by kernel_rfl) (by kernel_rfl) (by kernel_rfl) (fun _ _ _ h => h) (by decide) (Or.inl ⟨by rfl, ?hyb1⟩) hHeld ?_
      case hyb1 => (intro w hSw; go_simp; try with_reducible rfl)
      simp only [Act.put, List.setIfInBounds_toArray, List.set_cons_zero, List.set_cons_succ, List.getElem_toArray, List.getElem_cons_zero, List.getElem_cons_succ]
      refine G_pure (i := 2) (u := ?vb2) rfl (by kernel_rfl) (by kernel_rfl) (by kernel_rfl) (fun _ _ _ h => h) (by decide) (Or.inl ⟨by rfl, ?hyb2⟩) hHeld ?_
      case hyb2 => (intro w hSw; go_simp; try with_reducible rfl)
      simp only [Act.put, List.setIfInBounds_toArray, List.set_cons_zero, List.set_cons_succ, List.getElem_toArray, List.getElem_cons_zero, List.getElem_cons_succ]
      refine G_pure (i := 3) (u := ?vb3) rfl (by kernel_rfl) (by kernel_rfl) (by kernel_rfl) (fun _ _ _ h => h) (by decide) (Or.inl ⟨by rfl, ?hyb3⟩) hHeld ?_
      case hyb3 => (intro w hSw; go_simp; try with_reducible rfl)
      simp only [Act.put, List.setIfInBounds_toArray, List.set_cons_zero, List.set_cons_succ, List.getElem_toArray, List.getElem_cons_zero, List.getElem_cons_succ]
      refine G_pure (i := 4) (u := ?vb4) rfl (by kernel_rfl) (by kernel_rfl) (by kernel_rfl) (fun _ _ _ h => h) (by decide) (Or.inl ⟨by rfl, ?hyb4⟩) hHeld ?_
      case hyb4 => (intro w hSw; go_simp; try with_reducible rfl)
      simp only [Act.put, List.setIfInBounds_toArray, List.set_cons_zero, List.set_cons_succ, List.getElem_toArray, List.getElem_cons_zero, List.getElem_cons_succ]
      refine G_pure (i := 5) (u := ?vb5) rfl (by kernel_rfl) (by kernel_rfl) (by kernel_rfl) (fun _ _ _ h => h) (by decide) (Or.inl ⟨by rfl, ?hyb5⟩) hHeld ?_
      case hyb5 => (intro w hSw; go_simp; try with_reducible rfl)
      simp only [Act.put, List.setIfInBounds_toArray, List.set_cons_zero, List.set_cons_succ, List.getElem_toArray, List.getElem_cons_zero, List.getElem_cons_succ]
      refine G_pure (i := 6) (u := ?vb6) rfl (by kernel_rfl) (by kernel_rfl) (by kernel_rfl) (fun _ _ _ h => h) (by decide) (Or.inl ⟨by rfl, ?hyb6⟩) hHeld ?_
      case hyb6 => (intro w hSw; go_simp; try with_reducible rfl)
      simp only [Act.put, List.setIfInBounds_toArray, List.set_cons_zero, List.set_cons_succ, List.getElem_toArray, List.getElem_cons_zero, List.getElem_cons_succ]
      refine G_pure (i := 7) (u := ?vb7) rfl (by kernel_rfl) (by kernel_rfl) (by kernel_rfl) (fun _ _ _ h => h) (by decide) (Or.inl ⟨by rfl, ?hyb7⟩) hHeld ?_
      case hyb7 => (intro w hSw; go_simp; try with_reducible rfl)
      simp only [Act.put, List.setIfInBounds_toArray, List.set_cons_zero, List.set_cons_succ, List.getElem_toArray, List.getElem_cons_zero, List.getElem_cons_succ]
      refine G_all (rs := [8]) (by kernel_rfl) (by simp) ?_
      intro i hi; obtain rfl : i = 8 := by simpa using hi
      refine wpOp_run rfl (by rfl) ?_
      refine wp_copyN _ (.tmp 50) (.tmp 53) 61 61 rfl _ _ (by rfl) (by rfl) (fun ty => HCP.out _ (hHeld.keeps hA1) (HS.out _ hHeld) ty _ _ _ _ (by simp only [Nat.min_def]; split <;> omega)) ?_
      try refine ⟨fun e => absurd e (by decide), ?_⟩
      refine G_free _ _ _ _ (by kernel_rfl) ?_
      try simp only [Act.put, List.setIfInBounds_toArray, List.set_cons_zero, List.set_cons_succ, List.getElem_toArray, List.getElem_cons_zero, List.getElem_cons_succ]
      refine wpAny_done (by kernel_rfl) ?_ _
      refine NoPanic.normal ?_
      have hA2 := hHeld.keeps hA1
      have gr2 := grownSetRow (w := wd) (g := w.heap.size) (c := L2.toArray)
      have hX : Ext w wd := ((hE0.grown gr1 (fun q hq => by cases hq; exact Nat.le_refl _)).trans hHeld)
      have hX2 := hX.grown gr2 (fun q hq => by cases hq; exact Nat.le_refl _)
      clear gr1 gr2
      go_wp2_with fail
      go_ret
      exact ⟨.slice (some ⟨w.heap.size, 0, none⟩) (n + 1) gc, rfl, (by simpa only [List.append_assoc] using HFF.out _ (setRow_heap _ _ _ _ _ _ hA2)), ext_grown hX2 _⟩
end Go.Proofs.YtglcjdiejnennaaGreatDoor
