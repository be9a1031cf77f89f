/- The walk of merge.paths: the iterator's own cells. -/
import Derived.Test.YtpcpcjejdngllaaDoorMgB
import Derived.Test.YtpcpcjejdngllaaDoorMgP
import Derived.Test.YtpcpcjejdngllaaDoorSrt
import Derived.Test.YtpcpcjejdngllaaDoorApp
import Derived.Test.YtpcpcjejdngllaaDoorFlG
namespace Go.Proofs.YtpcpcjejdngllaaDoor
open Go.RowKit
set_option linter.unusedVariables false
set_option linter.unusedSimpArgs false

theorem infoStr : (Tryd.prog.info? 9).map (fun i => (i.zero, i.size, i.bytes)) = some (some (.string ByteArray.empty), 1, 16) := by kernel_rfl
theorem tyS : ETy Tryd.prog 33 9 (.string ByteArray.empty) 1 16 := ⟨Tryd.underlying33, info_parts infoStr, rfl, by decide⟩
theorem info3 (a b c : Value) : (Tryd.prog.info? 64).map (·.size) = some (#[a, b, c] : Array Value).size := by show _ = some 3; kernel_rfl
theorem own_neU {w : World} {base : Nat} {e t : TypeId} {size : Nat} {v : Value} {n : Nat} {xs : List Value} {g : Nat} {c : Array Value} {f : Nat × Nat} (h : w.ownsRow base e size v n xs) (hg : w.heap[g]? = some (.cells c t f)) (hne : t ≠ e) : v.ownBlock ≠ some g := by
  rcases h.2 with ⟨rfl, rfl⟩ | ⟨g', cap, cur, rfl, _, hh, _⟩
  · simp [Value.ownBlock]
  · intro hx
    simp [Value.ownBlock] at hx
    subst hx
    rw [hg] at hh
    simp only [Option.some.injEq, Obj.cells.injEq] at hh
    exact hne hh.2.1
theorem grown_otherO {w w' : World} {o : Option Nat} {g : Nat} {x : Obj} (k : w.grownBy w' o) (h : w.heap[g]? = some x) (hn : o ≠ some g) : w'.heap[g]? = some x := by
  rw [k.block g (block_lt h) (fun e => hn e.symm)]; exact h
theorem owns_extU {w w' : World} {base : Nat} {e : TypeId} {size : Nat} {v : Value} {n : Nat} {xs : List Value} (h : w.ownsRow base e size v n xs) (x : Ext w w') : w'.ownsRow base e size v n xs := by
  refine ⟨h.1, ?_⟩
  rcases h.2 with h2 | ⟨g, cap, cur, hv, hb, hg, h3⟩
  · exact .inl h2
  · exact .inr ⟨g, cap, cur, hv, hb, x.keeps hg, h3⟩
theorem str_one (s : ByteArray) : ∀ u ∈ [Value.string s], u.oneCell' = true := by
  intro u hu
  simp only [List.mem_cons, List.not_mem_nil, or_false] at hu
  subst hu
  rfl
theorem slice_shape {w : World} {base : Nat} {e : TypeId} {size : Nat} {v : Value} {n : Nat} {xs : List Value} (h : w.ownsRow base e size v n xs) : ∃ a c, v = .slice a n c := by obtain ⟨_, a, c, rfl, _⟩ := IsSl.of_owns h; exact ⟨a, c, rfl⟩
theorem idx0 (w : World) (x y z : Value) : (Instr.index 64 (.agg #[x, y, z]) (.int .i64 0)).run Tryd.prog w = .ok (.agg #[x]) w := by
  simp [Instr.index, run_underlying Tryd.underlying64, asIntOf, go_sem]
theorem idx1 (w : World) (x y z : Value) : (Instr.index 64 (.agg #[x, y, z]) (.int .i64 1)).run Tryd.prog w = .ok (.agg #[y]) w := by
  simp [Instr.index, run_underlying Tryd.underlying64, asIntOf, go_sem]
theorem idx2 (w : World) (x y z : Value) : (Instr.index 64 (.agg #[x, y, z]) (.int .i64 2)).run Tryd.prog w = .ok (.agg #[z]) w := by
  simp [Instr.index, run_underlying Tryd.underlying64, asIntOf, go_sem]
/-- The iterator's value and cells. -/
def seqM (A B : Nat) : Value := .func (.func 60) #[] #[.pointer (some ⟨A, 0, none⟩), .pointer (some ⟨B, 0, none⟩)]
structure IsSeq (w : World) (base A B : Nat) (v0 v1 v2 : Value) (ps : List ByteArray) : Prop where
  all : ∃ vp, w.heap[A]? = some (.cells #[vp] 33 (0, 0)) ∧ w.ownsRow base 9 1 vp ps.length (ps.map .string)
  l : w.heap[B]? = some (.cells #[v0, v1, v2] 64 (0, 0))
  ha : base ≤ A
  hb : base ≤ B

--
set_option maxHeartbeats 8000000 in
set_option maxRecDepth 100000 in
theorem mergePaths (w : World) (v0 v1 v2 : Value) (f0 f1 f2 : List Fl) (h0 : IsF w v0 f0) (h1 : IsF w v1 f1) (h2 : IsF w v2 f2) (l0 : f0.length ≤ 1000) (l1 : f1.length ≤ 1000) (l2 : f2.length ≤ 1000) :
    Calls Tryd.prog 35 #[.agg #[v0, v1, v2]] w fun e w' => ∃ A B, e = .returned (seqM A B) ∧ IsSeq w' w.heap.size A B v0 v1 v2 (pathsL [f0, f1, f2]) ∧ Ext w w' := by
  have b0 := blk_old (o := .cells #[.slice none 0 0] 33) (heap_alloc_new w (.cells #[v0, v1, v2] 64))
  have a0 := blk_new (w := w.alloc (.cells #[v0, v1, v2] 64)) (b := w.heap.size + 1) (o := .cells #[.slice none 0 0] 33) (by simp)
  have X0 : Ext w ((w.alloc (.cells #[v0, v1, v2] 64)).alloc (.cells #[.slice none 0 0] 33)) := ((Ext.refl w).alloc _).alloc _
  obtain ⟨p0, c0, rfl, _, _, _, g0⟩ := h0.opened
  obtain ⟨p1, c1, rfl, _, _, _, g1⟩ := h1.opened
  obtain ⟨p2, c2, rfl, _, _, _, g2⟩ := h2.opened
  have G0 := Lib.hid g0
  have G1 := Lib.hid g1
  have G2 := Lib.hid g2
  clear g0 g1 g2
  obtain ⟨PS, hPS⟩ : ∃ PS, pathsL [f0, f1, f2] = PS := ⟨_, rfl⟩
  rw [hPS]
  have HPS := Lib.hid hPS
  clear hPS h0 h1 h2
  go_enter Tryd.func35, Tryd.ntmps35
  go_wp2_with ((with_reducible refine at_load 64 (.tmp 1) ?_); refine wpl_load (by rfl) 64 (.tmp 1) rfl w.heap.size (by rfl) 64 #[.slice p0 f0.length c0, .slice p1 f1.length c1, .slice p2 f2.length c2] (0, 0) _ b0 Tryd.underlying64 rfl (info3 _ _ _) ?_)
  have hsz : ((w.alloc (.cells #[.slice p0 f0.length c0, .slice p1 f1.length c1, .slice p2 f2.length c2] 64)).alloc (.cells #[.slice none 0 0] 33)).heap.size = w.heap.size + 2 := by simp
  generalize (w.alloc (.cells #[.slice p0 f0.length c0, .slice p1 f1.length c1, .slice p2 f2.length c2] 64)).alloc (.cells #[.slice none 0 0] 33) = w0 at *
  generalize hB : w.heap.size = B at *
  go_loopg [9] 3 (fun q s9 wr => ∃ (k n : Nat) (a : Option Addr) (c : Nat), k ≤ 3 ∧ 3 - k ≤ q ∧ s9 = .int .i64 (k : Int) ∧ n = (allP (([f0, f1, f2] : List (List Fl)).take k)).length ∧ n ≤ k * 1000 ∧ wr.heap[B]? = some (.cells #[.slice p0 f0.length c0, .slice p1 f1.length c1, .slice p2 f2.length c2] 64 (0, 0)) ∧ wr.heap[B + 1]? = some (.cells #[.slice a n c] 33 (0, 0)) ∧ wr.ownsRow B 9 1 (.slice a n c) n ((allP (([f0, f1, f2] : List (List Fl)).take k)).map .string) ∧ Ext w wr ∧ w0.heap.size ≤ wr.heap.size)
  case atStart => exact ⟨0, 0, none, 0, by omega, by omega, rfl, rfl, by omega, b0, a0, World.ownsRow_nil _ _ _ _, X0, Nat.le_refl _⟩
  case round =>
    clear b0 a0
    obtain ⟨k, n, a, c, hk, hq, rfl, hn, hnk, bB, bA, own, xr, hs0⟩ := hrel
    by_cases hlt : k < 3
    · rcases (show k = 0 ∨ k = 1 ∨ k = 2 by omega) with rfl | rfl | rfl
      · have hidx := idx0
        go_wp2_with fail
        have HIN := Lib.hid (show allP (([f0, f1, f2] : List (List Fl)).take (0 + 1)) = allP (([f0, f1, f2] : List (List Fl)).take 0) ++ f0.map Fl.path by simp [allP])
        generalize allP (([f0, f1, f2] : List (List Fl)).take 0) = P0 at *
        have bB1 := blk_old (o := .cells #[.slice p0 f0.length c0] 24) bB
        have bA1 := blk_old (o := .cells #[.slice p0 f0.length c0] 24) bA
        have own1 := own.alloc (.cells #[.slice p0 f0.length c0] 24)
        have x1 := xr.alloc (.cells #[.slice p0 f0.length c0] 24)
        have hs1 : w0.heap.size ≤ (wr.alloc (.cells #[.slice p0 f0.length c0] 24)).heap.size := by simp; omega
        clear bB bA own xr hidx
        generalize wr.alloc (.cells #[.slice p0 f0.length c0] 24) = w1 at *
        go_loopg [15] f0.length (fun q s15 wr => ∃ (j n : Nat) (a : Option Addr) (c : Nat), j ≤ f0.length ∧ f0.length - j ≤ q ∧ s15 = .int .i64 (j : Int) ∧ n = P0.length + j ∧ wr.heap[B]? = some (.cells #[.slice p0 f0.length c0, .slice p1 f1.length c1, .slice p2 f2.length c2] 64 (0, 0)) ∧ wr.heap[B + 1]? = some (.cells #[.slice a n c] 33 (0, 0)) ∧ wr.ownsRow B 9 1 (.slice a n c) n ((P0 ++ (f0.take j).map Fl.path).map .string) ∧ Ext w wr ∧ w0.heap.size ≤ wr.heap.size)
        case atStart => exact ⟨0, n, a, c, by omega, by omega, rfl, by omega, bB1, bA1, by simpa using own1, x1, hs1⟩
        case round =>
          clear bB1 bA1 own1 x1 hs1
          obtain ⟨j, n1, a1, c1', hj, hqj, rfl, hn1, bB, bA, own, xr, hs1⟩ := hrel
          have hnb : n1 ≤ 4000 := by omega
          have HN1 := Lib.hid hn1
          clear hn1
          by_cases hlj : j < f0.length
          · obtain ⟨pb, o, rfl, e0, e1⟩ := G0.out j hlj
            have e0 := xr.cell e0
            have e1 := xr.cell e1
            have HST := Lib.hid (show (f0.take (j + 1)).map Fl.path = (f0.take j).map Fl.path ++ [f0[j].path] by rw [List.take_succ_eq_append_getElem hlj, List.map_append]; rfl)
            generalize f0[j] = x at *
            generalize (f0.take j).map Fl.path = P1 at *
            have bF := heap_alloc_new wr (.cells #[.string x.path, .string x.text] 46)
            have bB2 := blk_old (o := .cells #[.string x.path, .string x.text] 46) bB
            have bA2 := blk_old (o := .cells #[.string x.path, .string x.text] 46) bA
            have own2 := own.alloc (.cells #[.string x.path, .string x.text] 46)
            have x2 := xr.alloc (.cells #[.string x.path, .string x.text] 46)
            have hs2 : w0.heap.size ≤ (wr.alloc (.cells #[.string x.path, .string x.text] 46)).heap.size := by simp; omega
            have kF := block_cell bF 0
            have kA := block_cell bA2 0
            have kA : (wr.alloc (.cells #[.string x.path, .string x.text] 46)).cell? ⟨B + 1, 0, none⟩ = some (.slice a1 n1 c1') := by rw [kA]; rfl
            have hBw : B ≤ (wr.alloc (.cells #[.string x.path, .string x.text] 46)).heap.size := by omega
            have own3 := own2.alloc (.cells #[.string x.path] 9)
            have bA3 := blk_old (o := .cells #[.string x.path] 9) bA2
            have bB3 := blk_old (o := .cells #[.string x.path] 9) bB2
            have x3 := x2.alloc (.cells #[.string x.path] 9)
            have hw3 : B ≤ ((wr.alloc (.cells #[.string x.path, .string x.text] 46)).alloc (.cells #[.string x.path] 9)).heap.size := by simp; omega
            clear bB bA own xr kF
            go_wp2_with (at_builtin; go_must (refine wp_app (w := (wr.alloc (.cells #[.string x.path, .string x.text] 46)).alloc (.cells #[.string x.path] 9)) tyS rfl (.tmp 19) (.tmp 22) rfl B _ n1 _ own3 (by rfl) _ 1 [.string x.path] (sl_one_new (w := wr.alloc (.cells #[.string x.path, .string x.text] 46)) (n := 1) (e := 9) (H := wr.heap.size + 1) (Q := [.string x.path]) (by simp) rfl) (by rfl) (str_one _) (by omega) (by omega) hw3 ?_); intro v7 w7 own7 gr7; have bA7 := grown_otherO gr7 bA3 (own_neU own3 bA3 (by decide)); have bB7 := grown_otherO gr7 bB3 (own_neU own3 bB3 (by decide)); have xw7 := x3.grown gr7 (fun k hk => by have := (own3.lt k hk).1; omega); have hs7 := gr7.size; obtain ⟨a7, c7, rfl⟩ := slice_shape own7; have cA7 := block_cell bA7 0; have fA7 := block_free bA7 0)
            go_roundg (f0.length - (j + 1))
            case measure => omega
            case rel =>
              refine ⟨j + 1, n1 + 1, a7, c7, by omega, by omega, by go_num, by rw [HN1.out]; rfl, set_other bB7 (by omega), block_setCell bA7 _, ?_, xw7.setCell (p := ⟨B + 1, 0, none⟩) (by show w.heap.size ≤ B + 1; omega) _, ?_⟩
              · have := own7.kept (grown_setCell w7 (B + 1) 0 (.slice a7 (n1 + 1) c7)) (.inr (own_neU own7 bA7 (by decide)))
                rw [HST.out]
                simpa using this
              · have h3 := (grown_setCell w7 (B + 1) 0 (.slice a7 (n1 + 1) c7)).size
                simp only [World.size_alloc] at hs7 hs2
                omega
          · obtain rfl : j = f0.length := by omega
            go_wp2_with fail
            go_roundg (3 - (0 + 1))
            case measure => omega
            case rel => exact ⟨0 + 1, n1, a1, c1', by omega, by omega, by go_num, by rw [HIN.out, List.length_append, List.length_map]; exact HN1.out, by have := HN1.out; omega, bB, bA, by rw [HIN.out]; simpa using own, xr, hs1⟩
      · have hidx := idx1
        go_wp2_with fail
        have HIN := Lib.hid (show allP (([f0, f1, f2] : List (List Fl)).take (1 + 1)) = allP (([f0, f1, f2] : List (List Fl)).take 1) ++ f1.map Fl.path by simp [allP])
        generalize allP (([f0, f1, f2] : List (List Fl)).take 1) = P0 at *
        have bB1 := blk_old (o := .cells #[.slice p1 f1.length c1] 24) bB
        have bA1 := blk_old (o := .cells #[.slice p1 f1.length c1] 24) bA
        have own1 := own.alloc (.cells #[.slice p1 f1.length c1] 24)
        have x1 := xr.alloc (.cells #[.slice p1 f1.length c1] 24)
        have hs1 : w0.heap.size ≤ (wr.alloc (.cells #[.slice p1 f1.length c1] 24)).heap.size := by simp; omega
        clear bB bA own xr hidx
        generalize wr.alloc (.cells #[.slice p1 f1.length c1] 24) = w1 at *
        go_loopg [15] f1.length (fun q s15 wr => ∃ (j n : Nat) (a : Option Addr) (c : Nat), j ≤ f1.length ∧ f1.length - j ≤ q ∧ s15 = .int .i64 (j : Int) ∧ n = P0.length + j ∧ wr.heap[B]? = some (.cells #[.slice p0 f0.length c0, .slice p1 f1.length c1, .slice p2 f2.length c2] 64 (0, 0)) ∧ wr.heap[B + 1]? = some (.cells #[.slice a n c] 33 (0, 0)) ∧ wr.ownsRow B 9 1 (.slice a n c) n ((P0 ++ (f1.take j).map Fl.path).map .string) ∧ Ext w wr ∧ w0.heap.size ≤ wr.heap.size)
        case atStart => exact ⟨0, n, a, c, by omega, by omega, rfl, by omega, bB1, bA1, by simpa using own1, x1, hs1⟩
        case round =>
          clear bB1 bA1 own1 x1 hs1
          obtain ⟨j, n1, a1, c1', hj, hqj, rfl, hn1, bB, bA, own, xr, hs1⟩ := hrel
          have hnb : n1 ≤ 4000 := by omega
          have HN1 := Lib.hid hn1
          clear hn1
          by_cases hlj : j < f1.length
          · obtain ⟨pb, o, rfl, e0, e1⟩ := G1.out j hlj
            have e0 := xr.cell e0
            have e1 := xr.cell e1
            have HST := Lib.hid (show (f1.take (j + 1)).map Fl.path = (f1.take j).map Fl.path ++ [f1[j].path] by rw [List.take_succ_eq_append_getElem hlj, List.map_append]; rfl)
            generalize f1[j] = x at *
            generalize (f1.take j).map Fl.path = P1 at *
            have bF := heap_alloc_new wr (.cells #[.string x.path, .string x.text] 46)
            have bB2 := blk_old (o := .cells #[.string x.path, .string x.text] 46) bB
            have bA2 := blk_old (o := .cells #[.string x.path, .string x.text] 46) bA
            have own2 := own.alloc (.cells #[.string x.path, .string x.text] 46)
            have x2 := xr.alloc (.cells #[.string x.path, .string x.text] 46)
            have hs2 : w0.heap.size ≤ (wr.alloc (.cells #[.string x.path, .string x.text] 46)).heap.size := by simp; omega
            have kF := block_cell bF 0
            have kA := block_cell bA2 0
            have kA : (wr.alloc (.cells #[.string x.path, .string x.text] 46)).cell? ⟨B + 1, 0, none⟩ = some (.slice a1 n1 c1') := by rw [kA]; rfl
            have hBw : B ≤ (wr.alloc (.cells #[.string x.path, .string x.text] 46)).heap.size := by omega
            have own3 := own2.alloc (.cells #[.string x.path] 9)
            have bA3 := blk_old (o := .cells #[.string x.path] 9) bA2
            have bB3 := blk_old (o := .cells #[.string x.path] 9) bB2
            have x3 := x2.alloc (.cells #[.string x.path] 9)
            have hw3 : B ≤ ((wr.alloc (.cells #[.string x.path, .string x.text] 46)).alloc (.cells #[.string x.path] 9)).heap.size := by simp; omega
            clear bB bA own xr kF
            go_wp2_with (at_builtin; go_must (refine wp_app (w := (wr.alloc (.cells #[.string x.path, .string x.text] 46)).alloc (.cells #[.string x.path] 9)) tyS rfl (.tmp 19) (.tmp 22) rfl B _ n1 _ own3 (by rfl) _ 1 [.string x.path] (sl_one_new (w := wr.alloc (.cells #[.string x.path, .string x.text] 46)) (n := 1) (e := 9) (H := wr.heap.size + 1) (Q := [.string x.path]) (by simp) rfl) (by rfl) (str_one _) (by omega) (by omega) hw3 ?_); intro v7 w7 own7 gr7; have bA7 := grown_otherO gr7 bA3 (own_neU own3 bA3 (by decide)); have bB7 := grown_otherO gr7 bB3 (own_neU own3 bB3 (by decide)); have xw7 := x3.grown gr7 (fun k hk => by have := (own3.lt k hk).1; omega); have hs7 := gr7.size; obtain ⟨a7, c7, rfl⟩ := slice_shape own7; have cA7 := block_cell bA7 0; have fA7 := block_free bA7 0)
            go_roundg (f1.length - (j + 1))
            case measure => omega
            case rel =>
              refine ⟨j + 1, n1 + 1, a7, c7, by omega, by omega, by go_num, by rw [HN1.out]; rfl, set_other bB7 (by omega), block_setCell bA7 _, ?_, xw7.setCell (p := ⟨B + 1, 0, none⟩) (by show w.heap.size ≤ B + 1; omega) _, ?_⟩
              · have := own7.kept (grown_setCell w7 (B + 1) 0 (.slice a7 (n1 + 1) c7)) (.inr (own_neU own7 bA7 (by decide)))
                rw [HST.out]
                simpa using this
              · have h3 := (grown_setCell w7 (B + 1) 0 (.slice a7 (n1 + 1) c7)).size
                simp only [World.size_alloc] at hs7 hs2
                omega
          · obtain rfl : j = f1.length := by omega
            go_wp2_with fail
            go_roundg (3 - (1 + 1))
            case measure => omega
            case rel => exact ⟨1 + 1, n1, a1, c1', by omega, by omega, by go_num, by rw [HIN.out, List.length_append, List.length_map]; exact HN1.out, by have := HN1.out; omega, bB, bA, by rw [HIN.out]; simpa using own, xr, hs1⟩
      · have hidx := idx2
        go_wp2_with fail
        have HIN := Lib.hid (show allP (([f0, f1, f2] : List (List Fl)).take (2 + 1)) = allP (([f0, f1, f2] : List (List Fl)).take 2) ++ f2.map Fl.path by simp [allP])
        generalize allP (([f0, f1, f2] : List (List Fl)).take 2) = P0 at *
        have bB1 := blk_old (o := .cells #[.slice p2 f2.length c2] 24) bB
        have bA1 := blk_old (o := .cells #[.slice p2 f2.length c2] 24) bA
        have own1 := own.alloc (.cells #[.slice p2 f2.length c2] 24)
        have x1 := xr.alloc (.cells #[.slice p2 f2.length c2] 24)
        have hs1 : w0.heap.size ≤ (wr.alloc (.cells #[.slice p2 f2.length c2] 24)).heap.size := by simp; omega
        clear bB bA own xr hidx
        generalize wr.alloc (.cells #[.slice p2 f2.length c2] 24) = w1 at *
        go_loopg [15] f2.length (fun q s15 wr => ∃ (j n : Nat) (a : Option Addr) (c : Nat), j ≤ f2.length ∧ f2.length - j ≤ q ∧ s15 = .int .i64 (j : Int) ∧ n = P0.length + j ∧ wr.heap[B]? = some (.cells #[.slice p0 f0.length c0, .slice p1 f1.length c1, .slice p2 f2.length c2] 64 (0, 0)) ∧ wr.heap[B + 1]? = some (.cells #[.slice a n c] 33 (0, 0)) ∧ wr.ownsRow B 9 1 (.slice a n c) n ((P0 ++ (f2.take j).map Fl.path).map .string) ∧ Ext w wr ∧ w0.heap.size ≤ wr.heap.size)
        case atStart => exact ⟨0, n, a, c, by omega, by omega, rfl, by omega, bB1, bA1, by simpa using own1, x1, hs1⟩
        case round =>
          clear bB1 bA1 own1 x1 hs1
          obtain ⟨j, n1, a1, c1', hj, hqj, rfl, hn1, bB, bA, own, xr, hs1⟩ := hrel
          have hnb : n1 ≤ 4000 := by omega
          have HN1 := Lib.hid hn1
          clear hn1
          by_cases hlj : j < f2.length
          · obtain ⟨pb, o, rfl, e0, e1⟩ := G2.out j hlj
            have e0 := xr.cell e0
            have e1 := xr.cell e1
            have HST := Lib.hid (show (f2.take (j + 1)).map Fl.path = (f2.take j).map Fl.path ++ [f2[j].path] by rw [List.take_succ_eq_append_getElem hlj, List.map_append]; rfl)
            generalize f2[j] = x at *
            generalize (f2.take j).map Fl.path = P1 at *
            have bF := heap_alloc_new wr (.cells #[.string x.path, .string x.text] 46)
            have bB2 := blk_old (o := .cells #[.string x.path, .string x.text] 46) bB
            have bA2 := blk_old (o := .cells #[.string x.path, .string x.text] 46) bA
            have own2 := own.alloc (.cells #[.string x.path, .string x.text] 46)
            have x2 := xr.alloc (.cells #[.string x.path, .string x.text] 46)
            have hs2 : w0.heap.size ≤ (wr.alloc (.cells #[.string x.path, .string x.text] 46)).heap.size := by simp; omega
            have kF := block_cell bF 0
            have kA := block_cell bA2 0
            have kA : (wr.alloc (.cells #[.string x.path, .string x.text] 46)).cell? ⟨B + 1, 0, none⟩ = some (.slice a1 n1 c1') := by rw [kA]; rfl
            have hBw : B ≤ (wr.alloc (.cells #[.string x.path, .string x.text] 46)).heap.size := by omega
            have own3 := own2.alloc (.cells #[.string x.path] 9)
            have bA3 := blk_old (o := .cells #[.string x.path] 9) bA2
            have bB3 := blk_old (o := .cells #[.string x.path] 9) bB2
            have x3 := x2.alloc (.cells #[.string x.path] 9)
            have hw3 : B ≤ ((wr.alloc (.cells #[.string x.path, .string x.text] 46)).alloc (.cells #[.string x.path] 9)).heap.size := by simp; omega
            clear bB bA own xr kF
            go_wp2_with (at_builtin; go_must (refine wp_app (w := (wr.alloc (.cells #[.string x.path, .string x.text] 46)).alloc (.cells #[.string x.path] 9)) tyS rfl (.tmp 19) (.tmp 22) rfl B _ n1 _ own3 (by rfl) _ 1 [.string x.path] (sl_one_new (w := wr.alloc (.cells #[.string x.path, .string x.text] 46)) (n := 1) (e := 9) (H := wr.heap.size + 1) (Q := [.string x.path]) (by simp) rfl) (by rfl) (str_one _) (by omega) (by omega) hw3 ?_); intro v7 w7 own7 gr7; have bA7 := grown_otherO gr7 bA3 (own_neU own3 bA3 (by decide)); have bB7 := grown_otherO gr7 bB3 (own_neU own3 bB3 (by decide)); have xw7 := x3.grown gr7 (fun k hk => by have := (own3.lt k hk).1; omega); have hs7 := gr7.size; obtain ⟨a7, c7, rfl⟩ := slice_shape own7; have cA7 := block_cell bA7 0; have fA7 := block_free bA7 0)
            go_roundg (f2.length - (j + 1))
            case measure => omega
            case rel =>
              refine ⟨j + 1, n1 + 1, a7, c7, by omega, by omega, by go_num, by rw [HN1.out]; rfl, set_other bB7 (by omega), block_setCell bA7 _, ?_, xw7.setCell (p := ⟨B + 1, 0, none⟩) (by show w.heap.size ≤ B + 1; omega) _, ?_⟩
              · have := own7.kept (grown_setCell w7 (B + 1) 0 (.slice a7 (n1 + 1) c7)) (.inr (own_neU own7 bA7 (by decide)))
                rw [HST.out]
                simpa using this
              · have h3 := (grown_setCell w7 (B + 1) 0 (.slice a7 (n1 + 1) c7)).size
                simp only [World.size_alloc] at hs7 hs2
                omega
          · obtain rfl : j = f2.length := by omega
            go_wp2_with fail
            go_roundg (3 - (2 + 1))
            case measure => omega
            case rel => exact ⟨2 + 1, n1, a1, c1', by omega, by omega, by go_num, by rw [HIN.out, List.length_append, List.length_map]; exact HN1.out, by have := HN1.out; omega, bB, bA, by rw [HIN.out]; simpa using own, xr, hs1⟩
    · obtain rfl : k = 3 := by omega
      have hall : ([f0, f1, f2] : List (List Fl)).take 3 = [f0, f1, f2] := rfl
      rw [hall] at hn own
      have hen : (allP [f0, f1, f2]).map Value.string = ((allP [f0, f1, f2]).map fun p => p.data.toList).map encStr := by
        rw [List.map_map]
        refine List.map_congr_left fun p _ => ?_
        cases p
        rfl
      obtain ⟨ss, hss⟩ : ∃ ss, (allP [f0, f1, f2]).map (fun p => p.data.toList) = ss := ⟨_, rfl⟩
      have hsl : ss.length = n := by rw [← hss, List.length_map, hn]
      rw [hen, hss] at own
      subst hsl
      have HSS := Lib.hid hss
      have cA := block_cell bA 0
      have cA : wr.cell? ⟨B + 1, 0, none⟩ = some (.slice a ss.length c) := by rw [cA]; rfl
      clear hen hss hn
      go_wp2_with fail
      refine Calls.mono (sortRow wr B _ ss own (by omega)) ?_
      rintro e w3 ⟨rfl, own3, gr3⟩
      have bA3 := grown_otherO gr3 bA (own_neU own bA (by decide))
      have bB3 := grown_otherO gr3 bB (own_neU own bB (by decide))
      have x3 : Ext w w3 := xr.grown gr3 (fun k hk => by have := (own.lt k hk).1; omega)
      have cA3 := block_cell bA3 0
      have cA3 : w3.cell? ⟨B + 1, 0, none⟩ = some (.slice a ss.length c) := by rw [cA3]; rfl
      have hsl2 : (ss.mergeSort fun x y => decide (x ≤ y)).length = ss.length := by simp
      have HSORT := Lib.hid (show Lib.compact (ss.mergeSort fun x y => decide (x ≤ y)) = PS.map (fun p => p.data.toList) by
        rw [← HPS.out, ← HSS.out]
        have := sorted_is (allP [f0, f1, f2])
        unfold pathsL
        rw [← this, List.map_map]
        exact (List.map_id _).symm)
      generalize (ss.mergeSort fun x y => decide (x ≤ y)) = zs at *
      have own3 : w3.ownsRow B 9 1 (.slice a ss.length c) zs.length (zs.map encStr) := by rw [hsl2]; exact own3
      clear cA bA bB own gr3 xr
      go_wp2_with fail
      refine Calls.mono (compactRow w3 B _ zs own3 (by omega)) ?_
      rintro e w4 ⟨v4, rfl, hv4, own4, gr4⟩
      have bA4 := grown_otherO gr4 bA3 (own_neU own3 bA3 (by decide))
      have bB4 := grown_otherO gr4 bB3 (own_neU own3 bB3 (by decide))
      have x4 : Ext w w4 := x3.grown gr4 (fun k hk => by have := (own3.lt k hk).1; omega)
      rw [HSORT.out] at own4
      have hen4 : (PS.map fun p => p.data.toList).map encStr = PS.map Value.string := by
        rw [List.map_map]
        refine List.map_congr_left fun p _ => ?_
        cases p
        rfl
      rw [hen4, List.length_map] at own4
      obtain ⟨a4, c4, rfl⟩ := slice_shape own4
      have f4 := block_free bA4 0
      have k4 := block_cell bA4 0
      clear own3 gr4 bA3 bB3 x3 cA3 hen4
      go_wp2_with fail
      go_ret
      refine ⟨B + 1, B, rfl, ?_, x4.setCell (p := ⟨B + 1, 0, none⟩) (by show w.heap.size ≤ B + 1; omega) _⟩
      rw [hB]
      exact ⟨⟨_, block_setCell bA4 _, own4.kept (grown_setCell _ _ _ _) (.inr (own_neU own4 bA4 (by decide)))⟩, set_other bB4 (by omega), by omega, Nat.le_refl _⟩
end Go.Proofs.YtpcpcjejdngllaaDoor
