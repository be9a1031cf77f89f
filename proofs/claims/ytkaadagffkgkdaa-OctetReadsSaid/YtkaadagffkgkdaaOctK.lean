/- The walk of the law OctetReads. -/
import Derived.Test.YtkaadagffkgkdaaOctJ
namespace Go.Proofs.Ytkaadagffkgkdaa
open Go.RowKit
set_option linter.unusedVariables false

theorem asks_opened {w : World} {v : Value} {xs : List (Int × Int)} (h : IsSl w v 2 xs.length (xs.flatMap askC)) :
    ∃ ao cap, v = .slice ao xs.length cap ∧ xs.length ≤ cap ∧ cap ≤ 9223372036854775807 ∧
      ∀ i (hi : i < xs.length), ∃ b off, ao = some ⟨b, off, none⟩ ∧ w.cell? ⟨b, off + i * 2, none⟩ = some (.int .i64 xs[i].1) ∧ w.cell? ⟨b, off + i * 2 + 1, none⟩ = some (.int .i64 xs[i].2) := by
  obtain ⟨hl, ao, cap, e, h2, h3, h4, h5⟩ := h
  have hk : ∀ x ∈ xs, (askC x).length = 2 := fun _ _ => rfl
  refine ⟨ao, cap, e, h2, h3, fun i hi => ?_⟩
  have g0 := flat_get askC 2 xs hk i hi 0 (by omega)
  have g1 := flat_get askC 2 xs hk i hi 1 (by omega)
  obtain ⟨b, off, e0, c0⟩ := h5 (i * 2) (by rw [hl]; omega)
  obtain ⟨b1, off1, e1, c1⟩ := h5 (i * 2 + 1) (by rw [hl]; omega)
  rw [e0] at e1
  simp only [Option.some.injEq, Addr.mk.injEq] at e1
  obtain ⟨rfl, rfl, _⟩ := e1
  refine ⟨b, off, e0, ?_, ?_⟩
  · rw [c0]; exact g0
  · rw [Nat.add_assoc, c1, g1]; rfl

theorem kind_bd (a : Int) : 0 ≤ (wrap64 (a.tmod 5 + 5)).tmod 5 ∧ (wrap64 (a.tmod 5 + 5)).tmod 5 ≤ 4 := by
  have h1 : -5 < a.tmod 5 := by rw [Int.tmod_eq_emod]; split <;> omega
  have h2 : a.tmod 5 < 5 := by rw [Int.tmod_eq_emod]; split <;> omega
  rw [IntWalk.wrap64_in _ ⟨by omega, by omega⟩, Int.tmod_eq_emod_of_nonneg (by omega)]
  omega

theorem refSameT (w : World) (v1 v2 : Value) (t : List UInt8) (h1 : IsB w v1 t) (h2 : IsB w v2 t) :
    Calls Try.prog 11 #[v1, v2] w fun e w' => e = .returned (.bool true) ∧ ∃ q, w' = w.drewN q := by
  refine (refSame w v1 v2 t t h1 h2).mono fun e w' ⟨he, hq⟩ => ⟨?_, hq⟩
  rw [he]; simp
theorem octetErrQ (w : World) (g : Nat) (l : List UInt8) (at_ : Nat) (err : Int) (h : IsRd w g l at_ err) :
    Calls Try.prog 22 #[.pointer (some ⟨g, 0, none⟩)] w fun e w' => e = .returned (.int .i64 err) ∧ ∃ q, w' = w.drewN q :=
  (octetErr w g l at_ err h).mono fun e w' ⟨he, hw⟩ => ⟨he, 0, by rw [← hw]; rfl⟩

theorem alloc3_0 (w : World) (A B C : Obj) : (((w.alloc A).alloc B).alloc C).heap[w.heap.size]? = some A := by
  rw [Below.heap_alloc _ _ _ (by simp; omega), Below.heap_alloc _ _ _ (by simp), heap_alloc_new]
theorem alloc3_1 (w : World) (A B C : Obj) : (((w.alloc A).alloc B).alloc C).heap[w.heap.size + 1]? = some B := by
  rw [Below.heap_alloc _ _ _ (by simp), show w.heap.size + 1 = (w.alloc A).heap.size from by simp, heap_alloc_new]
theorem alloc3_2 (w : World) (A B C : Obj) : (((w.alloc A).alloc B).alloc C).heap[w.heap.size + 1 + 1]? = some C := by
  rw [show w.heap.size + 1 + 1 = ((w.alloc A).alloc B).heap.size from by simp, heap_alloc_new]
theorem IsRd.other {w w' : World} {g b : Nat} {l : List UInt8} {a : Nat} {er : Int} {c : Array Value} {t : TypeId} {f : Nat × Nat} (h : IsRd w g l a er) (k : w.grownBy w' (some b)) (hb : w.heap[b]? = some (.cells c t f)) (hne : g ≠ b) (hc : ∀ n, Value.int .u8 n ∉ c.toList) : IsRd w' g l a er := by
  obtain ⟨h1, h2, v, h3, h4⟩ := h
  exact ⟨h1, h2, v, by rw [k.block g (block_lt h3) (by simpa using hne)]; exact h3, h4.kept k hb hc⟩
/-- A reader's own change leaves another reader as it was. -/
theorem IsRd.beside {w w' : World} {g b : Nat} {l m : List UInt8} {a a2 : Nat} {er er2 : Int} (h : IsRd w g l a er) (h2 : IsRd w b m a2 er2) (k : w.grownBy w' (some b)) (hne : g ≠ b) : IsRd w' g l a er := by
  obtain ⟨_, _, v, h3, h4⟩ := h2
  obtain ⟨ao, cap, rfl, _⟩ := h4.opened
  exact h.other k h3 hne (by intro n; simp)
theorem IsB.beside {w w' : World} {b : Nat} {v : Value} {l m : List UInt8} {a2 : Nat} {er2 : Int} (h : IsB w v l) (h2 : IsRd w b m a2 er2) (k : w.grownBy w' (some b)) : IsB w' v l := by
  obtain ⟨_, _, v, h3, h4⟩ := h2
  obtain ⟨ao, cap, rfl, _⟩ := h4.opened
  exact h.kept k h3 (by intro n; simp)
theorem IsRd.lt {w : World} {g : Nat} {l : List UInt8} {a : Nat} {er : Int} (h : IsRd w g l a er) : g < w.heap.size := by
  obtain ⟨_, _, v, h3, _⟩ := h
  exact block_lt h3

set_option maxHeartbeats 8000000 in
set_option maxRecDepth 100000 in
theorem walkOctetReads (w : World) (v : Value) (l : List UInt8) (hv : IsB w v l) (hb : l.length ≤ 140737488351232)
    (v2 : Value) (xs : List (Int × Int)) (hv2 : IsSl w v2 2 xs.length (xs.flatMap askC)) (hok : ∀ x ∈ xs, askOk x) :
    Calls Try.prog 4 #[v, v2] w fun e w' => e = .returned (.bool true) ∧ Below w.heap.size w w' := by
  obtain ⟨ao, cap, rfl, c1, m1, z1, g1⟩ := hv.opened
  obtain ⟨ao2, cap2, rfl, c2, m2, g2⟩ := asks_opened hv2
  have G2 := Lib.hid g2
  have HOK := Lib.hid hok
  clear g1 z1 g2 hv2 hok
  go_enter Try.func4, Try.ntmps4
  go_wp2_with fail
  refine (wakes01 _).mono ?_
  rintro e w1 ⟨rfl, x1⟩
  go_wp2_with fail
  refine Calls.mono (octetRead _ _ l (hv.ext x1) (by omega)) ?_
  rintro e w2 ⟨gr, rfl, hgr, hr, e2⟩
  have x2 := x1.trans e2
  go_wp2_with fail
  refine Calls.mono (octetRead _ _ l (hv.ext x2) (by omega)) ?_
  rintro e w3 ⟨gs, rfl, hgs, hs, e3⟩
  have x3 := x2.trans e3
  have hr3 := hr.ext e3
  have hne : gr < gs := by obtain ⟨_, _, u, hu, _⟩ := hr; have := block_lt hu; omega
  clear hr e2 e3
  go_wp2_with fail
  refine Calls.mono (refBoth _ _ _ l [] (hv.ext x3) (IsB.nil _) (by simp; omega)) ?_
  rintro e w4 ⟨c, rfl, hc, e4⟩
  have x4 := x3.trans e4
  rw [List.append_nil] at hc
  have hc := IsB.of_owns hc
  have hr4 := hr3.ext e4
  have hs4 := hs.ext e4
  have hgs4 : gs < w4.heap.size := by obtain ⟨_, _, u, hu, _⟩ := hs4; exact block_lt hu
  have hgr' : w.heap.size ≤ gr := Nat.le_trans x1.size hgr
  clear hr3 hs e4 hgr hgs x1 x2 x3
  obtain ⟨aoc, capc, rfl, cc1, mc1, zc1, gc1⟩ := hc.opened
  clear zc1 gc1
  go_wp2_with fail
  go_loopg [24] xs.length (fun g s24 wr => ∃ (k at_ : Nat) (err : Int), k ≤ xs.length ∧ xs.length - k ≤ g ∧ s24 = .int .i64 k ∧ IsRd wr gr l at_ err ∧ IsRd wr gs l 0 0 ∧ wr.heap[w4.heap.size]? = some (.cells #[.slice aoc l.length capc, .int .i64 (at_ : Int), .int .i64 err] 32 (0, 0)) ∧ IsB wr (.slice aoc l.length capc) l ∧ Ext w wr)
  case atStart => exact ⟨0, 0, 0, Nat.zero_le _, by omega, rfl, hr4.ext ((Ext.refl _).alloc _), hs4.ext ((Ext.refl _).alloc _), heap_alloc_new _ _, hc.ext ((Ext.refl _).alloc _), x4.alloc _⟩
  case round =>
    obtain ⟨k, at_, err, hk, hg, rfl, hr, hs, hgm, hbm, xr⟩ := hrel
    by_cases hlt : k < xs.length
    · obtain ⟨p, o, rfl, e0, e1⟩ := G2.out k hlt
      have e0 := xr.cell e0
      have e1 := xr.cell e1
      obtain ⟨⟨o1, o2⟩, o3, o4⟩ := HOK.out xs[k] (List.getElem_mem hlt)
      generalize xs[k].1 = a at *
      generalize xs[k].2 = b at *
      have m0 : wr.cell? ⟨w4.heap.size, 0, none⟩ = some (.slice aoc l.length capc) := by rw [block_cell hgm]; rfl
      have m1 : wr.cell? ⟨w4.heap.size, 1, none⟩ = some (.int .i64 (at_ : Int)) := by rw [block_cell hgm]; rfl
      have m2 : wr.cell? ⟨w4.heap.size, 2, none⟩ = some (.int .i64 err) := by rw [block_cell hgm]; rfl
      have hlt4 : w4.heap.size < wr.heap.size := block_lt hgm
      have hne4 : ¬ w4.heap.size = wr.heap.size := by omega
      have HGM := Lib.hid hgm
      clear hgm
      go_wp2_with fail
      have hq := kind_bd a
      generalize hqq : (wrap64 (a.tmod 5 + 5)).tmod 5 = q at *
      have HQQ := Lib.hid hqq
      clear hqq
      rcases (show q = 0 ∨ q = 1 ∨ q = 2 ∨ q = 3 ∨ q = 4 from by omega) with rfl | rfl | rfl | rfl | rfl
      · refine Calls.mono (refDo0 _ _ l at_ err b (hbm.ext ((Ext.refl _).alloc _)) hr.le (by omega) ⟨o3, o4⟩) ?_
        rintro e w5 ⟨vt, rfl, ⟨vb, rfl, hvb⟩, e5⟩
        have e5a := ((Ext.refl wr).alloc _).trans e5
        have q0 : w5.cell? ⟨wr.heap.size, 0, none⟩ = some (.int .i64 0) := e5.cell (by rw [World.cell?_alloc_new]; rfl)
        have q1 : w5.cell? ⟨wr.heap.size, 1, none⟩ = some (.int .i64 b) := e5.cell (by rw [World.cell?_alloc_new]; rfl)
        have hs5 : wr.heap.size < w5.heap.size := by have := e5.size; simp at this; omega
        have hgr5 : gr < wr.heap.size := hr.lt
        have hgs5 : gs < wr.heap.size := hs.lt
        have hgm5 := e5a.block (k := w4.heap.size) hlt4
        rw [HGM.out] at hgm5
        simp only [Int.reduceLT, if_true] at hvb
        obtain ⟨aob, capb, rfl, cb1, mb1, zb1, gb1⟩ := hvb.opened
        clear zb1 gb1
        have hnb : (num (rTake l at_ err 1) : Int) < 256 := by have := num_small (rTake l at_ err 1) 1 (by simpa using rTake_len l at_ err 1); omega
        generalize hat : (rNext l at_ err 1).1 = at' at *
        generalize her : (rNext l at_ err 1).2 = err' at *
        have HT := Lib.hid hat
        have HE := Lib.hid her
        have HGM5 := Lib.hid hgm5
        clear hat her hgm5
        go_wp2_with fail
        refine Calls.mono (octetU8 _ gr l at_ err (((hr.ext e5a).ext (((Ext.refl _).alloc _).alloc _)).ext ((Ext.refl _).alloc _))) ?_
        rintro e w6 ⟨rfl, hr6, hg6⟩
        rw [HT.out, HE.out] at hr6
        have s6 : w5.heap.size + 1 + 1 < w6.heap.size := by have := hg6.size; simp at this; omega
        have n0 := hg6.block w5.heap.size (by simp; omega) (by simp; omega)
        have n1 := hg6.block (w5.heap.size + 1) (by simp) (by simp; omega)
        have n2 := hg6.block (w5.heap.size + 1 + 1) (by simp) (by simp; omega)
        rw [alloc3_0] at n0
        rw [alloc3_1] at n1
        rw [alloc3_2] at n2
        have n3 := hg6.block w4.heap.size (by simp; omega) (by simp; omega)
        rw [Below.heap_alloc _ _ _ (by simp; omega), Below.heap_alloc _ _ _ (by simp; omega), Below.heap_alloc _ _ _ (by omega), HGM5.out] at n3
        have E3 : ∀ A B C : Obj, Ext w5 (((w5.alloc A).alloc B).alloc C) := fun A B C => (((Ext.refl _).alloc _).alloc _).alloc _
        have hs6 : IsRd w6 gs l 0 0 := ((hs.ext e5a).ext (E3 _ _ _)).beside ((hr.ext e5a).ext (E3 _ _ _)) hg6 (by omega)
        have hb6 : IsB w6 (.slice aoc l.length capc) l := ((hbm.ext e5a).ext (E3 _ _ _)).beside ((hr.ext e5a).ext (E3 _ _ _)) hg6
        have hv6 := (hvb.ext (E3 _ _ _)).beside ((hr.ext e5a).ext (E3 _ _ _)) hg6
        have x6 : Ext w w6 := ((xr.trans e5a).trans (E3 _ _ _)).grown hg6 (by intro k hk; simp at hk; omega)
        have t0 : w6.cell? ⟨w5.heap.size, 0, none⟩ = some (.slice aoc l.length capc) := by rw [block_cell n0]; rfl
        have t1 : w6.cell? ⟨w5.heap.size, 1, none⟩ = some (.int .i64 (at' : Int)) := by rw [block_cell n0]; rfl
        have t2 : w6.cell? ⟨w5.heap.size, 2, none⟩ = some (.int .i64 err') := by rw [block_cell n0]; rfl
        have t3 : w6.cell? ⟨w5.heap.size + 1, 0, none⟩ = some (.int .u64 (num (rTake l at_ err 1) : Int)) := by rw [block_cell n1]; rfl
        have t4 : w6.cell? ⟨w5.heap.size + 1, 1, none⟩ = some (.slice aob 0 capb) := by rw [block_cell n1]; rfl
        have t5 : w6.cell? ⟨w5.heap.size + 1 + 1, 0, none⟩ = some (.int .u64 0) := by rw [block_cell n2]; rfl
        have t6 : w6.cell? ⟨w5.heap.size + 1 + 1, 1, none⟩ = some (.slice none 0 0) := by rw [block_cell n2]; rfl
        have f5 := block_free n2 0
        have f6 := block_free n2 1
        have N0 := Lib.hid n0
        have N1 := Lib.hid n1
        have N2 := Lib.hid n2
        have N3 := Lib.hid n3
        clear n0 n1 n2 n3 q0 q1
        go_upto_region 21 with fail
        have g7 := grown_setCell w6 (w5.heap.size + 1 + 1) 0 (.int .u64 (num (rTake l at_ err 1) : Int))
        have noT : ∀ n, Value.int .u8 n ∉ (#[Value.int .u64 0, .slice none 0 0] : Array Value).toList := by intro n; simp
        have hr7 := hr6.other g7 N2.out (by omega) noT
        have hs7 := hs6.other g7 N2.out (by omega) noT
        have hb7 := hb6.kept g7 N2.out noT
        have hv7 := hv6.kept g7 N2.out noT

        have m7 := g7.block w4.heap.size (by omega) (by simp; omega)
        rw [N3.out] at m7
        have x7 : Ext w (w6.setCell ⟨w5.heap.size + 1 + 1, 0, none⟩ (.int .u64 (num (rTake l at_ err 1) : Int))) := x6.setCell (by have := xr.size; simp only []; omega) _
        have M7 := Lib.hid m7
        have hle7 : at' ≤ l.length := hr7.le
        have hnn : ((num (rTake l at_ err 1) : Int) != (num (rTake l at_ err 1) : Int)) = false := by simp
        have hll : (((l.length : Int) - (at' : Int)) != ((l.length : Int) - (at' : Int))) = false := by simp
        have hee : (err' != err') = false := by simp
        have d1 : ¬ w5.heap.size = w5.heap.size + 1 + 1 := by omega
        clear m7 hr6 hs6 hb6 hv6 N0 N1 N3
        go_wp2_with fail
        have u0 : (w6.setCell ⟨w5.heap.size + 1 + 1, 0, none⟩ (.int .u64 (num (rTake l at_ err 1) : Int))).cell? ⟨w5.heap.size, 0, none⟩ = some (.slice aoc l.length capc) := g7.cell t0 (by simp; omega)
        have u1 : (w6.setCell ⟨w5.heap.size + 1 + 1, 0, none⟩ (.int .u64 (num (rTake l at_ err 1) : Int))).cell? ⟨w5.heap.size, 1, none⟩ = some (.int .i64 (at' : Int)) := g7.cell t1 (by simp; omega)
        have u2 : (w6.setCell ⟨w5.heap.size + 1 + 1, 0, none⟩ (.int .u64 (num (rTake l at_ err 1) : Int))).cell? ⟨w5.heap.size, 2, none⟩ = some (.int .i64 err') := g7.cell t2 (by simp; omega)
        have u3 : (w6.setCell ⟨w5.heap.size + 1 + 1, 0, none⟩ (.int .u64 (num (rTake l at_ err 1) : Int))).cell? ⟨w5.heap.size + 1, 0, none⟩ = some (.int .u64 (num (rTake l at_ err 1) : Int)) := g7.cell t3 (by simp)
        have u4 : (w6.setCell ⟨w5.heap.size + 1 + 1, 0, none⟩ (.int .u64 (num (rTake l at_ err 1) : Int))).cell? ⟨w5.heap.size + 1, 1, none⟩ = some (.slice aob 0 capb) := g7.cell t4 (by simp)
        have u5 : (w6.setCell ⟨w5.heap.size + 1 + 1, 0, none⟩ (.int .u64 (num (rTake l at_ err 1) : Int))).cell? ⟨w5.heap.size + 1 + 1, 0, none⟩ = some (.int .u64 (num (rTake l at_ err 1) : Int)) := by rw [block_cell (block_setCell N2.out _)]; rfl
        have u6 : (w6.setCell ⟨w5.heap.size + 1 + 1, 0, none⟩ (.int .u64 (num (rTake l at_ err 1) : Int))).cell? ⟨w5.heap.size + 1 + 1, 1, none⟩ = some (.slice none 0 0) := by rw [block_cell (block_setCell N2.out _)]; rfl
        have p0 : (w6.setCell ⟨w5.heap.size + 1 + 1, 0, none⟩ (.int .u64 (num (rTake l at_ err 1) : Int))).cell? ⟨w4.heap.size, 0, none⟩ = some (.slice aoc l.length capc) := by rw [block_cell M7.out]; rfl
        have p1 : (w6.setCell ⟨w5.heap.size + 1 + 1, 0, none⟩ (.int .u64 (num (rTake l at_ err 1) : Int))).cell? ⟨w4.heap.size, 1, none⟩ = some (.int .i64 (at_ : Int)) := by rw [block_cell M7.out]; rfl
        have p2 : (w6.setCell ⟨w5.heap.size + 1 + 1, 0, none⟩ (.int .u64 (num (rTake l at_ err 1) : Int))).cell? ⟨w4.heap.size, 2, none⟩ = some (.int .i64 err) := by rw [block_cell M7.out]; rfl
        have p3 := block_free M7.out 0
        have p4 := block_free M7.out 1
        have p5 := block_free M7.out 2
        clear t0 t1 t2 t3 t4 t5 t6 f5 f6 x6 g7
        generalize w6.setCell ⟨w5.heap.size + 1 + 1, 0, none⟩ (.int .u64 (num (rTake l at_ err 1) : Int)) = w7 at *
        clear N2 hg6 m0 m1 m2
        go_quiet (first
          | (go_at_call 11; exact Calls.quiet_of (refSameT _ _ _ _ ((IsB.nil _)) (hv7.ext (Ext.drewN (Ext.refl _) _))))
          | (go_at_call 21; exact Calls.quiet_of (octetLeft _ _ _ _ _ (hr7.ext (Ext.drewN (Ext.refl _) _))))
          | (go_at_call 22; exact Calls.quiet_of (octetErrQ _ _ _ _ _ (hr7.ext (Ext.drewN (Ext.refl _) _)))))
        go_wp2
        have gz : ∀ (q : Nat) (A B C : Value), w7.grownBy ((((w7.drewN q).setCell ⟨w4.heap.size, 0, none⟩ A).setCell ⟨w4.heap.size, 1, none⟩ B).setCell ⟨w4.heap.size, 2, none⟩ C) (some w4.heap.size) := fun q A B C => grown_trans (grown_trans (grown_trans (grown_drewN w7 q _) (grown_setCell _ _ _ _)) (grown_setCell _ _ _ _)) (grown_setCell _ _ _ _)
        have noM : ∀ n, Value.int .u8 n ∉ (#[Value.slice aoc l.length capc, .int .i64 (at_ : Int), .int .i64 err] : Array Value).toList := by intro n; simp
        go_roundg (xs.length - (k + 1))
        case measure => omega
        case rel =>
          refine ⟨k + 1, at', err', by omega, by omega, by go_num, hr7.other (gz _ _ _ _) M7.out (by omega) noM, hs7.other (gz _ _ _ _) M7.out (by omega) noM, ?_, hb7.kept (gz _ _ _ _) M7.out noM, x7.grown (gz _ _ _ _) (by intro k hk; simp at hk; omega)⟩
          exact block_setCell (block_setCell (block_setCell (w := w7.drewN _) M7.out _) _) _
      · refine Calls.mono (refDo1 _ _ l at_ err b (hbm.ext ((Ext.refl _).alloc _)) hr.le (by omega) ⟨o3, o4⟩) ?_
        rintro e w5 ⟨vt, rfl, ⟨vb, rfl, hvb⟩, e5⟩
        have e5a := ((Ext.refl wr).alloc _).trans e5
        have q0 : w5.cell? ⟨wr.heap.size, 0, none⟩ = some (.int .i64 1) := e5.cell (by rw [World.cell?_alloc_new]; rfl)
        have q1 : w5.cell? ⟨wr.heap.size, 1, none⟩ = some (.int .i64 b) := e5.cell (by rw [World.cell?_alloc_new]; rfl)
        have hs5 : wr.heap.size < w5.heap.size := by have := e5.size; simp at this; omega
        have hgr5 : gr < wr.heap.size := hr.lt
        have hgs5 : gs < wr.heap.size := hs.lt
        have hgm5 := e5a.block (k := w4.heap.size) hlt4
        rw [HGM.out] at hgm5
        simp only [Int.reduceLT, if_true] at hvb
        obtain ⟨aob, capb, rfl, cb1, mb1, zb1, gb1⟩ := hvb.opened
        clear zb1 gb1
        have hnb : (num (rTake l at_ err 2) : Int) < 65536 := by have := num_small (rTake l at_ err 2) 2 (by simpa using rTake_len l at_ err 2); omega
        generalize hat : (rNext l at_ err 2).1 = at' at *
        generalize her : (rNext l at_ err 2).2 = err' at *
        have HT := Lib.hid hat
        have HE := Lib.hid her
        have HGM5 := Lib.hid hgm5
        clear hat her hgm5
        go_wp2_with fail
        refine Calls.mono (octetU16 _ gr l at_ err (((hr.ext e5a).ext (((Ext.refl _).alloc _).alloc _)).ext ((Ext.refl _).alloc _))) ?_
        rintro e w6 ⟨rfl, hr6, hg6⟩
        rw [HT.out, HE.out] at hr6
        have s6 : w5.heap.size + 1 + 1 < w6.heap.size := by have := hg6.size; simp at this; omega
        have n0 := hg6.block w5.heap.size (by simp; omega) (by simp; omega)
        have n1 := hg6.block (w5.heap.size + 1) (by simp) (by simp; omega)
        have n2 := hg6.block (w5.heap.size + 1 + 1) (by simp) (by simp; omega)
        rw [alloc3_0] at n0
        rw [alloc3_1] at n1
        rw [alloc3_2] at n2
        have n3 := hg6.block w4.heap.size (by simp; omega) (by simp; omega)
        rw [Below.heap_alloc _ _ _ (by simp; omega), Below.heap_alloc _ _ _ (by simp; omega), Below.heap_alloc _ _ _ (by omega), HGM5.out] at n3
        have E3 : ∀ A B C : Obj, Ext w5 (((w5.alloc A).alloc B).alloc C) := fun A B C => (((Ext.refl _).alloc _).alloc _).alloc _
        have hs6 : IsRd w6 gs l 0 0 := ((hs.ext e5a).ext (E3 _ _ _)).beside ((hr.ext e5a).ext (E3 _ _ _)) hg6 (by omega)
        have hb6 : IsB w6 (.slice aoc l.length capc) l := ((hbm.ext e5a).ext (E3 _ _ _)).beside ((hr.ext e5a).ext (E3 _ _ _)) hg6
        have hv6 := (hvb.ext (E3 _ _ _)).beside ((hr.ext e5a).ext (E3 _ _ _)) hg6
        have x6 : Ext w w6 := ((xr.trans e5a).trans (E3 _ _ _)).grown hg6 (by intro k hk; simp at hk; omega)
        have t0 : w6.cell? ⟨w5.heap.size, 0, none⟩ = some (.slice aoc l.length capc) := by rw [block_cell n0]; rfl
        have t1 : w6.cell? ⟨w5.heap.size, 1, none⟩ = some (.int .i64 (at' : Int)) := by rw [block_cell n0]; rfl
        have t2 : w6.cell? ⟨w5.heap.size, 2, none⟩ = some (.int .i64 err') := by rw [block_cell n0]; rfl
        have t3 : w6.cell? ⟨w5.heap.size + 1, 0, none⟩ = some (.int .u64 (num (rTake l at_ err 2) : Int)) := by rw [block_cell n1]; rfl
        have t4 : w6.cell? ⟨w5.heap.size + 1, 1, none⟩ = some (.slice aob 0 capb) := by rw [block_cell n1]; rfl
        have t5 : w6.cell? ⟨w5.heap.size + 1 + 1, 0, none⟩ = some (.int .u64 0) := by rw [block_cell n2]; rfl
        have t6 : w6.cell? ⟨w5.heap.size + 1 + 1, 1, none⟩ = some (.slice none 0 0) := by rw [block_cell n2]; rfl
        have f5 := block_free n2 0
        have f6 := block_free n2 1
        have N0 := Lib.hid n0
        have N1 := Lib.hid n1
        have N2 := Lib.hid n2
        have N3 := Lib.hid n3
        clear n0 n1 n2 n3 q0 q1
        go_upto_region 21 with fail
        have g7 := grown_setCell w6 (w5.heap.size + 1 + 1) 0 (.int .u64 (num (rTake l at_ err 2) : Int))
        have noT : ∀ n, Value.int .u8 n ∉ (#[Value.int .u64 0, .slice none 0 0] : Array Value).toList := by intro n; simp
        have hr7 := hr6.other g7 N2.out (by omega) noT
        have hs7 := hs6.other g7 N2.out (by omega) noT
        have hb7 := hb6.kept g7 N2.out noT
        have hv7 := hv6.kept g7 N2.out noT

        have m7 := g7.block w4.heap.size (by omega) (by simp; omega)
        rw [N3.out] at m7
        have x7 : Ext w (w6.setCell ⟨w5.heap.size + 1 + 1, 0, none⟩ (.int .u64 (num (rTake l at_ err 2) : Int))) := x6.setCell (by have := xr.size; simp only []; omega) _
        have M7 := Lib.hid m7
        have hle7 : at' ≤ l.length := hr7.le
        have hnn : ((num (rTake l at_ err 2) : Int) != (num (rTake l at_ err 2) : Int)) = false := by simp
        have hll : (((l.length : Int) - (at' : Int)) != ((l.length : Int) - (at' : Int))) = false := by simp
        have hee : (err' != err') = false := by simp
        have d1 : ¬ w5.heap.size = w5.heap.size + 1 + 1 := by omega
        clear m7 hr6 hs6 hb6 hv6 N0 N1 N3
        go_wp2_with fail
        have u0 : (w6.setCell ⟨w5.heap.size + 1 + 1, 0, none⟩ (.int .u64 (num (rTake l at_ err 2) : Int))).cell? ⟨w5.heap.size, 0, none⟩ = some (.slice aoc l.length capc) := g7.cell t0 (by simp; omega)
        have u1 : (w6.setCell ⟨w5.heap.size + 1 + 1, 0, none⟩ (.int .u64 (num (rTake l at_ err 2) : Int))).cell? ⟨w5.heap.size, 1, none⟩ = some (.int .i64 (at' : Int)) := g7.cell t1 (by simp; omega)
        have u2 : (w6.setCell ⟨w5.heap.size + 1 + 1, 0, none⟩ (.int .u64 (num (rTake l at_ err 2) : Int))).cell? ⟨w5.heap.size, 2, none⟩ = some (.int .i64 err') := g7.cell t2 (by simp; omega)
        have u3 : (w6.setCell ⟨w5.heap.size + 1 + 1, 0, none⟩ (.int .u64 (num (rTake l at_ err 2) : Int))).cell? ⟨w5.heap.size + 1, 0, none⟩ = some (.int .u64 (num (rTake l at_ err 2) : Int)) := g7.cell t3 (by simp)
        have u4 : (w6.setCell ⟨w5.heap.size + 1 + 1, 0, none⟩ (.int .u64 (num (rTake l at_ err 2) : Int))).cell? ⟨w5.heap.size + 1, 1, none⟩ = some (.slice aob 0 capb) := g7.cell t4 (by simp)
        have u5 : (w6.setCell ⟨w5.heap.size + 1 + 1, 0, none⟩ (.int .u64 (num (rTake l at_ err 2) : Int))).cell? ⟨w5.heap.size + 1 + 1, 0, none⟩ = some (.int .u64 (num (rTake l at_ err 2) : Int)) := by rw [block_cell (block_setCell N2.out _)]; rfl
        have u6 : (w6.setCell ⟨w5.heap.size + 1 + 1, 0, none⟩ (.int .u64 (num (rTake l at_ err 2) : Int))).cell? ⟨w5.heap.size + 1 + 1, 1, none⟩ = some (.slice none 0 0) := by rw [block_cell (block_setCell N2.out _)]; rfl
        have p0 : (w6.setCell ⟨w5.heap.size + 1 + 1, 0, none⟩ (.int .u64 (num (rTake l at_ err 2) : Int))).cell? ⟨w4.heap.size, 0, none⟩ = some (.slice aoc l.length capc) := by rw [block_cell M7.out]; rfl
        have p1 : (w6.setCell ⟨w5.heap.size + 1 + 1, 0, none⟩ (.int .u64 (num (rTake l at_ err 2) : Int))).cell? ⟨w4.heap.size, 1, none⟩ = some (.int .i64 (at_ : Int)) := by rw [block_cell M7.out]; rfl
        have p2 : (w6.setCell ⟨w5.heap.size + 1 + 1, 0, none⟩ (.int .u64 (num (rTake l at_ err 2) : Int))).cell? ⟨w4.heap.size, 2, none⟩ = some (.int .i64 err) := by rw [block_cell M7.out]; rfl
        have p3 := block_free M7.out 0
        have p4 := block_free M7.out 1
        have p5 := block_free M7.out 2
        clear t0 t1 t2 t3 t4 t5 t6 f5 f6 x6 g7
        generalize w6.setCell ⟨w5.heap.size + 1 + 1, 0, none⟩ (.int .u64 (num (rTake l at_ err 2) : Int)) = w7 at *
        clear N2 hg6 m0 m1 m2
        go_quiet (first
          | (go_at_call 11; exact Calls.quiet_of (refSameT _ _ _ _ ((IsB.nil _)) (hv7.ext (Ext.drewN (Ext.refl _) _))))
          | (go_at_call 21; exact Calls.quiet_of (octetLeft _ _ _ _ _ (hr7.ext (Ext.drewN (Ext.refl _) _))))
          | (go_at_call 22; exact Calls.quiet_of (octetErrQ _ _ _ _ _ (hr7.ext (Ext.drewN (Ext.refl _) _)))))
        go_wp2
        have gz : ∀ (q : Nat) (A B C : Value), w7.grownBy ((((w7.drewN q).setCell ⟨w4.heap.size, 0, none⟩ A).setCell ⟨w4.heap.size, 1, none⟩ B).setCell ⟨w4.heap.size, 2, none⟩ C) (some w4.heap.size) := fun q A B C => grown_trans (grown_trans (grown_trans (grown_drewN w7 q _) (grown_setCell _ _ _ _)) (grown_setCell _ _ _ _)) (grown_setCell _ _ _ _)
        have noM : ∀ n, Value.int .u8 n ∉ (#[Value.slice aoc l.length capc, .int .i64 (at_ : Int), .int .i64 err] : Array Value).toList := by intro n; simp
        go_roundg (xs.length - (k + 1))
        case measure => omega
        case rel =>
          refine ⟨k + 1, at', err', by omega, by omega, by go_num, hr7.other (gz _ _ _ _) M7.out (by omega) noM, hs7.other (gz _ _ _ _) M7.out (by omega) noM, ?_, hb7.kept (gz _ _ _ _) M7.out noM, x7.grown (gz _ _ _ _) (by intro k hk; simp at hk; omega)⟩
          exact block_setCell (block_setCell (block_setCell (w := w7.drewN _) M7.out _) _) _
      · refine Calls.mono (refDo2 _ _ l at_ err b (hbm.ext ((Ext.refl _).alloc _)) hr.le (by omega) ⟨o3, o4⟩) ?_
        rintro e w5 ⟨vt, rfl, ⟨vb, rfl, hvb⟩, e5⟩
        have e5a := ((Ext.refl wr).alloc _).trans e5
        have q0 : w5.cell? ⟨wr.heap.size, 0, none⟩ = some (.int .i64 2) := e5.cell (by rw [World.cell?_alloc_new]; rfl)
        have q1 : w5.cell? ⟨wr.heap.size, 1, none⟩ = some (.int .i64 b) := e5.cell (by rw [World.cell?_alloc_new]; rfl)
        have hs5 : wr.heap.size < w5.heap.size := by have := e5.size; simp at this; omega
        have hgr5 : gr < wr.heap.size := hr.lt
        have hgs5 : gs < wr.heap.size := hs.lt
        have hgm5 := e5a.block (k := w4.heap.size) hlt4
        rw [HGM.out] at hgm5
        simp only [Int.reduceLT, if_true] at hvb
        obtain ⟨aob, capb, rfl, cb1, mb1, zb1, gb1⟩ := hvb.opened
        clear zb1 gb1
        have hnb : (num (rTake l at_ err 4) : Int) < 4294967296 := by have := num_small (rTake l at_ err 4) 4 (by simpa using rTake_len l at_ err 4); omega
        generalize hat : (rNext l at_ err 4).1 = at' at *
        generalize her : (rNext l at_ err 4).2 = err' at *
        have HT := Lib.hid hat
        have HE := Lib.hid her
        have HGM5 := Lib.hid hgm5
        clear hat her hgm5
        go_wp2_with fail
        refine Calls.mono (octetU32 _ gr l at_ err (((hr.ext e5a).ext (((Ext.refl _).alloc _).alloc _)).ext ((Ext.refl _).alloc _))) ?_
        rintro e w6 ⟨rfl, hr6, hg6⟩
        rw [HT.out, HE.out] at hr6
        have s6 : w5.heap.size + 1 + 1 < w6.heap.size := by have := hg6.size; simp at this; omega
        have n0 := hg6.block w5.heap.size (by simp; omega) (by simp; omega)
        have n1 := hg6.block (w5.heap.size + 1) (by simp) (by simp; omega)
        have n2 := hg6.block (w5.heap.size + 1 + 1) (by simp) (by simp; omega)
        rw [alloc3_0] at n0
        rw [alloc3_1] at n1
        rw [alloc3_2] at n2
        have n3 := hg6.block w4.heap.size (by simp; omega) (by simp; omega)
        rw [Below.heap_alloc _ _ _ (by simp; omega), Below.heap_alloc _ _ _ (by simp; omega), Below.heap_alloc _ _ _ (by omega), HGM5.out] at n3
        have E3 : ∀ A B C : Obj, Ext w5 (((w5.alloc A).alloc B).alloc C) := fun A B C => (((Ext.refl _).alloc _).alloc _).alloc _
        have hs6 : IsRd w6 gs l 0 0 := ((hs.ext e5a).ext (E3 _ _ _)).beside ((hr.ext e5a).ext (E3 _ _ _)) hg6 (by omega)
        have hb6 : IsB w6 (.slice aoc l.length capc) l := ((hbm.ext e5a).ext (E3 _ _ _)).beside ((hr.ext e5a).ext (E3 _ _ _)) hg6
        have hv6 := (hvb.ext (E3 _ _ _)).beside ((hr.ext e5a).ext (E3 _ _ _)) hg6
        have x6 : Ext w w6 := ((xr.trans e5a).trans (E3 _ _ _)).grown hg6 (by intro k hk; simp at hk; omega)
        have t0 : w6.cell? ⟨w5.heap.size, 0, none⟩ = some (.slice aoc l.length capc) := by rw [block_cell n0]; rfl
        have t1 : w6.cell? ⟨w5.heap.size, 1, none⟩ = some (.int .i64 (at' : Int)) := by rw [block_cell n0]; rfl
        have t2 : w6.cell? ⟨w5.heap.size, 2, none⟩ = some (.int .i64 err') := by rw [block_cell n0]; rfl
        have t3 : w6.cell? ⟨w5.heap.size + 1, 0, none⟩ = some (.int .u64 (num (rTake l at_ err 4) : Int)) := by rw [block_cell n1]; rfl
        have t4 : w6.cell? ⟨w5.heap.size + 1, 1, none⟩ = some (.slice aob 0 capb) := by rw [block_cell n1]; rfl
        have t5 : w6.cell? ⟨w5.heap.size + 1 + 1, 0, none⟩ = some (.int .u64 0) := by rw [block_cell n2]; rfl
        have t6 : w6.cell? ⟨w5.heap.size + 1 + 1, 1, none⟩ = some (.slice none 0 0) := by rw [block_cell n2]; rfl
        have f5 := block_free n2 0
        have f6 := block_free n2 1
        have N0 := Lib.hid n0
        have N1 := Lib.hid n1
        have N2 := Lib.hid n2
        have N3 := Lib.hid n3
        clear n0 n1 n2 n3 q0 q1
        go_upto_region 21 with fail
        have g7 := grown_setCell w6 (w5.heap.size + 1 + 1) 0 (.int .u64 (num (rTake l at_ err 4) : Int))
        have noT : ∀ n, Value.int .u8 n ∉ (#[Value.int .u64 0, .slice none 0 0] : Array Value).toList := by intro n; simp
        have hr7 := hr6.other g7 N2.out (by omega) noT
        have hs7 := hs6.other g7 N2.out (by omega) noT
        have hb7 := hb6.kept g7 N2.out noT
        have hv7 := hv6.kept g7 N2.out noT

        have m7 := g7.block w4.heap.size (by omega) (by simp; omega)
        rw [N3.out] at m7
        have x7 : Ext w (w6.setCell ⟨w5.heap.size + 1 + 1, 0, none⟩ (.int .u64 (num (rTake l at_ err 4) : Int))) := x6.setCell (by have := xr.size; simp only []; omega) _
        have M7 := Lib.hid m7
        have hle7 : at' ≤ l.length := hr7.le
        have hnn : ((num (rTake l at_ err 4) : Int) != (num (rTake l at_ err 4) : Int)) = false := by simp
        have hll : (((l.length : Int) - (at' : Int)) != ((l.length : Int) - (at' : Int))) = false := by simp
        have hee : (err' != err') = false := by simp
        have d1 : ¬ w5.heap.size = w5.heap.size + 1 + 1 := by omega
        clear m7 hr6 hs6 hb6 hv6 N0 N1 N3
        go_wp2_with fail
        have u0 : (w6.setCell ⟨w5.heap.size + 1 + 1, 0, none⟩ (.int .u64 (num (rTake l at_ err 4) : Int))).cell? ⟨w5.heap.size, 0, none⟩ = some (.slice aoc l.length capc) := g7.cell t0 (by simp; omega)
        have u1 : (w6.setCell ⟨w5.heap.size + 1 + 1, 0, none⟩ (.int .u64 (num (rTake l at_ err 4) : Int))).cell? ⟨w5.heap.size, 1, none⟩ = some (.int .i64 (at' : Int)) := g7.cell t1 (by simp; omega)
        have u2 : (w6.setCell ⟨w5.heap.size + 1 + 1, 0, none⟩ (.int .u64 (num (rTake l at_ err 4) : Int))).cell? ⟨w5.heap.size, 2, none⟩ = some (.int .i64 err') := g7.cell t2 (by simp; omega)
        have u3 : (w6.setCell ⟨w5.heap.size + 1 + 1, 0, none⟩ (.int .u64 (num (rTake l at_ err 4) : Int))).cell? ⟨w5.heap.size + 1, 0, none⟩ = some (.int .u64 (num (rTake l at_ err 4) : Int)) := g7.cell t3 (by simp)
        have u4 : (w6.setCell ⟨w5.heap.size + 1 + 1, 0, none⟩ (.int .u64 (num (rTake l at_ err 4) : Int))).cell? ⟨w5.heap.size + 1, 1, none⟩ = some (.slice aob 0 capb) := g7.cell t4 (by simp)
        have u5 : (w6.setCell ⟨w5.heap.size + 1 + 1, 0, none⟩ (.int .u64 (num (rTake l at_ err 4) : Int))).cell? ⟨w5.heap.size + 1 + 1, 0, none⟩ = some (.int .u64 (num (rTake l at_ err 4) : Int)) := by rw [block_cell (block_setCell N2.out _)]; rfl
        have u6 : (w6.setCell ⟨w5.heap.size + 1 + 1, 0, none⟩ (.int .u64 (num (rTake l at_ err 4) : Int))).cell? ⟨w5.heap.size + 1 + 1, 1, none⟩ = some (.slice none 0 0) := by rw [block_cell (block_setCell N2.out _)]; rfl
        have p0 : (w6.setCell ⟨w5.heap.size + 1 + 1, 0, none⟩ (.int .u64 (num (rTake l at_ err 4) : Int))).cell? ⟨w4.heap.size, 0, none⟩ = some (.slice aoc l.length capc) := by rw [block_cell M7.out]; rfl
        have p1 : (w6.setCell ⟨w5.heap.size + 1 + 1, 0, none⟩ (.int .u64 (num (rTake l at_ err 4) : Int))).cell? ⟨w4.heap.size, 1, none⟩ = some (.int .i64 (at_ : Int)) := by rw [block_cell M7.out]; rfl
        have p2 : (w6.setCell ⟨w5.heap.size + 1 + 1, 0, none⟩ (.int .u64 (num (rTake l at_ err 4) : Int))).cell? ⟨w4.heap.size, 2, none⟩ = some (.int .i64 err) := by rw [block_cell M7.out]; rfl
        have p3 := block_free M7.out 0
        have p4 := block_free M7.out 1
        have p5 := block_free M7.out 2
        clear t0 t1 t2 t3 t4 t5 t6 f5 f6 x6 g7
        generalize w6.setCell ⟨w5.heap.size + 1 + 1, 0, none⟩ (.int .u64 (num (rTake l at_ err 4) : Int)) = w7 at *
        clear N2 hg6 m0 m1 m2
        go_quiet (first
          | (go_at_call 11; exact Calls.quiet_of (refSameT _ _ _ _ ((IsB.nil _)) (hv7.ext (Ext.drewN (Ext.refl _) _))))
          | (go_at_call 21; exact Calls.quiet_of (octetLeft _ _ _ _ _ (hr7.ext (Ext.drewN (Ext.refl _) _))))
          | (go_at_call 22; exact Calls.quiet_of (octetErrQ _ _ _ _ _ (hr7.ext (Ext.drewN (Ext.refl _) _)))))
        go_wp2
        have gz : ∀ (q : Nat) (A B C : Value), w7.grownBy ((((w7.drewN q).setCell ⟨w4.heap.size, 0, none⟩ A).setCell ⟨w4.heap.size, 1, none⟩ B).setCell ⟨w4.heap.size, 2, none⟩ C) (some w4.heap.size) := fun q A B C => grown_trans (grown_trans (grown_trans (grown_drewN w7 q _) (grown_setCell _ _ _ _)) (grown_setCell _ _ _ _)) (grown_setCell _ _ _ _)
        have noM : ∀ n, Value.int .u8 n ∉ (#[Value.slice aoc l.length capc, .int .i64 (at_ : Int), .int .i64 err] : Array Value).toList := by intro n; simp
        go_roundg (xs.length - (k + 1))
        case measure => omega
        case rel =>
          refine ⟨k + 1, at', err', by omega, by omega, by go_num, hr7.other (gz _ _ _ _) M7.out (by omega) noM, hs7.other (gz _ _ _ _) M7.out (by omega) noM, ?_, hb7.kept (gz _ _ _ _) M7.out noM, x7.grown (gz _ _ _ _) (by intro k hk; simp at hk; omega)⟩
          exact block_setCell (block_setCell (block_setCell (w := w7.drewN _) M7.out _) _) _
      · refine Calls.mono (refDo3 _ _ l at_ err b (hbm.ext ((Ext.refl _).alloc _)) hr.le (by omega) ⟨o3, o4⟩) ?_
        rintro e w5 ⟨vt, rfl, ⟨vb, rfl, hvb⟩, e5⟩
        have e5a := ((Ext.refl wr).alloc _).trans e5
        have q0 : w5.cell? ⟨wr.heap.size, 0, none⟩ = some (.int .i64 3) := e5.cell (by rw [World.cell?_alloc_new]; rfl)
        have q1 : w5.cell? ⟨wr.heap.size, 1, none⟩ = some (.int .i64 b) := e5.cell (by rw [World.cell?_alloc_new]; rfl)
        have hs5 : wr.heap.size < w5.heap.size := by have := e5.size; simp at this; omega
        have hgr5 : gr < wr.heap.size := hr.lt
        have hgs5 : gs < wr.heap.size := hs.lt
        have hgm5 := e5a.block (k := w4.heap.size) hlt4
        rw [HGM.out] at hgm5
        simp only [Int.reduceLT, if_true] at hvb
        obtain ⟨aob, capb, rfl, cb1, mb1, zb1, gb1⟩ := hvb.opened
        clear zb1 gb1
        have hnb : (num (rTake l at_ err 8) : Int) < 18446744073709551616 := by have := num_lt (rTake l at_ err 8); omega
        generalize hat : (rNext l at_ err 8).1 = at' at *
        generalize her : (rNext l at_ err 8).2 = err' at *
        have HT := Lib.hid hat
        have HE := Lib.hid her
        have HGM5 := Lib.hid hgm5
        clear hat her hgm5
        go_wp2_with fail
        refine Calls.mono (octetU64 _ gr l at_ err (((hr.ext e5a).ext (((Ext.refl _).alloc _).alloc _)).ext ((Ext.refl _).alloc _))) ?_
        rintro e w6 ⟨rfl, hr6, hg6⟩
        rw [HT.out, HE.out] at hr6
        have s6 : w5.heap.size + 1 + 1 < w6.heap.size := by have := hg6.size; simp at this; omega
        have n0 := hg6.block w5.heap.size (by simp; omega) (by simp; omega)
        have n1 := hg6.block (w5.heap.size + 1) (by simp) (by simp; omega)
        have n2 := hg6.block (w5.heap.size + 1 + 1) (by simp) (by simp; omega)
        rw [alloc3_0] at n0
        rw [alloc3_1] at n1
        rw [alloc3_2] at n2
        have n3 := hg6.block w4.heap.size (by simp; omega) (by simp; omega)
        rw [Below.heap_alloc _ _ _ (by simp; omega), Below.heap_alloc _ _ _ (by simp; omega), Below.heap_alloc _ _ _ (by omega), HGM5.out] at n3
        have E3 : ∀ A B C : Obj, Ext w5 (((w5.alloc A).alloc B).alloc C) := fun A B C => (((Ext.refl _).alloc _).alloc _).alloc _
        have hs6 : IsRd w6 gs l 0 0 := ((hs.ext e5a).ext (E3 _ _ _)).beside ((hr.ext e5a).ext (E3 _ _ _)) hg6 (by omega)
        have hb6 : IsB w6 (.slice aoc l.length capc) l := ((hbm.ext e5a).ext (E3 _ _ _)).beside ((hr.ext e5a).ext (E3 _ _ _)) hg6
        have hv6 := (hvb.ext (E3 _ _ _)).beside ((hr.ext e5a).ext (E3 _ _ _)) hg6
        have x6 : Ext w w6 := ((xr.trans e5a).trans (E3 _ _ _)).grown hg6 (by intro k hk; simp at hk; omega)
        have t0 : w6.cell? ⟨w5.heap.size, 0, none⟩ = some (.slice aoc l.length capc) := by rw [block_cell n0]; rfl
        have t1 : w6.cell? ⟨w5.heap.size, 1, none⟩ = some (.int .i64 (at' : Int)) := by rw [block_cell n0]; rfl
        have t2 : w6.cell? ⟨w5.heap.size, 2, none⟩ = some (.int .i64 err') := by rw [block_cell n0]; rfl
        have t3 : w6.cell? ⟨w5.heap.size + 1, 0, none⟩ = some (.int .u64 (num (rTake l at_ err 8) : Int)) := by rw [block_cell n1]; rfl
        have t4 : w6.cell? ⟨w5.heap.size + 1, 1, none⟩ = some (.slice aob 0 capb) := by rw [block_cell n1]; rfl
        have t5 : w6.cell? ⟨w5.heap.size + 1 + 1, 0, none⟩ = some (.int .u64 0) := by rw [block_cell n2]; rfl
        have t6 : w6.cell? ⟨w5.heap.size + 1 + 1, 1, none⟩ = some (.slice none 0 0) := by rw [block_cell n2]; rfl
        have f5 := block_free n2 0
        have f6 := block_free n2 1
        have N0 := Lib.hid n0
        have N1 := Lib.hid n1
        have N2 := Lib.hid n2
        have N3 := Lib.hid n3
        clear n0 n1 n2 n3 q0 q1
        go_upto_region 21 with fail
        have g7 := grown_setCell w6 (w5.heap.size + 1 + 1) 0 (.int .u64 (num (rTake l at_ err 8) : Int))
        have noT : ∀ n, Value.int .u8 n ∉ (#[Value.int .u64 0, .slice none 0 0] : Array Value).toList := by intro n; simp
        have hr7 := hr6.other g7 N2.out (by omega) noT
        have hs7 := hs6.other g7 N2.out (by omega) noT
        have hb7 := hb6.kept g7 N2.out noT
        have hv7 := hv6.kept g7 N2.out noT

        have m7 := g7.block w4.heap.size (by omega) (by simp; omega)
        rw [N3.out] at m7
        have x7 : Ext w (w6.setCell ⟨w5.heap.size + 1 + 1, 0, none⟩ (.int .u64 (num (rTake l at_ err 8) : Int))) := x6.setCell (by have := xr.size; simp only []; omega) _
        have M7 := Lib.hid m7
        have hle7 : at' ≤ l.length := hr7.le
        have hnn : ((num (rTake l at_ err 8) : Int) != (num (rTake l at_ err 8) : Int)) = false := by simp
        have hll : (((l.length : Int) - (at' : Int)) != ((l.length : Int) - (at' : Int))) = false := by simp
        have hee : (err' != err') = false := by simp
        have d1 : ¬ w5.heap.size = w5.heap.size + 1 + 1 := by omega
        clear m7 hr6 hs6 hb6 hv6 N0 N1 N3
        go_wp2_with fail
        have u0 : (w6.setCell ⟨w5.heap.size + 1 + 1, 0, none⟩ (.int .u64 (num (rTake l at_ err 8) : Int))).cell? ⟨w5.heap.size, 0, none⟩ = some (.slice aoc l.length capc) := g7.cell t0 (by simp; omega)
        have u1 : (w6.setCell ⟨w5.heap.size + 1 + 1, 0, none⟩ (.int .u64 (num (rTake l at_ err 8) : Int))).cell? ⟨w5.heap.size, 1, none⟩ = some (.int .i64 (at' : Int)) := g7.cell t1 (by simp; omega)
        have u2 : (w6.setCell ⟨w5.heap.size + 1 + 1, 0, none⟩ (.int .u64 (num (rTake l at_ err 8) : Int))).cell? ⟨w5.heap.size, 2, none⟩ = some (.int .i64 err') := g7.cell t2 (by simp; omega)
        have u3 : (w6.setCell ⟨w5.heap.size + 1 + 1, 0, none⟩ (.int .u64 (num (rTake l at_ err 8) : Int))).cell? ⟨w5.heap.size + 1, 0, none⟩ = some (.int .u64 (num (rTake l at_ err 8) : Int)) := g7.cell t3 (by simp)
        have u4 : (w6.setCell ⟨w5.heap.size + 1 + 1, 0, none⟩ (.int .u64 (num (rTake l at_ err 8) : Int))).cell? ⟨w5.heap.size + 1, 1, none⟩ = some (.slice aob 0 capb) := g7.cell t4 (by simp)
        have u5 : (w6.setCell ⟨w5.heap.size + 1 + 1, 0, none⟩ (.int .u64 (num (rTake l at_ err 8) : Int))).cell? ⟨w5.heap.size + 1 + 1, 0, none⟩ = some (.int .u64 (num (rTake l at_ err 8) : Int)) := by rw [block_cell (block_setCell N2.out _)]; rfl
        have u6 : (w6.setCell ⟨w5.heap.size + 1 + 1, 0, none⟩ (.int .u64 (num (rTake l at_ err 8) : Int))).cell? ⟨w5.heap.size + 1 + 1, 1, none⟩ = some (.slice none 0 0) := by rw [block_cell (block_setCell N2.out _)]; rfl
        have p0 : (w6.setCell ⟨w5.heap.size + 1 + 1, 0, none⟩ (.int .u64 (num (rTake l at_ err 8) : Int))).cell? ⟨w4.heap.size, 0, none⟩ = some (.slice aoc l.length capc) := by rw [block_cell M7.out]; rfl
        have p1 : (w6.setCell ⟨w5.heap.size + 1 + 1, 0, none⟩ (.int .u64 (num (rTake l at_ err 8) : Int))).cell? ⟨w4.heap.size, 1, none⟩ = some (.int .i64 (at_ : Int)) := by rw [block_cell M7.out]; rfl
        have p2 : (w6.setCell ⟨w5.heap.size + 1 + 1, 0, none⟩ (.int .u64 (num (rTake l at_ err 8) : Int))).cell? ⟨w4.heap.size, 2, none⟩ = some (.int .i64 err) := by rw [block_cell M7.out]; rfl
        have p3 := block_free M7.out 0
        have p4 := block_free M7.out 1
        have p5 := block_free M7.out 2
        clear t0 t1 t2 t3 t4 t5 t6 f5 f6 x6 g7
        generalize w6.setCell ⟨w5.heap.size + 1 + 1, 0, none⟩ (.int .u64 (num (rTake l at_ err 8) : Int)) = w7 at *
        clear N2 hg6 m0 m1 m2
        go_quiet (first
          | (go_at_call 11; exact Calls.quiet_of (refSameT _ _ _ _ ((IsB.nil _)) (hv7.ext (Ext.drewN (Ext.refl _) _))))
          | (go_at_call 21; exact Calls.quiet_of (octetLeft _ _ _ _ _ (hr7.ext (Ext.drewN (Ext.refl _) _))))
          | (go_at_call 22; exact Calls.quiet_of (octetErrQ _ _ _ _ _ (hr7.ext (Ext.drewN (Ext.refl _) _)))))
        go_wp2
        have gz : ∀ (q : Nat) (A B C : Value), w7.grownBy ((((w7.drewN q).setCell ⟨w4.heap.size, 0, none⟩ A).setCell ⟨w4.heap.size, 1, none⟩ B).setCell ⟨w4.heap.size, 2, none⟩ C) (some w4.heap.size) := fun q A B C => grown_trans (grown_trans (grown_trans (grown_drewN w7 q _) (grown_setCell _ _ _ _)) (grown_setCell _ _ _ _)) (grown_setCell _ _ _ _)
        have noM : ∀ n, Value.int .u8 n ∉ (#[Value.slice aoc l.length capc, .int .i64 (at_ : Int), .int .i64 err] : Array Value).toList := by intro n; simp
        go_roundg (xs.length - (k + 1))
        case measure => omega
        case rel =>
          refine ⟨k + 1, at', err', by omega, by omega, by go_num, hr7.other (gz _ _ _ _) M7.out (by omega) noM, hs7.other (gz _ _ _ _) M7.out (by omega) noM, ?_, hb7.kept (gz _ _ _ _) M7.out noM, x7.grown (gz _ _ _ _) (by intro k hk; simp at hk; omega)⟩
          exact block_setCell (block_setCell (block_setCell (w := w7.drewN _) M7.out _) _) _
      · refine Calls.mono (refDo4 _ _ l at_ err b (hbm.ext ((Ext.refl _).alloc _)) hr.le (by omega) ⟨o3, o4⟩) ?_
        rintro e w5 ⟨vt, rfl, ⟨vb, rfl, hvb⟩, e5⟩
        have e5a := ((Ext.refl wr).alloc _).trans e5
        have q0 : w5.cell? ⟨wr.heap.size, 0, none⟩ = some (.int .i64 4) := e5.cell (by rw [World.cell?_alloc_new]; rfl)
        have q1 : w5.cell? ⟨wr.heap.size, 1, none⟩ = some (.int .i64 b) := e5.cell (by rw [World.cell?_alloc_new]; rfl)
        have hs5 : wr.heap.size < w5.heap.size := by have := e5.size; simp at this; omega
        have hgr5 : gr < wr.heap.size := hr.lt
        have hgs5 : gs < wr.heap.size := hs.lt
        have hgm5 := e5a.block (k := w4.heap.size) hlt4
        rw [HGM.out] at hgm5
        simp only [Int.reduceLT, if_false] at hvb
        obtain ⟨aob, capb, rfl, cb1, mb1, zb1, gb1⟩ := hvb.opened
        clear zb1 gb1
        generalize hat : (rNext l at_ err b).1 = at' at *
        generalize her : (rNext l at_ err b).2 = err' at *
        have HT := Lib.hid hat
        have HE := Lib.hid her
        have HGM5 := Lib.hid hgm5
        clear hat her hgm5
        go_wp2_with fail
        refine Calls.mono (octetRaw _ gr l at_ err b (((hr.ext e5a).ext (((Ext.refl _).alloc _).alloc _)).ext ((Ext.refl _).alloc _)) ⟨o3, o4⟩) ?_
        rintro e w6 ⟨vg, rfl, hvg, hr6, hg6⟩
        obtain ⟨aog, capg, rfl, cg1, mg1, zg1, gg1⟩ := hvg.opened
        clear zg1 gg1
        rw [HT.out, HE.out] at hr6
        have s6 : w5.heap.size + 1 + 1 < w6.heap.size := by have := hg6.size; simp at this; omega
        have n0 := hg6.block w5.heap.size (by simp; omega) (by simp; omega)
        have n1 := hg6.block (w5.heap.size + 1) (by simp) (by simp; omega)
        have n2 := hg6.block (w5.heap.size + 1 + 1) (by simp) (by simp; omega)
        rw [alloc3_0] at n0
        rw [alloc3_1] at n1
        rw [alloc3_2] at n2
        have n3 := hg6.block w4.heap.size (by simp; omega) (by simp; omega)
        rw [Below.heap_alloc _ _ _ (by simp; omega), Below.heap_alloc _ _ _ (by simp; omega), Below.heap_alloc _ _ _ (by omega), HGM5.out] at n3
        have E3 : ∀ A B C : Obj, Ext w5 (((w5.alloc A).alloc B).alloc C) := fun A B C => (((Ext.refl _).alloc _).alloc _).alloc _
        have hs6 : IsRd w6 gs l 0 0 := ((hs.ext e5a).ext (E3 _ _ _)).beside ((hr.ext e5a).ext (E3 _ _ _)) hg6 (by omega)
        have hb6 : IsB w6 (.slice aoc l.length capc) l := ((hbm.ext e5a).ext (E3 _ _ _)).beside ((hr.ext e5a).ext (E3 _ _ _)) hg6
        have hv6 := (hvb.ext (E3 _ _ _)).beside ((hr.ext e5a).ext (E3 _ _ _)) hg6
        have x6 : Ext w w6 := ((xr.trans e5a).trans (E3 _ _ _)).grown hg6 (by intro k hk; simp at hk; omega)
        have t0 : w6.cell? ⟨w5.heap.size, 0, none⟩ = some (.slice aoc l.length capc) := by rw [block_cell n0]; rfl
        have t1 : w6.cell? ⟨w5.heap.size, 1, none⟩ = some (.int .i64 (at' : Int)) := by rw [block_cell n0]; rfl
        have t2 : w6.cell? ⟨w5.heap.size, 2, none⟩ = some (.int .i64 err') := by rw [block_cell n0]; rfl
        have t3 : w6.cell? ⟨w5.heap.size + 1, 0, none⟩ = some (.int .u64 (0 : Int)) := by rw [block_cell n1]; rfl
        have t4 : w6.cell? ⟨w5.heap.size + 1, 1, none⟩ = some (.slice aob (rTake l at_ err b).length capb) := by rw [block_cell n1]; rfl
        have t5 : w6.cell? ⟨w5.heap.size + 1 + 1, 0, none⟩ = some (.int .u64 0) := by rw [block_cell n2]; rfl
        have t6 : w6.cell? ⟨w5.heap.size + 1 + 1, 1, none⟩ = some (.slice none 0 0) := by rw [block_cell n2]; rfl
        have f5 := block_free n2 0
        have f6 := block_free n2 1
        have N0 := Lib.hid n0
        have N1 := Lib.hid n1
        have N2 := Lib.hid n2
        have N3 := Lib.hid n3
        clear n0 n1 n2 n3 q0 q1
        go_upto_region 21 with fail
        have g7 := grown_setCell w6 (w5.heap.size + 1 + 1) 1 (.slice aog (rTake l at_ err b).length capg)
        have noT : ∀ n, Value.int .u8 n ∉ (#[Value.int .u64 0, .slice none 0 0] : Array Value).toList := by intro n; simp
        have hr7 := hr6.other g7 N2.out (by omega) noT
        have hs7 := hs6.other g7 N2.out (by omega) noT
        have hb7 := hb6.kept g7 N2.out noT
        have hv7 := hv6.kept g7 N2.out noT
        have hvg7 := hvg.kept g7 N2.out noT
        have m7 := g7.block w4.heap.size (by omega) (by simp; omega)
        rw [N3.out] at m7
        have x7 : Ext w (w6.setCell ⟨w5.heap.size + 1 + 1, 1, none⟩ (.slice aog (rTake l at_ err b).length capg)) := x6.setCell (by have := xr.size; simp only []; omega) _
        have M7 := Lib.hid m7
        have hle7 : at' ≤ l.length := hr7.le
        have hnn : ((0 : Int) != (0 : Int)) = false := by simp
        have hll : (((l.length : Int) - (at' : Int)) != ((l.length : Int) - (at' : Int))) = false := by simp
        have hee : (err' != err') = false := by simp
        have d1 : ¬ w5.heap.size = w5.heap.size + 1 + 1 := by omega
        clear m7 hr6 hs6 hb6 hv6 N0 N1 N3
        go_wp2_with fail
        have u0 : (w6.setCell ⟨w5.heap.size + 1 + 1, 1, none⟩ (.slice aog (rTake l at_ err b).length capg)).cell? ⟨w5.heap.size, 0, none⟩ = some (.slice aoc l.length capc) := g7.cell t0 (by simp; omega)
        have u1 : (w6.setCell ⟨w5.heap.size + 1 + 1, 1, none⟩ (.slice aog (rTake l at_ err b).length capg)).cell? ⟨w5.heap.size, 1, none⟩ = some (.int .i64 (at' : Int)) := g7.cell t1 (by simp; omega)
        have u2 : (w6.setCell ⟨w5.heap.size + 1 + 1, 1, none⟩ (.slice aog (rTake l at_ err b).length capg)).cell? ⟨w5.heap.size, 2, none⟩ = some (.int .i64 err') := g7.cell t2 (by simp; omega)
        have u3 : (w6.setCell ⟨w5.heap.size + 1 + 1, 1, none⟩ (.slice aog (rTake l at_ err b).length capg)).cell? ⟨w5.heap.size + 1, 0, none⟩ = some (.int .u64 (0 : Int)) := g7.cell t3 (by simp)
        have u4 : (w6.setCell ⟨w5.heap.size + 1 + 1, 1, none⟩ (.slice aog (rTake l at_ err b).length capg)).cell? ⟨w5.heap.size + 1, 1, none⟩ = some (.slice aob (rTake l at_ err b).length capb) := g7.cell t4 (by simp)
        have u5 : (w6.setCell ⟨w5.heap.size + 1 + 1, 1, none⟩ (.slice aog (rTake l at_ err b).length capg)).cell? ⟨w5.heap.size + 1 + 1, 0, none⟩ = some (.int .u64 (0 : Int)) := by rw [block_cell (block_setCell N2.out _)]; rfl
        have u6 : (w6.setCell ⟨w5.heap.size + 1 + 1, 1, none⟩ (.slice aog (rTake l at_ err b).length capg)).cell? ⟨w5.heap.size + 1 + 1, 1, none⟩ = some (.slice aog (rTake l at_ err b).length capg) := by rw [block_cell (block_setCell N2.out _)]; rfl
        have p0 : (w6.setCell ⟨w5.heap.size + 1 + 1, 1, none⟩ (.slice aog (rTake l at_ err b).length capg)).cell? ⟨w4.heap.size, 0, none⟩ = some (.slice aoc l.length capc) := by rw [block_cell M7.out]; rfl
        have p1 : (w6.setCell ⟨w5.heap.size + 1 + 1, 1, none⟩ (.slice aog (rTake l at_ err b).length capg)).cell? ⟨w4.heap.size, 1, none⟩ = some (.int .i64 (at_ : Int)) := by rw [block_cell M7.out]; rfl
        have p2 : (w6.setCell ⟨w5.heap.size + 1 + 1, 1, none⟩ (.slice aog (rTake l at_ err b).length capg)).cell? ⟨w4.heap.size, 2, none⟩ = some (.int .i64 err) := by rw [block_cell M7.out]; rfl
        have p3 := block_free M7.out 0
        have p4 := block_free M7.out 1
        have p5 := block_free M7.out 2
        clear t0 t1 t2 t3 t4 t5 t6 f5 f6 x6 g7
        generalize w6.setCell ⟨w5.heap.size + 1 + 1, 1, none⟩ (.slice aog (rTake l at_ err b).length capg) = w7 at *
        clear N2 hg6 m0 m1 m2
        go_quiet (first
          | (go_at_call 11; exact Calls.quiet_of (refSameT _ _ _ _ (hvg7.ext (Ext.drewN (Ext.refl _) _)) (hv7.ext (Ext.drewN (Ext.refl _) _))))
          | (go_at_call 21; exact Calls.quiet_of (octetLeft _ _ _ _ _ (hr7.ext (Ext.drewN (Ext.refl _) _))))
          | (go_at_call 22; exact Calls.quiet_of (octetErrQ _ _ _ _ _ (hr7.ext (Ext.drewN (Ext.refl _) _)))))
        go_wp2
        have gz : ∀ (q : Nat) (A B C : Value), w7.grownBy ((((w7.drewN q).setCell ⟨w4.heap.size, 0, none⟩ A).setCell ⟨w4.heap.size, 1, none⟩ B).setCell ⟨w4.heap.size, 2, none⟩ C) (some w4.heap.size) := fun q A B C => grown_trans (grown_trans (grown_trans (grown_drewN w7 q _) (grown_setCell _ _ _ _)) (grown_setCell _ _ _ _)) (grown_setCell _ _ _ _)
        have noM : ∀ n, Value.int .u8 n ∉ (#[Value.slice aoc l.length capc, .int .i64 (at_ : Int), .int .i64 err] : Array Value).toList := by intro n; simp
        go_roundg (xs.length - (k + 1))
        case measure => omega
        case rel =>
          refine ⟨k + 1, at', err', by omega, by omega, by go_num, hr7.other (gz _ _ _ _) M7.out (by omega) noM, hs7.other (gz _ _ _ _) M7.out (by omega) noM, ?_, hb7.kept (gz _ _ _ _) M7.out noM, x7.grown (gz _ _ _ _) (by intro k hk; simp at hk; omega)⟩
          exact block_setCell (block_setCell (block_setCell (w := w7.drewN _) M7.out _) _) _
    · have : k = xs.length := by omega
      subst this
      have hls : ((l.length : Int) - ((0 : Nat) : Int)) = (l.length : Int) := by omega
      go_wp2_with fail
      refine Calls.mono (octetLeft _ _ _ _ _ hs) ?_
      rintro e w8 ⟨rfl, q8⟩
      have hs8 := hs.ext (toExt q8)
      have x8 := xr.trans (toExt q8)
      rw [hls]
      clear q8 hls
      have hee : ((l.length : Int) == (l.length : Int)) = true := by simp
      go_wp2_with fail
      refine Calls.mono (octetErr _ _ _ _ _ hs8) ?_
      rintro e w9 ⟨rfl, rfl⟩
      go_wp2
      go_ret
      exact ⟨rfl, x8⟩
end Go.Proofs.Ytkaadagffkgkdaa
