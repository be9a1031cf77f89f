/- The walk of sha's Sum. -/
import Derived.Test.YtpadfabjihaapaaGreatDoorShD
import Derived.Test.YtpadfabjihaapaaGreatDoorReg
import Derived.Deep.MidRow
import Derived.Laws.Cover3
import Derived.Deep.DrawnRows
namespace Go.Proofs.YtpadfabjihaapaaGreatDoor
open Go.RowKit
set_option linter.unusedVariables false

/-- The numbers behind k blocks of padded bytes. -/
def sumS (p : List UInt8) : Nat → S8
  | 0 => startS
  | k + 1 => blockS (sumS p k) ((p.drop (64 * k)).take 64)
def b32 (x : Int) : List UInt8 := be x.toNat 4
/-- The digest's bytes. -/
def digL (s : S8) : List UInt8 := s.l.flatMap b32
def shaL (l : List UInt8) : List UInt8 := digL (sumS (padL l) ((padL l).length / 64))
theorem digL_len (s : S8) : (digL s).length = 32 := by simp [digL, S8.l, b32, be_length]
theorem shaL_len (l : List UInt8) : (shaL l).length = 32 := digL_len _

/-- A part of a slice: the value is what the walk writes for 's[a:b]'. -/
theorem IsSl.cut {w : World} {ao : Option Addr} {n cap size : Nat} {xs : List Value} (h : IsSl w (.slice ao n cap) size n xs) (a b : Nat) (hab : a ≤ b) (hb : b ≤ n) :
    IsSl w (.slice (if cap = a then ao else ao.map (·.add (a * size))) (b - a) (cap - a)) size (b - a) ((xs.drop (a * size)).take ((b - a) * size)) := by
  obtain ⟨hlen, ao', cap', e, h2, h3, h4, h5⟩ := h
  simp only [Value.slice.injEq] at e
  obtain ⟨rfl, _, rfl⟩ := e
  have e1 : (b - a) * size = b * size - a * size := Nat.sub_mul ..
  have e2 : a * size ≤ b * size := Nat.mul_le_mul_right _ hab
  have e3 : b * size ≤ n * size := Nat.mul_le_mul_right _ hb
  refine ⟨by rw [List.length_take, List.length_drop]; omega, _, _, rfl, by omega, by omega, ?_, ?_⟩
  · intro h0
    by_cases hc : cap = a
    · omega
    · rw [if_neg hc] at h0
      have := h4 (by simpa using h0)
      omega
  · intro i hi
    have hi' : i < (b - a) * size := by rw [List.length_take] at hi; omega
    obtain ⟨p, off, e1', e2'⟩ := h5 (a * size + i) (by omega)
    have hab' : a < b := by
      rcases Nat.lt_or_ge a b with h | h
      · exact h
      · rw [Nat.sub_eq_zero_of_le h, Nat.zero_mul] at hi'; omega
    refine ⟨p, off + a * size, ?_, ?_⟩
    · rw [if_neg (by omega), e1']
      simp [Addr.add_lit]
    · rw [Nat.add_assoc, e2', List.getElem?_take, if_pos hi', List.getElem?_drop]

theorem grown_setRow {w : World} {g : Nat} {c : Array Value} : w.grownBy (w.setRow g c) (some g) :=
  ⟨rfl, rfl, rfl, by rw [setRow_size]; exact Nat.le_refl _, fun k hk hn => setRow_other w g k c (by simpa using hn)⟩
theorem IsSl.setRow {w : World} {v : Value} {size n g : Nat} {xs : List Value} {c : Array Value} (h : IsSl w v size n xs) (hne : ∀ b o n c, v = .slice (some ⟨b, o, none⟩) n c → b ≠ g) : IsSl (w.setRow g c) v size n xs := by
  obtain ⟨h1, ao, cap, rfl, h2, h3, h4, h5⟩ := h
  refine ⟨h1, ao, cap, rfl, h2, h3, h4, fun i hi => ?_⟩
  obtain ⟨b, off, e, hc⟩ := h5 i hi
  subst e
  exact ⟨b, off, rfl, by rw [cell_setRow_other _ _ _ _ (hne b off n cap rfl)]; exact hc⟩
theorem range_set {w : World} {b o g i : Nat} {cs : List Value} {u : Value} (h : w.rangeAt b o cs) (hn : b ≠ g) : (w.setCell ⟨g, i, none⟩ u).rangeAt b o cs := by
  intro j v hj
  have h0 := h j v hj
  unfold World.cell? at h0 ⊢
  have : (w.setCell ⟨g, i, none⟩ u).heap[b]? = w.heap[b]? := by
    rcases hb : w.heap[b]? with _ | x
    · simp [hb] at h0
    · exact set_other hb hn
  rw [this]; exact h0

theorem flat_lenU {α : Type} (c : α → List UInt8) (k : Nat) : ∀ (xs : List α), (∀ x ∈ xs, (c x).length = k) → (xs.flatMap c).length = xs.length * k
  | [], _ => by simp
  | x :: xs, h => by
    rw [List.flatMap_cons, List.length_append, flat_lenU c k xs (fun y hy => h y (List.mem_cons_of_mem _ hy)), h x (List.mem_cons_self ..), List.length_cons, Nat.add_mul]
    omega
theorem run_index_u32 (w : World) (cs : Array Value) (i : Nat) (hi : i < 8) (x : Value) (hx : cs[i]? = some x) :
    (Instr.index 158 (.agg cs) (.int .i64 (i : Int))).run Tryz.prog w = .ok x w := by
  simp [Instr.index, run_underlying Tryz.underlying158, asIntOf, go_sem, hi, hx]
theorem mod_bd (x : Int) : 0 ≤ x % 4294967296 ∧ x % 4294967296 < 4294967296 := by omega
theorem addS_bd (p q : S8) : ∀ x ∈ (addS p q).l, 0 ≤ x ∧ x < 4294967296 := by
  intro x hx
  simp only [S8.l, addS, List.mem_cons, List.not_mem_nil, or_false] at hx
  rcases hx with rfl | rfl | rfl | rfl | rfl | rfl | rfl | rfl <;> exact mod_bd _
theorem startS_bd : ∀ x ∈ startS.l, 0 ≤ x ∧ x < 4294967296 := by
  intro x hx
  simp only [S8.l, startS, List.mem_cons, List.not_mem_nil, or_false] at hx
  rcases hx with rfl | rfl | rfl | rfl | rfl | rfl | rfl | rfl <;> omega
theorem sumS_bd (p : List UInt8) : ∀ k, ∀ x ∈ (sumS p k).l, 0 ≤ x ∧ x < 4294967296
  | 0 => startS_bd
  | k + 1 => addS_bd _ _

set_option maxHeartbeats 4000000 in
set_option maxRecDepth 100000 in
theorem shaSum (w : World) (v : Value) (l : List UInt8) (h : IsB w v l) (hl : l.length ≤ 1099511627776) (hK : Tabs w) :
    Calls Tryz.prog 110 #[v] w fun e w' => e = .returned (.agg ((shaL l).map bc).toArray) ∧ Ext w w' := by
  have hx := h
  obtain ⟨ao, cap, rfl, b1, m1, z1, g1⟩ := h.opened
  clear z1 g1 h
  have hRD : shaL l = digL (sumS (padL l) ((padL l).length / 64)) := rfl
  generalize shaL l = R at hRD ⊢
  have HRD := Lib.hid hRD
  clear hRD
  go_enter Tryz.func110, Tryz.ntmps110
  go_wp2_with fail
  refine Calls.mono (shaStart _ (hK.ext ((Ext.refl _).alloc _))) ?_
  rintro e w1 ⟨rfl, x1⟩
  have hcs : startS.cs = a8 startS.a startS.b startS.c startS.d startS.e startS.f startS.g startS.h := rfl
  rw [hcs, a8]
  have X1 := ((Ext.refl w).alloc _).trans x1
  obtain ⟨c0, hid, hc0⟩ : ∃ c0 : Array Value, w1.heap[w.heap.size]? = some (.cells c0 31 (0, 0)) ∧ c0.size = 32 := ⟨_, x1.keeps (heap_alloc_new w _), rfl⟩
  go_wp2_with fail
  refine Calls.mono (shaPad _ _ l (hx.ext X1) hl) ?_
  rintro e w2 ⟨v2, rfl, own2, x2⟩
  have hp := IsB.of_owns own2
  have X2 := X1.trans x2
  have hid := x2.keeps hid
  have hPl : (padL l).length % 64 = 0 ∧ (padL l).length ≤ 2199023255552 := by
    rw [padL_len]; have h1 := padK_end l.length; have h2 := padK_le l.length; omega
  have hb2 : ∀ b o n c, v2 = .slice (some ⟨b, o, none⟩) n c → b < w2.heap.size := fun b o n c h => (own2.lt b (by rw [h]; rfl)).2
  have hR := HRD.out
  generalize padL l = P at *
  obtain ⟨nb, hnb⟩ : ∃ nb, P.length = 64 * nb := ⟨P.length / 64, by omega⟩
  rw [show P.length / 64 = nb from by omega] at hR
  have HR := Lib.hid hR
  clear hR own2
  obtain ⟨ao2, cap2, rfl, b2, m2, z2, g2⟩ := hp.opened
  clear z2 g2
  rw [hnb] at hPl b2 hp ⊢
  go_wp2_with fail
  have hh := heap_alloc_new w2 (.cells (a8 startS.a startS.b startS.c startS.d startS.e startS.f startS.g startS.h) 158)
  have hid := blk_old (o := .cells (a8 startS.a startS.b startS.c startS.d startS.e startS.f startS.g startS.h) 158) hid
  have hp := hp.ext ((Ext.refl w2).alloc (.cells (a8 startS.a startS.b startS.c startS.d startS.e startS.f startS.g startS.h) 158))
  have X2 := X2.alloc (.cells (a8 startS.a startS.b startS.c startS.d startS.e startS.f startS.g startS.h) 158)
  have hlt2 : w.heap.size < w2.heap.size := block_lt ‹_›
  generalize hH : w2.heap.size = H at *
  have hKW := hK.ext X2
  go_loopg [4] nb (fun g s4 wr => ∃ k : Nat, k ≤ nb ∧ nb - k ≤ g ∧ IsSl wr s4 1 (64 * (nb - k)) ((P.drop (64 * k)).map bc) ∧ (∀ b o n c, s4 = .slice (some ⟨b, o, none⟩) n c → b ≠ H) ∧ wr.heap[H]? = some (.cells (sumS P k).cs 158 (0, 0)) ∧ wr.heap[w.heap.size]? = some (.cells c0 31 (0, 0)) ∧ Ext w wr)
  case atStart =>
    refine ⟨0, Nat.zero_le _, by omega, by unfold IsB at hp; rw [hnb] at hp; exact hp, ?_, hh, hid, X2⟩
    intro b o n c h
    have := hb2 b o n c (by rw [hnb]; exact h)
    omega
  case round =>
    obtain ⟨k, hk, hg, hp, hnH, hh, hid, xr⟩ := hrel
    have hp0 := hp
    obtain ⟨hpl, ao3, cap3, rfl, b3, m3, z3, g3⟩ := hp
    generalize hq : sumS P k = q at *
    by_cases hlt : k < nb
    · --DEV<
      obtain ⟨pb, o, rfl, _⟩ := g3 0 (by rw [hpl]; omega)
      obtain ⟨q0, q1, q2, q3, q4, q5, q6, q7⟩ := q
      have hLl : ((P.drop (64 * k)).take 64).length = 64 := by rw [List.length_take, List.length_drop]; omega
      have hcell : ∀ j, j < 64 → wr.cell? ⟨pb, o + j, none⟩ = ((((P.drop (64 * k)).take 64)).map bc)[j]? := by
        intro j hj
        obtain ⟨pb', o', e1, e2⟩ := g3 j (by rw [hpl]; omega)
        simp only [Option.some.injEq, Addr.mk.injEq, and_true] at e1
        obtain ⟨rfl, rfl⟩ := e1
        rw [e2]
        simp [hj]
      have hrg : ∀ W : World, W.heap = wr.heap → W.rangeAt pb o (((P.drop (64 * k)).take 64).map bc) := by
        intro W hW j v hj
        have hj64 : j < 64 := by have := (List.getElem?_eq_some_iff.1 hj).1; rw [List.length_map, hLl] at this; exact this
        have : W.cell? ⟨pb, o + j, none⟩ = wr.cell? ⟨pb, o + j, none⟩ := by unfold World.cell?; rw [hW]
        rw [this, hcell j hj64, hj]
      have hne : pb ≠ H := hnH _ _ _ _ rfl
      obtain ⟨qq, hqq⟩ : ∃ qq, (if cap3 = 64 then some (⟨pb, o, none⟩ : Addr) else some ⟨pb, o + 64, none⟩) = qq := ⟨_, rfl⟩
      have hcut : IsSl wr (.slice qq (64 * (nb - k) - 64) (cap3 - 64)) 1 (64 * (nb - (k + 1))) ((P.drop (64 * (k + 1))).map bc) := by
        have h := hp0.cut 64 (64 * (nb - k)) (by omega) (Nat.le_refl _)
        rw [← hqq]
        have e1 : (if cap3 = 64 then some (⟨pb, o, none⟩ : Addr) else Option.map (fun x : Addr => x.add (64 * 1)) (some (⟨pb, o, none⟩ : Addr))) = (if cap3 = 64 then some (⟨pb, o, none⟩ : Addr) else some ⟨pb, o + 64, none⟩) := by
          split
          · rfl
          · simp [Addr.add_lit]
        rw [e1, Nat.mul_one, Nat.mul_one, ← List.map_drop, List.drop_drop, List.take_of_length_le (by simp; omega), show 64 * k + 64 = 64 * (k + 1) from by omega] at h
        rw [show 64 * (nb - (k + 1)) = 64 * (nb - k) - 64 from by omega]
        exact h
      have hqH : ∀ b o' n c, Value.slice qq (64 * (nb - k) - 64) (cap3 - 64) = .slice (some ⟨b, o', none⟩) n c → b ≠ H := by
        intro b o' n c h
        simp only [Value.slice.injEq] at h
        rw [← hqq] at h
        obtain ⟨h, _⟩ := h
        split at h
        · simp only [Option.some.injEq, Addr.mk.injEq] at h; omega
        · simp only [Option.some.injEq, Addr.mk.injEq] at h; omega
      have HCUT := Lib.hid hcut
      have HQH := Lib.hid hqH
      have hr0 := hrg wr rfl
      clear hrg
      have hstep : sumS P (k + 1) = blockS (sumS P k) ((P.drop (64 * k)).take 64) := rfl
      rw [hq] at hstep
      generalize (P.drop (64 * k)).take 64 = L at *
      obtain ⟨d0, d1, d2, d3, d4, d5, d6, d7⟩ := c8 hh
      obtain ⟨f0, f1, f2, f3, f4, f5, f6, f7⟩ := f8 hh
      obtain ⟨n, hn⟩ : ∃ n, 64 * (nb - k) = n := ⟨_, rfl⟩
      have hn64 : 64 ≤ n := by omega
      rw [hn]
      have hKr := hK.ext xr
      have HH := Lib.hid hh
      have HID := Lib.hid hid
      obtain ⟨B, hB⟩ : ∃ B, blockS ⟨q0, q1, q2, q3, q4, q5, q6, q7⟩ L = B := ⟨_, rfl⟩
      rw [hB] at hstep
      have HST := Lib.hid hstep
      obtain ⟨y0, y1, y2, y3, y4, y5, y6, y7⟩ := B
      have HB := Lib.hid hB
      clear hcell hh z3 g3 hq hB hstep hid hnH hcut hqH hp0
      have hu := Tryz.underlying185
      have hi : (Tryz.prog.info? 185).map (·.size) = some (L.map bc).length := by rw [List.length_map, hLl]; kernel_rfl
      have hl64 : (L.map bc).length = 64 := by rw [List.length_map, hLl]
      have h1c := bc_one L
      have harr : ∀ W : World, (Instr.arrayAt 185 (.slice (some ⟨pb, o, none⟩) n cap3)).run Tryz.prog W = .ok (.pointer (some ⟨pb, o, none⟩)) W := fun W => run_arrayAt (w := W) 185 5 64 _ n cap3 Tryz.underlying185 hn64
      go_wp2_with fail
      refine wp_region_noPanic ?_
      refine wp_region_any (by kernel_rfl) ?_
      refine wpAny_take (i := 1) (v := .slice (some ⟨pb, o, none⟩) n cap3) rfl (by kernel_rfl) (by kernel_rfl) (by kernel_rfl) (fun _ _ _ h => h) (Or.inl ⟨by rfl, fun w => by go_simp⟩) ?_
      refine wpAny_take (i := 2) (v := .pointer (some ⟨pb, o, none⟩)) rfl (by kernel_rfl) (by kernel_rfl) (by kernel_rfl) (fun _ _ _ h => h) (Or.inl ⟨by rfl, fun w => by go_simp⟩) ?_
      refine wpAny_all (rs := [0, 3]) (by kernel_rfl) (by simp) ?_
      intro i hi03
      have hi03 : i = 0 ∨ i = 3 := by simpa using hi03
      rcases hi03 with rfl | rfl
      all_goals (
        first
          | (refine wpOp_run rfl (by rfl) (wp_load_row 158 _ rfl H (by rfl) 158 (a8 q0 q1 q2 q3 q4 q5 q6 q7) (0, 0) _ HH.out Tryz.underlying158 rfl (by kernel_rfl) ?_); refine wpAny_all (rs := [3]) (by kernel_rfl) (by simp) ?_; intro i hi3; obtain rfl : i = 3 := by simpa using hi3
             refine wpOp_run rfl (by rfl) (wp_load_mid 185 _ rfl pb o (by rfl) (L.map bc) _ hr0 hu rfl hi ?_))
          | (refine wpOp_run rfl (by rfl) (wp_load_mid 185 _ rfl pb o (by rfl) (L.map bc) _ hr0 hu rfl hi ?_); refine wpAny_all (rs := [0]) (by kernel_rfl) (by simp) ?_; intro i hi3; obtain rfl : i = 0 := by simpa using hi3
             refine wpOp_run rfl (by rfl) (wp_load_row 158 _ rfl H (by rfl) 158 (a8 q0 q1 q2 q3 q4 q5 q6 q7) (0, 0) _ HH.out Tryz.underlying158 rfl (by kernel_rfl) ?_))
        refine wpAny_all (rs := [4]) (by kernel_rfl) (by simp) ?_
        intro i hi3
        obtain rfl : i = 4 := by simpa using hi3
        refine wpOp_run rfl (by rfl) ?_
        go_simp
        refine Calls.mono (shaBlock _ q0 q1 q2 q3 q4 q5 q6 q7 L hLl ⟨fun i hi => hKr.k i hi, fun i hi => hKr.s i hi⟩) ?_
        rintro e w5 ⟨rfl, x5⟩
        have hh5 := x5.keeps HH.out
        have hid5 := x5.keeps HID.out
        refine wpAny_all (rs := [5]) (by kernel_rfl) (by simp) ?_
        intro i hi3
        obtain rfl : i = 5 := by simpa using hi3
        refine wpOp_run rfl (by rfl) (wp_store_row 158 _ _ rfl H (a8 y0 y1 y2 y3 y4 y5 y6 y7) (by rfl) (by rw [HB.out]; rfl) 158 _ hh5 (by kernel_rfl) rfl (by kernel_rfl) ?_)
        refine wpAny_done (by kernel_rfl) ?_ _
        refine NoPanic.normal ?_
        have hsr : (w5.setRow H (a8 y0 y1 y2 y3 y4 y5 y6 y7)).heap[H]? = some (.cells (a8 y0 y1 y2 y3 y4 y5 y6 y7) 158 (0, 0)) := setRow_heap _ _ _ _ _ _ hh5
        have hidr : (w5.setRow H (a8 y0 y1 y2 y3 y4 y5 y6 y7)).heap[w.heap.size]? = some (.cells c0 31 (0, 0)) := by rw [setRow_other _ _ _ _ (by omega)]; exact hid5
        have x6 : Ext w (w5.setRow H (a8 y0 y1 y2 y3 y4 y5 y6 y7)) := (xr.drew.trans x5).grown grown_setRow (fun k hk => by cases hk; omega)
        have hcf : IsSl (w5.setRow H (a8 y0 y1 y2 y3 y4 y5 y6 y7)) (.slice qq (64 * (nb - k) - 64) (cap3 - 64)) 1 (64 * (nb - (k + 1))) ((P.drop (64 * (k + 1))).map bc) := IsSl.setRow (HCUT.out.ext (((Ext.refl wr).drew).trans x5)) HQH.out
        generalize w5.setRow H (a8 y0 y1 y2 y3 y4 y5 y6 y7) = w6 at *
        go_wp2_with fail
        go_roundg (nb - (k + 1))
        case measure => omega
        case rel =>
          rw [← hn]
          exact ⟨k + 1, by omega, by omega, hcf, HQH.out, by rw [HST.out]; exact hsr, hidr, x6⟩)
    --DEV>
    · have : k = nb := by omega
      subst this
      have hbd := sumS_bd P k
      rw [hq] at hbd
      have hql : q.l.length = 8 := rfl
      obtain ⟨QA, hQA⟩ : ∃ QA, (q.l.map uc32).toArray = QA := ⟨_, rfl⟩
      have hQs : QA.size = 8 := by rw [← hQA]; rfl
      have hQi : ∀ i, i < 8 → QA[i]? = some (.int .u32 (q.l.getD i 0)) := by
        intro i hi
        rw [← hQA, List.getD_eq_getElem?_getD, List.getElem?_eq_getElem (show i < q.l.length from hi)]
        simp [uc32, show i < q.l.length from hi]
      have hR2 : R = q.l.flatMap b32 := by rw [HR.out, hq]; rfl
      have HR2 := Lib.hid hR2
      obtain ⟨q0, q1, q2, q3, q4, q5, q6, q7⟩ := q
      obtain ⟨d0, d1, d2, d3, d4, d5, d6, d7⟩ := c8 hh
      rw [Nat.sub_self, Nat.mul_zero]
      have hQA2 : #[Value.int .u32 q0, .int .u32 q1, .int .u32 q2, .int .u32 q3, .int .u32 q4, .int .u32 q5, .int .u32 q6, .int .u32 q7] = QA := hQA
      generalize (⟨q0, q1, q2, q3, q4, q5, q6, q7⟩ : S8).l = ql at *
      clear hR2 HR hq hnH hpl g3 hh hQA
      go_wp2_with fail
      clear hQA2 d0 d1 d2 d3 d4 d5 d6 d7
      go_loopg [5, 22] 8 (fun g s5 s22 wq => ∃ i : Nat, i ≤ 8 ∧ 8 - i ≤ g ∧ s22 = .int .i64 i ∧ IsB wq s5 ((ql.take i).flatMap b32) ∧ Ext wr wq)
      case atStart => exact ⟨0, Nat.zero_le _, by omega, rfl, IsB.nil _, Ext.refl _⟩
      case round =>
        obtain ⟨i, hi, hgi, rfl, hB, xq⟩ := hrel
        by_cases hlti : i < 8
        · have hqi := hQi i hlti
          obtain ⟨x, hx⟩ : ∃ x : Nat, ql.getD i 0 = x := by
            have := hbd (ql.getD i 0) (by rw [List.getD_eq_getElem?_getD, List.getElem?_eq_getElem (by omega)]; exact List.getElem_mem _)
            exact ⟨(ql.getD i 0).toNat, by omega⟩
          have hxb : x < 4294967296 := by
            have := hbd (ql.getD i 0) (by rw [List.getD_eq_getElem?_getD, List.getElem?_eq_getElem (by omega)]; exact List.getElem_mem _)
            omega
          have hstep : (ql.take (i + 1)).flatMap b32 = (ql.take i).flatMap b32 ++ be x 4 := by
            have h1 : ql[i]? = some (x : Int) := by rw [← hx, List.getD_eq_getElem?_getD, List.getElem?_eq_getElem (by omega)]; rfl
            rw [List.take_add_one, h1, List.flatMap_append]
            simp [b32]
          have hlen : ((ql.take i).flatMap b32).length = 4 * i := by
            rw [flat_lenU b32 4 _ (fun _ _ => be_length _ _), List.length_take]; omega
          rw [hx] at hqi
          have HS := Lib.hid hstep
          clear hstep hx
          generalize (ql.take i).flatMap b32 = O at *
          have hix := run_index_u32 wr QA i hlti _ hqi
          go_wp2_with fail
          refine Calls.mono (octetPut32 _ _ O x hB hxb (by omega)) ?_
          rintro e w7 ⟨v7, rfl, own7, x7⟩
          go_wp2_with fail
          go_roundg (8 - (i + 1))
          case measure => omega
          case rel => exact ⟨i + 1, by omega, by omega, by go_num, by rw [HS.out]; exact IsB.of_owns own7, xq.trans x7⟩
        · have : i = 8 := by omega
          subst this
          rw [List.take_of_length_le (by omega)] at hB
          have hRB : R = ql.flatMap b32 := HR2.out
          rw [← hRB] at hB
          have hRl : R.length = 32 := by rw [hRB, flat_lenU b32 4 _ (fun _ _ => be_length _ _), hql]
          have hidq := xq.keeps hid
          have xw := xr.trans xq
          obtain ⟨ao4, cap4, rfl, b4, m4, z4, g4⟩ := hB.opened
          rw [hRl] at b4 ⊢
          obtain ⟨rb, ro, rfl, _⟩ := g4 0 (by omega)
          have hrm : wr.rangeAt rb ro (R.map bc) := by
            intro j v hj
            have hjl : j < R.length := by have := (List.getElem?_eq_some_iff.1 hj).1; simpa using this
            obtain ⟨rb', ro', e1, e2⟩ := g4 j hjl
            simp only [Option.some.injEq, Addr.mk.injEq, and_true] at e1
            obtain ⟨rfl, rfl⟩ := e1
            rw [e2, ← hj]
            simp [bc, hjl]
          have hiId : (Tryz.prog.info? 31).map (·.size) = some (R.map bc).length := by rw [List.length_map, hRl]; kernel_rfl
          have hiId2 : (Tryz.prog.info? 31).map (·.size) = some (R.map bc).toArray.size := by rw [List.size_toArray, List.length_map, hRl]; kernel_rfl
          have harr2 : ∀ W : World, (Instr.arrayAt 31 (.slice (some ⟨rb, ro, none⟩) 32 cap4)).run Tryz.prog W = .ok (.pointer (some ⟨rb, ro, none⟩)) W := fun W => run_arrayAt (w := W) 31 5 32 _ 32 cap4 Tryz.underlying31 (Nat.le_refl _)
          have hone : (R.map bc).toArray.all (·.oneCell') = true := by rw [Array.all_eq_true_iff_forall_mem]; intro u hu; exact bc_one R u (by simpa using hu)
          have hsz : c0.size = (R.map bc).toArray.size := by simp [hc0, hRl]
          clear g4 z4 hB hRB
          go_wp2_with (first
            | (refine wpList_load_mid rfl 31 (.tmp 30) rfl rb ro (by rfl) (R.map bc) _ hrm Tryz.underlying31 rfl hiId ?_)
            | (refine wpList_store_row rfl 31 (.tmp 2) (.tmp 31) rfl w.heap.size (R.map bc).toArray (by rfl) (by rfl) 31 c0 hidq hiId2 hsz hone ?_))
          have hfin : (wr.setRow w.heap.size (R.map bc).toArray).heap[w.heap.size]? = some (.cells (R.map bc).toArray 31 (0, 0)) := setRow_heap _ _ _ _ _ _ hidq
          have xfin : Ext w (wr.setRow w.heap.size (R.map bc).toArray) := xw.grown grown_setRow (fun k hk => by cases hk; exact Nat.le_refl _)
          exact bodyPost_ret (results_cell_row rfl _ _ w.heap.size _ _ _ _ (by rfl) hfin Tryz.underlying31 rfl hiId2) rfl ⟨rfl, xfin⟩
end Go.Proofs.YtpadfabjihaapaaGreatDoor
