/- The walks of the law's few and whole. -/
import Derived.Test.YtgcbkhmaabmdjaaDoorEdI
namespace Go.Proofs.YtgcbkhmaabmdjaaDoor
open Go.RowKit
set_option linter.unusedVariables false

/-- An edit as few cuts it. -/
def cutE (e : Ed) : Ed := ⟨e.path.extract 0 (min e.path.size 100), e.at_, e.n, e.text.extract 0 (min e.text.size 4097)⟩
def fewL (l : List Ed) : List Ed := (l.take 60).map cutE
def ed77 : Ed := ⟨ByteArray.empty, 77, 0, ByteArray.empty⟩
def ed0 : Ed := ⟨ByteArray.empty, 0, 0, ByteArray.empty⟩

theorem run_make_rowN {P : Program} (t e : TypeId) (i : TypeInfo) (z : Value) (ht : P.underlying t = some (.slice e)) (hi : P.info? e = some i) (hz : i.zero = some z)
    (kl kc : IntKind) (n c : Nat) (hnc : n ≤ c) (hbytes : i.bytes * c ≤ 281474976710656) (h63 : c ≤ 9223372036854775807) (w : World) :
    (Instr.makeSlice t (.int kl (n : Int)) (.int kc (c : Int))).run P w = .ok (.slice (some ⟨w.heap.size, 0, none⟩) n c) (w.alloc (.cells (madeCells z.cells (c * i.size)) e)) := by
  have hb : (i.bytes : Int) * (c : Int) ≤ 281474976710656 := by
    have h : ((i.bytes * c : Nat) : Int) ≤ 281474976710656 := by omega
    rwa [Int.natCast_mul] at h
  have hr := run_make (P := P) w t e i z ht hi hz kl kc n c (by omega) (by omega) hb (by omega)
  simp only [Int.toNat_natCast] at hr
  exact hr
theorem infoEdit : (Tryd.prog.info? 40).map (fun i => (i.zero, i.size, i.bytes)) = some (some (.agg #[.string ByteArray.empty, .int .i64 0, .int .i64 0, .string ByteArray.empty]), 4, 48) := by kernel_rfl
theorem made_edits (n : Nat) : (madeCells (Value.agg #[.string ByteArray.empty, .int .i64 0, .int .i64 0, .string ByteArray.empty]).cells (n * 4)).toList = (List.replicate n ed0).flatMap edC := by
  apply List.ext_getElem?
  intro q
  have hl : ((List.replicate n ed0).flatMap edC).length = n * 4 := by rw [flat_len edC 4 _ (fun _ _ => rfl), List.length_replicate]
  by_cases hq : q < n * 4
  · have hqd : q / 4 < n := by omega
    have e : q = q / 4 * 4 + q % 4 := by omega
    have h2 := flat_get edC 4 (List.replicate n ed0) (fun _ _ => rfl) (q / 4) (by simpa using hqd) (q % 4) (by omega)
    rw [← e, List.getElem_replicate] at h2
    rw [h2]
    have h4 : q % 4 < 4 := by omega
    simp only [madeCells, Value.cells, Array.toList_map, Array.toList_range, List.getElem?_map, List.getElem?_range hq, Option.map_some]
    show some (#[Value.string ByteArray.empty, .int .i64 0, .int .i64 0, .string ByteArray.empty][q % 4]!) = _
    generalize q % 4 = r at *
    match r, h4 with
    | 0, _ => rfl
    | 1, _ => rfl
    | 2, _ => rfl
    | 3, _ => rfl
  · rw [List.getElem?_eq_none (by rw [Array.length_toList, size_madeCells]; omega), List.getElem?_eq_none (by rw [hl]; omega)]

theorem set_mid {α : Type} (A B : List α) (u x : α) (k : Nat) (h : A.length = k) : (A ++ u :: B).set k x = A ++ x :: B := by
  subst h
  rw [List.set_append_right _ _ (Nat.le_refl _), Nat.sub_self]; rfl
theorem get_mid {α : Type} (A B : List α) (x : α) (k : Nat) (h : A.length = k) (hk : k < (A ++ x :: B).length) : (A ++ x :: B)[k] = x := by
  subst h
  rw [List.getElem_append_right (Nat.le_refl _)]; simp
theorem cells_at {c : Array Value} {L : List Ed} (h : c.toList = L.flatMap edC) (k : Nat) (hk : k < L.length) :
    c[k * 4]? = some (.string L[k].path) ∧ c[k * 4 + 1]? = some (.int .i64 L[k].at_) ∧ c[k * 4 + 2]? = some (.int .i64 L[k].n) ∧ c[k * 4 + 3]? = some (.string L[k].text) := by
  have g : ∀ j, j < 4 → c[k * 4 + j]? = (edC L[k])[j]? := fun j hj => by rw [← Array.getElem?_toList, h]; exact flat_get edC 4 L (edC_len L) k hk j hj
  exact ⟨g 0 (by omega), g 1 (by omega), g 2 (by omega), g 3 (by omega)⟩
theorem cells_size {c : Array Value} {L : List Ed} (h : c.toList = L.flatMap edC) : c.size = L.length * 4 := by
  rw [← Array.length_toList, h, flat_len edC 4 _ (edC_len L)]
theorem flat_set (L : List Ed) (k : Nat) (hk : k < L.length) (x : Ed) :
    ((((L.flatMap edC).set (k * 4) (.string x.path)).set (k * 4 + 1) (.int .i64 x.at_)).set (k * 4 + 2) (.int .i64 x.n)).set (k * 4 + 3) (.string x.text) = (L.set k x).flatMap edC := by
  apply List.ext_getElem?
  intro q
  have hl := flat_len edC 4 L (edC_len L)
  have hl2 := flat_len edC 4 (L.set k x) (edC_len _)
  rw [List.length_set] at hl2
  by_cases hq : q < L.length * 4
  · have hqd : q / 4 < L.length := by omega
    have e : q = q / 4 * 4 + q % 4 := by omega
    have h4 : q % 4 < 4 := by omega
    have h1 := flat_get edC 4 L (edC_len L) (q / 4) hqd (q % 4) h4
    have h2 := flat_get edC 4 (L.set k x) (edC_len _) (q / 4) (by simpa using hqd) (q % 4) h4
    rw [← e] at h1 h2
    rw [h2]
    simp only [List.getElem?_set, List.length_set, hl]
    rw [List.getElem_set]
    by_cases hk2 : k = q / 4
    · subst hk2
      rw [if_pos rfl]
      have h5 : q % 4 = 0 ∨ q % 4 = 1 ∨ q % 4 = 2 ∨ q % 4 = 3 := by omega
      rcases h5 with h5 | h5 | h5 | h5
      · rw [if_neg (by omega), if_neg (by omega), if_neg (by omega), if_pos (by omega), if_pos (by omega), h5]; rfl
      · rw [if_neg (by omega), if_neg (by omega), if_pos (by omega), if_pos (by omega), h5]; rfl
      · rw [if_neg (by omega), if_pos (by omega), if_pos (by omega), h5]; rfl
      · rw [if_pos (by omega), if_pos (by omega), h5]; rfl
    · rw [if_neg hk2, if_neg (by omega), if_neg (by omega), if_neg (by omega), if_neg (by omega), h1]
  · rw [List.getElem?_eq_none (by simp only [List.length_set]; omega), List.getElem?_eq_none (by omega)]
theorem cells_set {c : Array Value} {L : List Ed} (h : c.toList = L.flatMap edC) (k : Nat) (hk : k < L.length) (x : Ed) :
    ((((c.setIfInBounds (k * 4) (.string x.path)).setIfInBounds (k * 4 + 1) (.int .i64 x.at_)).setIfInBounds (k * 4 + 2) (.int .i64 x.n)).setIfInBounds (k * 4 + 3) (.string x.text)).toList = (L.set k x).flatMap edC := by
  simp only [Array.toList_setIfInBounds, h]
  exact flat_set L k hk x
theorem flat_set2 (L : List Ed) (k : Nat) (hk : k < L.length) (p t : ByteArray) :
    ((L.flatMap edC).set (k * 4) (.string p)).set (k * 4 + 3) (.string t) = (L.set k ⟨p, L[k].at_, L[k].n, t⟩).flatMap edC := by
  rw [← flat_set L k hk ⟨p, L[k].at_, L[k].n, t⟩]
  congr 1
  apply List.ext_getElem?
  intro q
  have hl := flat_len edC 4 L (edC_len L)
  have g : ∀ j, j < 4 → (L.flatMap edC)[k * 4 + j]? = (edC L[k])[j]? := fun j hj => flat_get edC 4 L (edC_len L) k hk j hj
  simp only [List.getElem?_set, List.length_set, hl]
  by_cases h1 : k * 4 + 1 = q
  · subst h1
    rw [if_neg (by omega), if_neg (by omega), if_pos rfl, if_pos (by omega), g 1 (by omega)]; rfl
  · by_cases h2 : k * 4 + 2 = q
    · subst h2
      rw [if_neg (by omega), if_pos rfl, if_pos (by omega), g 2 (by omega)]; rfl
    · rw [if_neg h2, if_neg h1]
theorem cells_set2 {c : Array Value} {L : List Ed} (h : c.toList = L.flatMap edC) (k : Nat) (hk : k < L.length) (p t : ByteArray) :
    ((c.setIfInBounds (k * 4) (.string p)).setIfInBounds (k * 4 + 3) (.string t)).toList = (L.set k ⟨p, L[k].at_, L[k].n, t⟩).flatMap edC := by
  simp only [Array.toList_setIfInBounds, h]
  exact flat_set2 L k hk p t

set_option maxHeartbeats 4000000 in
set_option maxRecDepth 100000 in
theorem few (w : World) (v : Value) (l : List Ed) (h : IsE w v l) :
    Calls Tryd.prog 9 #[v] w fun e w' => ∃ g c, e = .returned (.slice (some ⟨g, 0, none⟩) (fewL l).length ((fewL l).length + 2)) ∧ w.heap.size ≤ g ∧ w'.heap[g]? = some (.cells c 40 (0, 0)) ∧ c.toList = (fewL l ++ [ed77, ed0]).flatMap edC ∧ Ext w w' := by
  obtain ⟨ao, cap, rfl, b1, m1, z1, g1⟩ := h.opened
  have G1 := Lib.hid g1
  have HO := Lib.hid h.ok
  clear g1 z1 h
  obtain ⟨n, hn⟩ : ∃ n, n = min l.length 60 := ⟨_, rfl⟩
  go_enter Tryd.func9, Tryd.ntmps9
  obtain ⟨i0, hi, hz0, hz1, hz2⟩ := info_parts infoEdit
  have hnn : min (l.length : Int) 60 = (n : Int) := by omega
  have hn60 : n ≤ 60 := by omega
  have hnl : n ≤ l.length := by omega
  have HN := Lib.hid hn
  clear hn
  have hmk : ∀ W : World, (Instr.makeSlice 25 (.int .i64 (n : Int)) (.int .i64 ((n : Int) + 2))).run Tryd.prog W = .ok (.slice (some ⟨W.heap.size, 0, none⟩) n (n + 2)) (W.alloc (.cells (madeCells (Value.agg #[.string ByteArray.empty, .int .i64 0, .int .i64 0, .string ByteArray.empty]).cells ((n + 2) * 4)) 40)) := by
    intro W
    have := run_make_rowN (P := Tryd.prog) 25 40 i0 _ Tryd.underlying25 hi hz0 .i64 .i64 n (n + 2) (by omega) (by rw [hz2]; omega) (by omega) W
    rw [hz1] at this
    exact this
  go_wp2_with fail
  go_loopg [15] n (fun g s15 wr => ∃ (k : Nat) (c : Array Value), k ≤ n ∧ n - k ≤ g ∧ s15 = .int .i64 k ∧ wr.heap[w.heap.size]? = some (.cells c 40 (0, 0)) ∧ c.toList = ((l.take k).map cutE ++ List.replicate (n + 2 - k) ed0).flatMap edC ∧ Ext w wr)
  case atStart => exact ⟨0, _, Nat.zero_le _, by omega, rfl, heap_alloc_new _ _, by first | exact made_edits _ | (rw [made_edits]; rfl), (Ext.refl _).alloc _⟩
  case round =>
    obtain ⟨k, c, hk, hg, rfl, hblk, hc, xr⟩ := hrel
    have HC := Lib.hid hc
    clear hc
    by_cases hlt : k < n
    · have hkl : k < l.length := by omega
      obtain ⟨p, o, rfl, e0, e1, e2, e3⟩ := G1.out k hkl
      have hpl := World.block_lt_of_cell? _ _ e0
      have e0 := xr.cell e0
      have e1 := xr.cell e1
      have e2 := xr.cell e2
      have e3 := xr.cell e3
      obtain ⟨o1, ⟨o2, o3⟩, ⟨o4, o5⟩, o6⟩ := HO.out l[k] (List.getElem_mem hkl)
      generalize hx : l[k] = x at *
      have HX := Lib.hid hx
      clear hx
      have hA : ((l.take k).map cutE).length = k := by rw [List.length_map, List.length_take]; omega
      have hc0 := HC.out
      rw [show n + 2 - k = (n + 1 - k) + 1 from by omega, List.replicate_succ] at hc0
      have hL0 : k < ((l.take k).map cutE ++ ed0 :: List.replicate (n + 1 - k) ed0).length := by rw [List.length_append, hA]; simp
      have hset := cells_set hc0 k hL0 x
      rw [show ((l.take k).map cutE ++ ed0 :: List.replicate (n + 1 - k) ed0).set k x = (l.take k).map cutE ++ x :: List.replicate (n + 1 - k) ed0 from set_mid _ _ _ _ _ hA] at hset
      have hat := cells_at hc0 k hL0
      generalize ((l.take k).map cutE ++ ed0 :: List.replicate (n + 1 - k) ed0)[k] = u at hat
      obtain ⟨q1, q2, q3, q4⟩ := hat
      have HSET := Lib.hid hset
      clear hset hc0 hL0
      have HA := Lib.hid hA
      clear hA
      rw [← block_cell hblk] at q1 q2 q3 q4
      have f0 := block_free hblk (k * 4)
      have f1 := block_free hblk (k * 4 + 1)
      have f2 := block_free hblk (k * 4 + 2)
      have f3 := block_free hblk (k * 4 + 3)
      go_wp2_with fail
      have hs := xr.size
      obtain ⟨c', hb2, hc2, xr2⟩ : ∃ c' : Array Value, ((((wr.setCell ⟨w.heap.size, k * 4, none⟩ (.string x.path)).setCell ⟨w.heap.size, k * 4 + 1, none⟩ (.int .i64 x.at_)).setCell ⟨w.heap.size, k * 4 + 2, none⟩ (.int .i64 x.n)).setCell ⟨w.heap.size, k * 4 + 3, none⟩ (.string x.text)).heap[w.heap.size]? = some (.cells c' 40 (0, 0)) ∧
          c'.toList = ((l.take k).map cutE ++ x :: List.replicate (n + 1 - k) ed0).flatMap edC ∧ Ext w ((((wr.setCell ⟨w.heap.size, k * 4, none⟩ (.string x.path)).setCell ⟨w.heap.size, k * 4 + 1, none⟩ (.int .i64 x.at_)).setCell ⟨w.heap.size, k * 4 + 2, none⟩ (.int .i64 x.n)).setCell ⟨w.heap.size, k * 4 + 3, none⟩ (.string x.text)) := by
        refine ⟨_, block_setCell (block_setCell (block_setCell (block_setCell hblk _) _) _) _, HSET.out, ?_⟩
        exact (((xr.setCell (p := ⟨w.heap.size, _, none⟩) (Nat.le_refl _) _).setCell (p := ⟨w.heap.size, _, none⟩) (Nat.le_refl _) _).setCell (p := ⟨w.heap.size, _, none⟩) (Nat.le_refl _) _).setCell (p := ⟨w.heap.size, _, none⟩) (Nat.le_refl _) _
      generalize ((((wr.setCell ⟨w.heap.size, k * 4, none⟩ (.string x.path)).setCell ⟨w.heap.size, k * 4 + 1, none⟩ (.int .i64 x.at_)).setCell ⟨w.heap.size, k * 4 + 2, none⟩ (.int .i64 x.n)).setCell ⟨w.heap.size, k * 4 + 3, none⟩ (.string x.text)) = W at *
      obtain ⟨r1, r2, r3, r4⟩ : c'[k * 4]? = some (.string x.path) ∧ c'[k * 4 + 1]? = some (.int .i64 x.at_) ∧ c'[k * 4 + 2]? = some (.int .i64 x.n) ∧ c'[k * 4 + 3]? = some (.string x.text) := by
        have := cells_at hc2 k (by rw [List.length_append, HA.out]; simp)
        rw [show ((l.take k).map cutE ++ x :: List.replicate (n + 1 - k) ed0)[k]'(by rw [List.length_append, HA.out]; simp) = x from get_mid _ _ _ _ HA.out _] at this
        exact this
      rw [← block_cell hb2] at r1 r2 r3 r4
      clear f0 f1 f2 f3 q1 q2 q3 q4 e0 e1 e2 e3
      have f0 := block_free hb2 (k * 4)
      have f3 := block_free hb2 (k * 4 + 3)
      have HC2 := Lib.hid hc2
      clear hc2 r2 r3
      go_region
      all_goals go_wp2_with fail
      go_roundg (n - (k + 1))
      case measure => omega
      case rel =>
        have hp : (min (x.path.size : Int) 100).toNat = min x.path.size 100 := by omega
        have ht : (min (x.text.size : Int) 4097).toNat = min x.text.size 4097 := by omega
        rw [hp, ht]
        refine ⟨k + 1, _, by omega, by omega, by go_num, block_setCell (block_setCell hb2 _) _, ?_, ((xr2.setCell (p := ⟨w.heap.size, _, none⟩) (Nat.le_refl _) _).setCell (p := ⟨w.heap.size, _, none⟩) (Nat.le_refl _) _).drew⟩
        have hL : k < ((l.take k).map cutE ++ x :: List.replicate (n + 1 - k) ed0).length := by rw [List.length_append, HA.out]; simp
        rw [cells_set2 HC2.out k hL, get_mid _ _ _ _ HA.out, set_mid _ _ _ _ _ HA.out]
        rw [List.take_add_one, List.getElem?_eq_getElem hkl, HX.out, show n + 2 - (k + 1) = n + 1 - k from by omega]
        simp only [Option.toList_some, List.map_append, List.map_cons, List.map_nil, List.append_assoc, List.cons_append, List.nil_append]
        rfl
    · have : k = n := by omega
      subst this
      have hlen : ((l.take k).map cutE).length = k := by rw [List.length_map, List.length_take]; omega
      have hfew : (l.take k).map cutE = fewL l := by
        unfold fewL
        congr 1
        rw [HN.out]
        by_cases h60 : l.length ≤ 60
        · rw [Nat.min_eq_left h60, List.take_of_length_le (Nat.le_refl _), List.take_of_length_le h60]
        · rw [Nat.min_eq_right (by omega)]
      have hc0 := HC.out
      rw [hfew, show k + 2 - k = 2 from by omega] at hc0
      rw [hfew] at hlen
      have HF := Lib.hid hlen
      have HC0 := Lib.hid hc0
      have hk2 : k < (fewL l ++ [ed0, ed0]).length := by rw [List.length_append, HF.out]; simp
      have hat := cells_at (L := fewL l ++ [ed0, ed0]) hc0 k hk2
      rw [get_mid (fewL l) [ed0] ed0 k HF.out] at hat
      have hset := cells_set (L := fewL l ++ [ed0, ed0]) hc0 k hk2 ed77
      rw [set_mid _ _ _ _ _ HF.out] at hset
      have HSET := Lib.hid hset
      obtain ⟨q1, q2, q3, q4⟩ := hat
      rw [← block_cell hblk] at q1 q2 q3 q4
      have f0 := block_free hblk (k * 4)
      have f1 := block_free hblk (k * 4 + 1)
      have f2 := block_free hblk (k * 4 + 2)
      have f3 := block_free hblk (k * 4 + 3)
      have hbl := block_lt hblk
      clear hc0 hlen hfew HC hset hk2
      go_wp2
      go_ret
      have x2 := (((xr.setCell (p := ⟨w.heap.size, k * 4, none⟩) (Nat.le_refl _) (.string ed77.path)).setCell (p := ⟨w.heap.size, k * 4 + 1, none⟩) (Nat.le_refl _) (.int .i64 ed77.at_)).setCell (p := ⟨w.heap.size, k * 4 + 2, none⟩) (Nat.le_refl _) (.int .i64 ed77.n)).setCell (p := ⟨w.heap.size, k * 4 + 3, none⟩) (Nat.le_refl _) (.string ed77.text)
      refine ⟨w.heap.size, _, by rw [HF.out]; rfl, Nat.le_refl _, ?_, HSET.out, x2.alloc _⟩
      exact (((Ext.refl _).alloc _).block (by simpa using hbl)).trans (block_setCell (block_setCell (block_setCell (block_setCell hblk _) _) _) _)

/-- A row of edits with room behind it. -/
def IsFew (w : World) (v : Value) (L : List Ed) : Prop :=
  ∃ g c, v = .slice (some ⟨g, 0, none⟩) L.length (L.length + 2) ∧ w.heap[g]? = some (.cells c 40 (0, 0)) ∧ c.toList = (L ++ [ed77, ed0]).flatMap edC ∧ (∀ e ∈ L, edOk e) ∧ L.length ≤ 60
theorem IsFew.ext {w w' : World} {v : Value} {L : List Ed} (h : IsFew w v L) (k : Ext w w') : IsFew w' v L := by
  obtain ⟨g, c, h1, h2, h3, h4⟩ := h
  exact ⟨g, c, h1, by rw [k.block (block_lt h2)]; exact h2, h3, h4⟩
theorem IsFew.isE {w : World} {v : Value} {L : List Ed} (h : IsFew w v L) : IsE w v L := by
  obtain ⟨g, c, rfl, h2, h3, h4, h5⟩ := h
  refine ⟨⟨flat_len edC 4 L (edC_len L), _, _, rfl, by omega, by omega, (fun h => by cases h), fun i hi => ⟨g, 0, rfl, ?_⟩⟩, h4⟩
  rw [Nat.zero_add, block_cell h2, ← Array.getElem?_toList, h3, List.flatMap_append, List.getElem?_append_left hi]
theorem extract_le (s : ByteArray) (a b : Nat) : (s.extract a b).size ≤ s.size := by rw [ByteArray.size_extract]; omega
theorem cutE_ok {e : Ed} (h : edOk e) : edOk (cutE e) := by
  obtain ⟨h1, h2, h3, h4⟩ := h
  exact ⟨Nat.le_trans (extract_le _ _ _) h1, h2, h3, Nat.le_trans (extract_le _ _ _) h4⟩
theorem few' (w : World) (v : Value) (l : List Ed) (h : IsE w v l) :
    Calls Tryd.prog 9 #[v] w fun e w' => ∃ v', e = .returned v' ∧ IsFew w' v' (fewL l) ∧ Ext w w' := by
  refine Calls.mono (few w v l h) ?_
  rintro e w' ⟨g, c, rfl, h1, h2, h3, h4⟩
  refine ⟨_, rfl, ⟨g, c, rfl, h2, h3, ?_, ?_⟩, h4⟩
  · intro e he
    obtain ⟨x, hx, rfl⟩ := List.mem_map.1 he
    exact cutE_ok (h.ok x (List.mem_of_mem_take hx))
  · unfold fewL; rw [List.length_map, List.length_take]; omega

end Go.Proofs.YtgcbkhmaabmdjaaDoor
