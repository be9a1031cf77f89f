/- The walk of the reference's Decode: a commit. -/
import Derived.Test.YtcdlmappcbbacaaObZ
import Derived.Test.YtcdlmappcbbacaaCut
import Derived.Test.YtcdlmappcbbacaaObM
import Derived.Test.YtcdlmappcbbacaaObL
namespace Go.Proofs.Ytcdlmappcbbacaa
open Go.RowKit
set_option linter.unusedVariables false
set_option linter.unusedSimpArgs false

theorem dec3_bad' {l : List UInt8} (h0 : 0 < l.length) (h : l[0].toNat = 3) (q : 33 < l.length) {a c m : Nat} (hc : l[33].toNat = c) (ha : a = 34 + 32 * c) (hm : (l.getD (a + 4) 0).toNat = m) (h4 : a + 4 < l.length) (hs : l.length < a + 5 + m) : decP l = (zObj 0, 7) := by
  subst ha hc
  rw [getD_at h4] at hm
  refine dec3_bad h0 h (.inr ⟨q, .inr ⟨by omega, ?_⟩⟩)
  have e : 34 + 32 * l[33].toNat + 4 = 38 + 32 * l[33].toNat := by omega
  simp only [e] at hm
  rw [hm]
  omega
theorem dec3_ok' {l : List UInt8} (h0 : 0 < l.length) (h : l[0].toNat = 3) (q : 33 < l.length) {a c m : Nat} (hc : l[33].toNat = c) (ha : a = 34 + 32 * c) (hm : (l.getD (a + 4) 0).toNat = m) (h4 : a + 4 < l.length) (hs : a + 5 + m ≤ l.length) :
    decP l = endP l { zObj 3 with tree := (l.drop 1).take 32, pars := idsAt l 34 c, num := num ((l.drop a).take 4), note := ⟨((l.drop (a + 5)).take m).toArray⟩ } (a + 5 + m) true := by
  subst ha hc
  rw [getD_at h4] at hm
  have e : 34 + 32 * l[33].toNat + 4 = 38 + 32 * l[33].toNat := by omega
  have e5 : 34 + 32 * l[33].toNat + 5 = 39 + 32 * l[33].toNat := by omega
  simp only [e] at hm
  rw [dec3_ok h0 h q (by omega) (by rw [hm]; omega), hm, e5]

set_option maxHeartbeats 8000000 in
set_option maxRecDepth 100000 in
theorem refDecode3 (w : World) (v : Value) (l : List UInt8) (h : IsB w v l) (hb : l.length ≤ 140737488355328) (h0 : 0 < l.length) (hk : l[0].toNat = 3) :
    Calls Try.prog 8 #[v] w (DecEnd (decP l) w) := by
  obtain ⟨ao, cap, rfl, b1, m1, z1, g1⟩ := h.opened
  obtain ⟨pb, po, rfl, e0⟩ := g1 0 h0
  have hcell : ∀ i (hi : i < l.length), w.cell? ⟨pb, po + i, none⟩ = some (.int .u8 (l[i].toNat : Int)) := by
    intro i hi
    obtain ⟨b, off, e, c⟩ := g1 i hi
    simp only [Option.some.injEq, Addr.mk.injEq] at e
    obtain ⟨rfl, rfl, _⟩ := e
    exact c
  have HCELL := Lib.hid hcell
  have hpb : pb < w.heap.size := World.block_lt_of_cell? _ _ e0
  clear g1 z1 hcell
  rw [Nat.add_zero, hk] at e0
  have HH := Lib.hid h
  clear h
  have bR0 := blk_old (o := .cells (objC (.slice none 0 0) (.slice none 0 0) (.slice none 0 0) (zObj 0)).toArray 30) (heap_alloc_new w (.cells (objC (.slice none 0 0) (.slice none 0 0) (.slice none 0 0) (zObj 0)).toArray 30))
  have b40 := blk_new (w := w.alloc (.cells (objC (.slice none 0 0) (.slice none 0 0) (.slice none 0 0) (zObj 0)).toArray 30)) (b := w.heap.size + 1) (o := .cells (objC (.slice none 0 0) (.slice none 0 0) (.slice none 0 0) (zObj 0)).toArray 30) (by simp)
  have l0 : (0 : Int) < (l.length : Int) := by omega
  have l0' : ((l.length : Int) == 0) = false := by rw [beq_eq_false_iff_ne]; omega
  replace e0 : w.cell? ⟨pb, po, none⟩ = some (.int .u8 3) := e0
  by_cases h2 : l.length < 34
  · have HD := Lib.hid (dec3_bad h0 hk (.inl h2))
    have l2 : decide ((l.length : Int) < 34) = true := decide_eq_true (by omega)
    clear hk
    go_enter Try.func8, Try.ntmps8
    go_wp2_with (first
      | ((with_reducible refine at_store 30 (.tmp 4) (.tmp 21) ?_); refine wpl_storeK (by rfl) 30 (.tmp 4) (.tmp 21) rfl (w.heap.size + 1) (objC (.slice none 0 0) (.slice none 0 0) (.slice none 0 0) (zObj 3)).toArray (by rfl) (by rfl) 30 _ b40 (by kernel_rfl) (by rfl) (zObj_is w 3 (by omega)).one ?_; intro w4 b4 gr4; have bR := grown_other gr4 bR0 (by omega); have X4 : Ext w w4 := (((Ext.refl w).alloc _).alloc _).grown gr4 (fun k hk => by simp at hk; omega); have q0 : w4.cell? ⟨w.heap.size + 1, 0, none⟩ = some (.int .i64 3) := (obj_at b4 rfl (zObj_ok 3 (by omega))).c0; try have c33 := X4.cell c1)
      | ((with_reducible refine at_store 30 (.tmp 2) (.tmp 156) ?_); (refine wpl_storeK (by rfl) 30 (.tmp 2) (.tmp 156) rfl w.heap.size (objC (.slice none 0 0) (.slice none 0 0) (.slice none 0 0) (zObj 0)).toArray (by rfl) (by rfl) 30 _ bR (by kernel_rfl) (by rfl) (zObj_is w 0 (by omega)).one ?_); intro wF bF grF)
      | fail)
    refine bodyPost_ret (results_cell_tmp rfl _ _ w.heap.size _ _ _ _ (by rfl) bF Try.underlying30 rfl (by kernel_rfl)) rfl ⟨(objC (.slice none 0 0) (.slice none 0 0) (.slice none 0 0) (zObj 0)).toArray, .slice none 0 0, .slice none 0 0, .slice none 0 0, ?_, ?_, X4.grown grF (fun k hk => by simp at hk; omega)⟩
    · rw [HD.out]; rfl
    · rw [HD.out]; exact zObj_is _ 0 (by omega)
  have l2 : decide ((l.length : Int) < 34) = false := decide_eq_false (by omega)
  have h33 : 33 < l.length := by omega
  have c1 := HCELL.out 33 h33
  obtain ⟨c, hc⟩ : ∃ c, l[33].toNat = c := ⟨_, rfl⟩
  rw [hc] at c1
  have hc256 : c < 256 := by have := l[33].toNat_lt; omega
  by_cases h3 : l.length < 39 + 32 * c
  · have HD := Lib.hid (dec3_bad h0 hk (.inr ⟨h33, .inl (by rw [hc]; exact h3)⟩))
    have l3 : decide ((l.length : Int) - 34 < 32 * (c : Int) + 5) = true := decide_eq_true (by omega)
    clear hk hc
    go_enter Try.func8, Try.ntmps8
    go_wp2_with (first
      | ((with_reducible refine at_store 30 (.tmp 4) (.tmp 21) ?_); refine wpl_storeK (by rfl) 30 (.tmp 4) (.tmp 21) rfl (w.heap.size + 1) (objC (.slice none 0 0) (.slice none 0 0) (.slice none 0 0) (zObj 3)).toArray (by rfl) (by rfl) 30 _ b40 (by kernel_rfl) (by rfl) (zObj_is w 3 (by omega)).one ?_; intro w4 b4 gr4; have bR := grown_other gr4 bR0 (by omega); have X4 : Ext w w4 := (((Ext.refl w).alloc _).alloc _).grown gr4 (fun k hk => by simp at hk; omega); have q0 : w4.cell? ⟨w.heap.size + 1, 0, none⟩ = some (.int .i64 3) := (obj_at b4 rfl (zObj_ok 3 (by omega))).c0; try have c33 := X4.cell c1)
      | ((with_reducible refine at_store 30 (.tmp 2) (.tmp 156) ?_); (refine wpl_storeK (by rfl) 30 (.tmp 2) (.tmp 156) rfl w.heap.size (objC (.slice none 0 0) (.slice none 0 0) (.slice none 0 0) (zObj 0)).toArray (by rfl) (by rfl) 30 _ bR (by kernel_rfl) (by rfl) (zObj_is w 0 (by omega)).one ?_); intro wF bF grF)
      | fail)
    refine bodyPost_ret (results_cell_tmp rfl _ _ w.heap.size _ _ _ _ (by rfl) bF Try.underlying30 rfl (by kernel_rfl)) rfl ⟨(objC (.slice none 0 0) (.slice none 0 0) (.slice none 0 0) (zObj 0)).toArray, .slice none 0 0, .slice none 0 0, .slice none 0 0, ?_, ?_, X4.grown grF (fun k hk => by simp at hk; omega)⟩
    · rw [HD.out]; rfl
    · rw [HD.out]; exact zObj_is _ 0 (by omega)
  have l3 : decide ((l.length : Int) - 34 < 32 * (c : Int) + 5) = false := decide_eq_false (by omega)
  have HBAD := Lib.hid (fun a m ha hm h4 hs => dec3_bad' h0 hk h33 (a := a) (m := m) hc ha hm h4 hs)
  have HOK := Lib.hid (fun a m ha hm h4 hs => dec3_ok' h0 hk h33 (a := a) (m := m) hc ha hm h4 hs)
  clear hk hc
  obtain ⟨tr, htr⟩ : ∃ t, (l.drop 1).take 32 = t := ⟨_, rfl⟩
  have htl : tr.length = 32 := by rw [← htr, List.length_take, List.length_drop]; omega
  have HTR := Lib.hid htr
  clear htr
  obtain ⟨zI, tyI⟩ := tyIds
  go_enter Try.func8, Try.ntmps8
  go_wp2_with (first
    | ((with_reducible refine at_store 30 (.tmp 4) (.tmp 21) ?_); refine wpl_storeK (by rfl) 30 (.tmp 4) (.tmp 21) rfl (w.heap.size + 1) (objC (.slice none 0 0) (.slice none 0 0) (.slice none 0 0) (zObj 3)).toArray (by rfl) (by rfl) 30 _ b40 (by kernel_rfl) (by rfl) (zObj_is w 3 (by omega)).one ?_; intro w4 b4 gr4; have bR := grown_other gr4 bR0 (by omega); have X4 : Ext w w4 := (((Ext.refl w).alloc _).alloc _).grown gr4 (fun k hk => by simp at hk; omega); have q0 : w4.cell? ⟨w.heap.size + 1, 0, none⟩ = some (.int .i64 3) := (obj_at b4 rfl (zObj_ok 3 (by omega))).c0; try have c33 := X4.cell c1)
    | ((with_reducible refine at_slice 22 (.tmp 157) (.const (.int .i64 1)) (.const (.int .i64 33)) ?_); refine wpl_cutB (by rfl) (.tmp 157) (.const (.int .i64 1)) (.const (.int .i64 33)) rfl pb po l.length cap 1 33 32 l (HH.out.ext X4) rfl (by rfl) (by rfl) (by rfl) (by omega) (by omega) b1 m1 ?_; intro vt hvt; rw [HTR.out] at hvt)
    | fail)
  refine Calls.mono (refId _ _ tr hvt htl) ?_
  rintro e w5 ⟨rfl, x5⟩
  have b4 := x5.keeps b4
  have bR := x5.keeps bR
  have X5 := X4.trans x5
  have hgs := grown_setCells (w.heap.size + 1) (tr.map bc) 3 w5
  have b5t := heap_setCells (w.heap.size + 1) (tr.map bc) 3 w5 _ b4
  rw [obj_tree _ _ _ (zObj 3) tr rfl htl] at b5t
  have hth := there_of b4 3 32 (by rw [(zObj_is w 3 (by omega)).size]; omega)
  have bRt := grown_other hgs bR (by omega)
  have X6 := X5.grown hgs (fun k hk => by simp at hk; omega)
  have hz5 : w.heap.size + 1 < (w5.setCells (w.heap.size + 1) 3 (tr.map bc)).heap.size := block_lt b5t
  have hti := id_size htl
  clear b4 gr4 b40 bR0 q0 X4 hvt x5 bR hgs X5
  go_wp2_with (first
    | ((with_reducible refine at_store 26 (.tmp 160) (.tmp 159) ?_); refine wpl_storeMid (by rfl) 26 (.tmp 160) (.tmp 159) rfl (w.heap.size + 1) 3 (tr.map bc).toArray (by rfl) (by rfl) (by simpa [htl] using hth) hti (id_one _) ?_; simp only [List.toList_toArray]; generalize w5.setCells (w.heap.size + 1) 3 (tr.map bc) = w6 at *)
    | fail)
  go_loopg [5, 11] c (fun gg s5 s11 wr => ∃ (i a : Nat) (ps : List (List UInt8)) (vp : Value), i ≤ c ∧ c - i ≤ gg ∧ s5 = .int .i64 (a : Int) ∧ s11 = .int .i64 (i : Int) ∧ Hid (a = 34 + 32 * i) ∧ Hid (ps = idsAt l 34 i) ∧ wr.heap[w.heap.size + 1]? = some (.cells (objC (.slice none 0 0) (.slice none 0 0) vp { zObj 3 with tree := tr, pars := ps }).toArray 30 (0, 0)) ∧ wr.ownsRow (w.heap.size + 2) 26 32 vp i (ps.flatMap idC) ∧ ps.length = i ∧ (∀ p ∈ ps, p.length = 32) ∧ wr.heap[w.heap.size]? = some (.cells (objC (.slice none 0 0) (.slice none 0 0) (.slice none 0 0) (zObj 0)).toArray 30 (0, 0)) ∧ Ext w wr ∧ w.heap.size + 1 < wr.heap.size)
  case atStart => exact ⟨0, 34, [], .slice none 0 0, Nat.zero_le _, by omega, rfl, rfl, Lib.hid rfl, Lib.hid rfl, b5t, World.ownsRow_nil _ _ _ _, rfl, (fun p hp => by cases hp), bRt, X6, hz5⟩
  case round =>
    clear b5t bRt X6 hz5 hth
    obtain ⟨i, a, ps, vp, hi, hgg, rfl, rfl, HA, HPS, b5, own, hpl, hp32, bR, xr, hz⟩ := hrel
    obtain ⟨ap, cp, rfl⟩ := sl_len (IsSl.of_owns own)
    have ho : ObjOk { zObj 3 with tree := tr, pars := ps } := ⟨by simp [zObj], by simp [zObj], by simp [zObj], by simp [zObj], htl, hp32, by show ps.length ≤ _; omega, (show (0 : Nat) < 4294967296 by omega), Nat.zero_le _⟩
    have c35 := (obj_at b5 rfl ho).c4
    have f35 := block_free b5 35
    have c1r := xr.cell c1
    have hab : a + 5 ≤ l.length := by have := HA.out; omega
    by_cases hlt : i < c
    · have hltI : (i : Int) < (c : Int) := by omega
      have hab2 : a + 32 + 5 ≤ l.length := by have := HA.out; omega
      obtain ⟨Q, hQ⟩ : ∃ t, (l.drop a).take 32 = t := ⟨_, rfl⟩
      have hQl : Q.length = 32 := by rw [← hQ, List.length_take, List.length_drop]; omega
      have hbq0 := HH.out.cut a (a + 32) (by omega) (by omega)
      rw [if_neg (by omega), Option.map_some, Addr.add_lit, Nat.mul_one, Nat.add_sub_cancel_left, hQ] at hbq0
      have HBQ := Lib.hid hbq0
      have HPS' : Hid (ps ++ [Q] = idsAt l 34 (i + 1)) := Lib.hid (by unfold idsAt; rw [← HPS.out, ← hQ, ← HA.out])
      have HA' : Hid (a + 32 = 34 + 32 * (i + 1)) := Lib.hid (by have := HA.out; omega)
      have hcn : ¬ cap = a := by omega
      have h_1 : (0 : Int) ≤ (a : Int) := Int.natCast_nonneg _
      have h_2 : (a : Int) + 32 ≤ (cap : Int) := by omega
      have h_3 : (a : Int) ≤ (a : Int) + 32 := by omega
      have hw32 : IntKind.i64.wrap ((a : Int) + 32) = (a : Int) + 32 := IntWalk.i64_in _ (by omega)
      clear hQ hbq0
      go_wp2_with fail
      refine wp_region_noPanic ?_
      refine wp_region_any (by kernel_rfl) ?_
      refine wpAny_take (i := 0) (v := ?vm01_0) rfl (by kernel_rfl) (by kernel_rfl) (by kernel_rfl) (fun _ _ _ h => h) (Or.inl ⟨by rfl, ?hym01_0⟩) ?_
      case hym01_0 => (intro w; go_simp; try with_reducible rfl)
      simp only [Act.put, List.setIfInBounds_toArray, List.set_cons_zero, List.set_cons_succ, List.getElem_toArray, List.getElem_cons_zero, List.getElem_cons_succ]
      refine wpAny_take (i := 2) (v := ?vm02_2) rfl (by kernel_rfl) (by kernel_rfl) (by kernel_rfl) (fun _ _ _ h => h) (Or.inl ⟨by rfl, ?hym02_2⟩) ?_
      case hym02_2 => (intro w; go_simp; try with_reducible rfl)
      simp only [Act.put, List.setIfInBounds_toArray, List.set_cons_zero, List.set_cons_succ, List.getElem_toArray, List.getElem_cons_zero, List.getElem_cons_succ]
      refine wpAny_take (i := 3) (v := ?vm03_3) rfl (by kernel_rfl) (by kernel_rfl) (by kernel_rfl) (fun _ _ _ h => h) (Or.inl ⟨by rfl, ?hym03_3⟩) ?_
      case hym03_3 => (intro w; go_simp; try with_reducible rfl)
      simp only [Act.put, List.setIfInBounds_toArray, List.set_cons_zero, List.set_cons_succ, List.getElem_toArray, List.getElem_cons_zero, List.getElem_cons_succ]
      refine wpAny_take (i := 4) (v := ?vm04_4) rfl (by kernel_rfl) (by kernel_rfl) (by kernel_rfl) (fun _ _ _ h => h) (Or.inl ⟨by rfl, ?hym04_4⟩) ?_
      case hym04_4 => (intro w; go_simp; try with_reducible rfl)
      simp only [Act.put, List.setIfInBounds_toArray, List.set_cons_zero, List.set_cons_succ, List.getElem_toArray, List.getElem_cons_zero, List.getElem_cons_succ]
      refine wpAny_take (i := 5) (v := ?vm05_5) rfl (by kernel_rfl) (by kernel_rfl) (by kernel_rfl) (fun _ _ _ h => h) (Or.inl ⟨by rfl, ?hym05_5⟩) ?_
      case hym05_5 => (intro w; go_simp; try with_reducible rfl)
      simp only [Act.put, List.setIfInBounds_toArray, List.set_cons_zero, List.set_cons_succ, List.getElem_toArray, List.getElem_cons_zero, List.getElem_cons_succ]
      refine wpAny_take (i := 6) (v := ?vm06_6) rfl (by kernel_rfl) (by kernel_rfl) (by kernel_rfl) (fun _ _ _ h => h) (Or.inl ⟨by rfl, ?hym06_6⟩) ?_
      case hym06_6 => (intro w; go_simp; try with_reducible rfl)
      simp only [Act.put, List.setIfInBounds_toArray, List.set_cons_zero, List.set_cons_succ, List.getElem_toArray, List.getElem_cons_zero, List.getElem_cons_succ]
      refine wpAny_all (rs := [1, 7]) (by kernel_rfl) (by simp) ?_
      intro i hi; have hi' : i = 1 ∨ i = 7 := by simpa using hi
      clear hi; rcases hi' with rfl | rfl
      · refine wpOp_run rfl (by rfl) ?_
        go_simp
        try simp only [Act.put, List.setIfInBounds_toArray, List.set_cons_zero, List.set_cons_succ, List.getElem_toArray, List.getElem_cons_zero, List.getElem_cons_succ]
        refine wpAny_all (rs := [7]) (by kernel_rfl) (by simp) ?_
        intro i hi; obtain rfl : i = 7 := by simpa using hi
        refine wpOp_run rfl (by rfl) ?_
        go_simp
        rw [show ((a : Int) + 32).toNat - a = 32 from by omega]
        refine Calls.mono (refId _ _ Q ((HBQ.out.ext xr).ext ((Ext.refl wr).drew)) hQl) ?_
        rintro e w7 ⟨rfl, x7⟩
        have x7w : Ext wr w7 := ((Ext.refl wr).drew).trans x7
        have b57 := x7w.keeps b5
        have bR7 := x7w.keeps bR
        have own7 := ownsRow_ext own x7w
        have c35 := (obj_at b57 rfl ho).c4
        have f35 := block_free b57 35
        have hz7 : w.heap.size + 1 < w7.heap.size := block_lt b57
        try simp only [Act.put, List.setIfInBounds_toArray, List.set_cons_zero, List.set_cons_succ, List.getElem_toArray, List.getElem_cons_zero, List.getElem_cons_succ]
        refine wpAny_all (rs := [8]) (by kernel_rfl) (by simp) ?_
        intro i hi; obtain rfl : i = 8 := by simpa using hi
        refine wpOp_run rfl (by rfl) ?_
        have hbl := fun w => build_one (P := Try.prog) w 27 26 32 Try.underlying27 infoIdS (by omega) (by omega) (Q.map bc) (by simp [hQl])
        refine wp_buildOne 27 (.tmp 176) rfl (Q.map bc) (by rfl) (hbl _) ?_
        try simp only [Act.put, List.setIfInBounds_toArray, List.set_cons_zero, List.set_cons_succ, List.getElem_toArray, List.getElem_cons_zero, List.getElem_cons_succ]
        refine wpAny_all (rs := [9]) (by kernel_rfl) (by simp) ?_
        intro i hi; obtain rfl : i = 9 := by simpa using hi
        refine wpOp_run rfl (by rfl) ?_
        refine wp_appO (w := w7.alloc (.cells (Q.map bc).toArray 26)) tyI (.tmp 170) (.tmp 177) rfl (w.heap.size + 2) (.slice ap i cp) i _ (ownsRow_ext own7 ((Ext.refl w7).alloc _)) (by rfl) _ 1 (Q.map bc) (sl_one_new (w := w7) (n := 32) (e := 26) (Q := Q.map bc) rfl (by simp [hQl])) (by rfl) (bc_one Q) (by omega) (by omega) (by have h := ((Ext.refl w7).alloc (.cells (Q.map bc).toArray 26)).size; omega) ?_
        intro v' w8 own8 gr8
        have hne : (Value.slice ap i cp).ownBlock ≠ some (w.heap.size + 1) := own_ne own (Or.inl (by omega))
        have hneR : (Value.slice ap i cp).ownBlock ≠ some w.heap.size := own_ne own (Or.inl (by omega))
        have b58 := grown_keep gr8 (blk_old b57) hne
        have bR8 := grown_keep gr8 (blk_old bR7) hneR
        have c358 := (obj_at b58 rfl ho).c4
        have f358 := block_free b58 35
        obtain ⟨ap8, cp8, rfl⟩ := sl_len (IsSl.of_owns own8)
        try simp only [Act.put, List.setIfInBounds_toArray, List.set_cons_zero, List.set_cons_succ, List.getElem_toArray, List.getElem_cons_zero, List.getElem_cons_succ]
        refine wpAny_take (i := 10) (v := ?vm21_10) rfl (by kernel_rfl) (by kernel_rfl) (by kernel_rfl) (fun _ _ _ h => h) (Or.inl ⟨by rfl, ?hym21_10⟩) ?_
        case hym21_10 => (intro w; go_simp; try with_reducible rfl)
        simp only [Act.put, List.setIfInBounds_toArray, List.set_cons_zero, List.set_cons_succ, List.getElem_toArray, List.getElem_cons_zero, List.getElem_cons_succ]
        refine wpAny_all (rs := [11]) (by kernel_rfl) (by simp) ?_
        intro i hi; obtain rfl : i = 11 := by simpa using hi
        refine wpOp_run rfl (by rfl) ?_
        go_simp
        try simp only [Act.put, List.setIfInBounds_toArray, List.set_cons_zero, List.set_cons_succ, List.getElem_toArray, List.getElem_cons_zero, List.getElem_cons_succ]
        refine wpAny_done (by kernel_rfl) ?_ _
        refine NoPanic.normal ?_
        have gr9 := grown_setCell w8 (w.heap.size + 1) 35 (.slice ap8 (i + 1) cp8)
        have b59 := block_setCell b58 (i := 35) (.slice ap8 (i + 1) cp8)
        rw [obj_set35 _ _ _ _ { zObj 3 with tree := tr, pars := ps } (ps ++ [Q]) htl] at b59
        have own9 := ownsRow_grown own8 gr9 (own_ne own8 (Or.inl (by omega)))
        have bR9 := grown_other gr9 bR8 (by omega)
        have x78 : Ext w w8 := ((xr.trans x7w).alloc _).grown gr8 (fun k hk => by have := (own.lt k hk).1; omega)
        have x9 := x78.grown gr9 (fun k hk => by simp at hk; omega)
        have hz9 : w.heap.size + 1 < (w8.setCell ⟨w.heap.size + 1, 35, none⟩ (.slice ap8 (i + 1) cp8)).heap.size := block_lt b59
        go_wp2_with fail
        go_roundg (c - (i + 1))
        case measure => omega
        case rel =>
          refine ⟨i + 1, a + 32, ps ++ [Q], .slice ap8 (i + 1) cp8, by omega, by omega, by go_num, by go_num, HA', HPS', b59, ?_, by simp [hpl], ?_, bR9, x9, hz9⟩
          · rw [List.flatMap_append]; simpa [idC] using own9
          · intro p hp; rcases List.mem_append.1 hp with h | h
            · exact hp32 p h
            · rw [List.mem_singleton.1 h]; exact hQl
      · refine wpOp_run rfl (by rfl) ?_
        go_simp
        rw [show ((a : Int) + 32).toNat - a = 32 from by omega]
        refine Calls.mono (refId _ _ Q ((HBQ.out.ext xr).ext ((Ext.refl wr).drew)) hQl) ?_
        rintro e w7 ⟨rfl, x7⟩
        have x7w : Ext wr w7 := ((Ext.refl wr).drew).trans x7
        have b57 := x7w.keeps b5
        have bR7 := x7w.keeps bR
        have own7 := ownsRow_ext own x7w
        have c35 := (obj_at b57 rfl ho).c4
        have f35 := block_free b57 35
        have hz7 : w.heap.size + 1 < w7.heap.size := block_lt b57
        try simp only [Act.put, List.setIfInBounds_toArray, List.set_cons_zero, List.set_cons_succ, List.getElem_toArray, List.getElem_cons_zero, List.getElem_cons_succ]
        refine wpAny_all (rs := [1, 8]) (by kernel_rfl) (by simp) ?_
        intro i hi; have hi' : i = 1 ∨ i = 8 := by simpa using hi
        clear hi; rcases hi' with rfl | rfl
        · refine wpOp_run rfl (by rfl) ?_
          go_simp
          try simp only [Act.put, List.setIfInBounds_toArray, List.set_cons_zero, List.set_cons_succ, List.getElem_toArray, List.getElem_cons_zero, List.getElem_cons_succ]
          refine wpAny_all (rs := [8]) (by kernel_rfl) (by simp) ?_
          intro i hi; obtain rfl : i = 8 := by simpa using hi
          refine wpOp_run rfl (by rfl) ?_
          have hbl := fun w => build_one (P := Try.prog) w 27 26 32 Try.underlying27 infoIdS (by omega) (by omega) (Q.map bc) (by simp [hQl])
          refine wp_buildOne 27 (.tmp 176) rfl (Q.map bc) (by rfl) (hbl _) ?_
          try simp only [Act.put, List.setIfInBounds_toArray, List.set_cons_zero, List.set_cons_succ, List.getElem_toArray, List.getElem_cons_zero, List.getElem_cons_succ]
          refine wpAny_all (rs := [9]) (by kernel_rfl) (by simp) ?_
          intro i hi; obtain rfl : i = 9 := by simpa using hi
          refine wpOp_run rfl (by rfl) ?_
          refine wp_appO (w := w7.alloc (.cells (Q.map bc).toArray 26)) tyI (.tmp 170) (.tmp 177) rfl (w.heap.size + 2) (.slice ap i cp) i _ (ownsRow_ext own7 ((Ext.refl w7).alloc _)) (by rfl) _ 1 (Q.map bc) (sl_one_new (w := w7) (n := 32) (e := 26) (Q := Q.map bc) rfl (by simp [hQl])) (by rfl) (bc_one Q) (by omega) (by omega) (by have h := ((Ext.refl w7).alloc (.cells (Q.map bc).toArray 26)).size; omega) ?_
          intro v' w8 own8 gr8
          have hne : (Value.slice ap i cp).ownBlock ≠ some (w.heap.size + 1) := own_ne own (Or.inl (by omega))
          have hneR : (Value.slice ap i cp).ownBlock ≠ some w.heap.size := own_ne own (Or.inl (by omega))
          have b58 := grown_keep gr8 (blk_old b57) hne
          have bR8 := grown_keep gr8 (blk_old bR7) hneR
          have c358 := (obj_at b58 rfl ho).c4
          have f358 := block_free b58 35
          obtain ⟨ap8, cp8, rfl⟩ := sl_len (IsSl.of_owns own8)
          try simp only [Act.put, List.setIfInBounds_toArray, List.set_cons_zero, List.set_cons_succ, List.getElem_toArray, List.getElem_cons_zero, List.getElem_cons_succ]
          refine wpAny_take (i := 10) (v := ?vm51_10) rfl (by kernel_rfl) (by kernel_rfl) (by kernel_rfl) (fun _ _ _ h => h) (Or.inl ⟨by rfl, ?hym51_10⟩) ?_
          case hym51_10 => (intro w; go_simp; try with_reducible rfl)
          simp only [Act.put, List.setIfInBounds_toArray, List.set_cons_zero, List.set_cons_succ, List.getElem_toArray, List.getElem_cons_zero, List.getElem_cons_succ]
          refine wpAny_all (rs := [11]) (by kernel_rfl) (by simp) ?_
          intro i hi; obtain rfl : i = 11 := by simpa using hi
          refine wpOp_run rfl (by rfl) ?_
          go_simp
          try simp only [Act.put, List.setIfInBounds_toArray, List.set_cons_zero, List.set_cons_succ, List.getElem_toArray, List.getElem_cons_zero, List.getElem_cons_succ]
          refine wpAny_done (by kernel_rfl) ?_ _
          refine NoPanic.normal ?_
          have gr9 := grown_setCell w8 (w.heap.size + 1) 35 (.slice ap8 (i + 1) cp8)
          have b59 := block_setCell b58 (i := 35) (.slice ap8 (i + 1) cp8)
          rw [obj_set35 _ _ _ _ { zObj 3 with tree := tr, pars := ps } (ps ++ [Q]) htl] at b59
          have own9 := ownsRow_grown own8 gr9 (own_ne own8 (Or.inl (by omega)))
          have bR9 := grown_other gr9 bR8 (by omega)
          have x78 : Ext w w8 := ((xr.trans x7w).alloc _).grown gr8 (fun k hk => by have := (own.lt k hk).1; omega)
          have x9 := x78.grown gr9 (fun k hk => by simp at hk; omega)
          have hz9 : w.heap.size + 1 < (w8.setCell ⟨w.heap.size + 1, 35, none⟩ (.slice ap8 (i + 1) cp8)).heap.size := block_lt b59
          go_wp2_with fail
          go_roundg (c - (i + 1))
          case measure => omega
          case rel =>
            refine ⟨i + 1, a + 32, ps ++ [Q], .slice ap8 (i + 1) cp8, by omega, by omega, by go_num, by go_num, HA', HPS', b59, ?_, by simp [hpl], ?_, bR9, x9, hz9⟩
            · rw [List.flatMap_append]; simpa [idC] using own9
            · intro p hp; rcases List.mem_append.1 hp with h | h
              · exact hp32 p h
              · rw [List.mem_singleton.1 h]; exact hQl
        · refine wpOp_run rfl (by rfl) ?_
          have hbl := fun w => build_one (P := Try.prog) w 27 26 32 Try.underlying27 infoIdS (by omega) (by omega) (Q.map bc) (by simp [hQl])
          refine wp_buildOne 27 (.tmp 176) rfl (Q.map bc) (by rfl) (hbl _) ?_
          try simp only [Act.put, List.setIfInBounds_toArray, List.set_cons_zero, List.set_cons_succ, List.getElem_toArray, List.getElem_cons_zero, List.getElem_cons_succ]
          refine wpAny_all (rs := [1]) (by kernel_rfl) (by simp) ?_
          intro i hi; obtain rfl : i = 1 := by simpa using hi
          refine wpOp_run rfl (by rfl) ?_
          go_simp
          try simp only [Act.put, List.setIfInBounds_toArray, List.set_cons_zero, List.set_cons_succ, List.getElem_toArray, List.getElem_cons_zero, List.getElem_cons_succ]
          refine wpAny_all (rs := [9]) (by kernel_rfl) (by simp) ?_
          intro i hi; obtain rfl : i = 9 := by simpa using hi
          refine wpOp_run rfl (by rfl) ?_
          refine wp_appO (w := w7.alloc (.cells (Q.map bc).toArray 26)) tyI (.tmp 170) (.tmp 177) rfl (w.heap.size + 2) (.slice ap i cp) i _ (ownsRow_ext own7 ((Ext.refl w7).alloc _)) (by rfl) _ 1 (Q.map bc) (sl_one_new (w := w7) (n := 32) (e := 26) (Q := Q.map bc) rfl (by simp [hQl])) (by rfl) (bc_one Q) (by omega) (by omega) (by have h := ((Ext.refl w7).alloc (.cells (Q.map bc).toArray 26)).size; omega) ?_
          intro v' w8 own8 gr8
          have hne : (Value.slice ap i cp).ownBlock ≠ some (w.heap.size + 1) := own_ne own (Or.inl (by omega))
          have hneR : (Value.slice ap i cp).ownBlock ≠ some w.heap.size := own_ne own (Or.inl (by omega))
          have b58 := grown_keep gr8 (blk_old b57) hne
          have bR8 := grown_keep gr8 (blk_old bR7) hneR
          have c358 := (obj_at b58 rfl ho).c4
          have f358 := block_free b58 35
          obtain ⟨ap8, cp8, rfl⟩ := sl_len (IsSl.of_owns own8)
          try simp only [Act.put, List.setIfInBounds_toArray, List.set_cons_zero, List.set_cons_succ, List.getElem_toArray, List.getElem_cons_zero, List.getElem_cons_succ]
          refine wpAny_take (i := 10) (v := ?vm71_10) rfl (by kernel_rfl) (by kernel_rfl) (by kernel_rfl) (fun _ _ _ h => h) (Or.inl ⟨by rfl, ?hym71_10⟩) ?_
          case hym71_10 => (intro w; go_simp; try with_reducible rfl)
          simp only [Act.put, List.setIfInBounds_toArray, List.set_cons_zero, List.set_cons_succ, List.getElem_toArray, List.getElem_cons_zero, List.getElem_cons_succ]
          refine wpAny_all (rs := [11]) (by kernel_rfl) (by simp) ?_
          intro i hi; obtain rfl : i = 11 := by simpa using hi
          refine wpOp_run rfl (by rfl) ?_
          go_simp
          try simp only [Act.put, List.setIfInBounds_toArray, List.set_cons_zero, List.set_cons_succ, List.getElem_toArray, List.getElem_cons_zero, List.getElem_cons_succ]
          refine wpAny_done (by kernel_rfl) ?_ _
          refine NoPanic.normal ?_
          have gr9 := grown_setCell w8 (w.heap.size + 1) 35 (.slice ap8 (i + 1) cp8)
          have b59 := block_setCell b58 (i := 35) (.slice ap8 (i + 1) cp8)
          rw [obj_set35 _ _ _ _ { zObj 3 with tree := tr, pars := ps } (ps ++ [Q]) htl] at b59
          have own9 := ownsRow_grown own8 gr9 (own_ne own8 (Or.inl (by omega)))
          have bR9 := grown_other gr9 bR8 (by omega)
          have x78 : Ext w w8 := ((xr.trans x7w).alloc _).grown gr8 (fun k hk => by have := (own.lt k hk).1; omega)
          have x9 := x78.grown gr9 (fun k hk => by simp at hk; omega)
          have hz9 : w.heap.size + 1 < (w8.setCell ⟨w.heap.size + 1, 35, none⟩ (.slice ap8 (i + 1) cp8)).heap.size := block_lt b59
          go_wp2_with fail
          go_roundg (c - (i + 1))
          case measure => omega
          case rel =>
            refine ⟨i + 1, a + 32, ps ++ [Q], .slice ap8 (i + 1) cp8, by omega, by omega, by go_num, by go_num, HA', HPS', b59, ?_, by simp [hpl], ?_, bR9, x9, hz9⟩
            · rw [List.flatMap_append]; simpa [idC] using own9
            · intro p hp; rcases List.mem_append.1 hp with h | h
              · exact hp32 p h
              · rw [List.mem_singleton.1 h]; exact hQl
    · obtain rfl : i = c := by omega
      have hltI : ¬ (i : Int) < (i : Int) := by omega
      have h4 : a + 4 < l.length := by omega
      obtain ⟨m, hm⟩ : ∃ m, (l.getD (a + 4) 0).toNat = m := ⟨_, rfl⟩
      have hm256 : m < 256 := by rw [← hm]; exact (l.getD (a + 4) 0).toNat_lt
      have cM := HCELL.out (a + 4) h4
      rw [← getD_at h4, hm] at cM
      have hbad := HBAD.out a m HA.out hm h4
      have hok := HOK.out a m HA.out hm h4
      obtain ⟨nn, hnn⟩ : ∃ t, num ((l.drop a).take 4) = t := ⟨_, rfl⟩
      have hn32 : nn < 4294967296 := by rw [← hnn]; have := num_small ((l.drop a).take 4) 4 (by rw [List.length_take]; omega); omega
      obtain ⟨nt, hnt⟩ : ∃ t, (l.drop (a + 5)).take m = t := ⟨_, rfl⟩
      have hntl : nt.length ≤ 140737488355328 := by rw [← hnt, List.length_take, List.length_drop]; omega
      rw [hnn, HTR.out, ← HPS.out, hnt] at hok
      have HNT := Lib.hid hnt
      have HNN := Lib.hid hnn
      have HB2 := Lib.hid hbad
      have HO2 := Lib.hid hok
      have hwn : IntKind.u32.wrap (nn : Int) = (nn : Int) := by rw [IntKind.wrap_u32]; omega
      have h_0 : (0 : Int) ≤ (a : Int) := Int.natCast_nonneg _
      clear hnt hnn hbad hok hm
      go_wp2_with (first
        | ((with_reducible refine at_slice 22 (.tmp 182) (.tmp 183) (.tmp 185) ?_); refine wpl_cutB (by rfl) (.tmp 182) (.tmp 183) (.tmp 185) rfl pb po l.length cap a (a + 4) 4 l (HH.out.ext xr) rfl (by rfl) (by rfl) (by rfl) rfl (by omega) b1 m1 ?_; intro v4 hv4)
        | fail)
      refine Calls.mono (refNumber _ _ _ hv4 (by rw [List.length_take]; omega)) ?_
      rintro e w6 ⟨rfl, rfl⟩
      rw [HNN.out]
      have c36 := (obj_at b5 rfl ho).c5
      have f36 := block_free b5 36
      have gr7 := grown_setCell wr (w.heap.size + 1) 36 (.int .u32 (nn : Int))
      have b57 := block_setCell b5 (i := 36) (.int .u32 (nn : Int))
      rw [obj_set36 _ _ _ { zObj 3 with tree := tr, pars := ps } nn htl] at b57
      have bR7 := grown_other gr7 bR (by omega)
      have own7 := ownsRow_grown own gr7 (own_ne own (Or.inl (by omega)))
      have x7 := xr.grown gr7 (fun k hk => by simp at hk; omega)
      have cM7 := x7.cell cM
      have ho3 : ObjOk { zObj 3 with tree := tr, pars := ps, num := nn } := ⟨by simp [zObj], by simp [zObj], by simp [zObj], by simp [zObj], htl, hp32, by show ps.length ≤ _; omega, hn32, Nat.zero_le _⟩
      have c37 := (obj_at b57 rfl ho3).c6
      have f37 := block_free b57 37
      clear hv4
      by_cases hs : l.length < a + 5 + m
      · have HD := Lib.hid (HB2.out hs)
        have ls : decide ((l.length : Int) - ((a : Int) + 5) < (m : Int)) = true := decide_eq_true (by omega)
        go_wp2_with (first
          | ((with_reducible refine at_store 30 (.tmp 2) (.tmp 204) ?_); (refine wpl_storeK (by rfl) 30 (.tmp 2) (.tmp 204) rfl w.heap.size (objC (.slice none 0 0) (.slice none 0 0) (.slice none 0 0) (zObj 0)).toArray (by rfl) (by rfl) 30 _ bR7 (by kernel_rfl) (by rfl) (zObj_is w 0 (by omega)).one ?_); intro wF bF grF)
          | fail)
        refine bodyPost_ret (results_cell_tmp rfl _ _ w.heap.size _ _ _ _ (by rfl) bF Try.underlying30 rfl (by kernel_rfl)) rfl ⟨(objC (.slice none 0 0) (.slice none 0 0) (.slice none 0 0) (zObj 0)).toArray, .slice none 0 0, .slice none 0 0, .slice none 0 0, ?_, ?_, x7.grown grF (fun k hk => by simp at hk; omega)⟩
        · rw [HD.out]; rfl
        · rw [HD.out]; exact zObj_is _ 0 (by omega)
      have ls : decide ((l.length : Int) - ((a : Int) + 5) < (m : Int)) = false := decide_eq_false (by omega)
      have HE := Lib.hid (HO2.out (by omega))
      have gr9 := grown_setCell (wr.setCell ⟨w.heap.size + 1, 36, none⟩ (.int .u32 (nn : Int))) (w.heap.size + 1) 37 (.string ⟨nt.toArray⟩)
      have bE4 := block_setCell b57 (i := 37) (.string ⟨nt.toArray⟩)
      rw [obj_set37 _ _ _ { zObj 3 with tree := tr, pars := ps, num := nn } ⟨nt.toArray⟩ htl] at bE4
      have bRE := grown_other gr9 bR7 (by omega)
      have ownE := ownsRow_grown own7 gr9 (own_ne own7 (Or.inl (by omega)))
      have XE := x7.grown gr9 (fun k hk => by simp at hk; omega)
      have hoE : ObjOk { zObj 3 with tree := tr, pars := ps, num := nn, note := ⟨nt.toArray⟩ } := ⟨by simp [zObj], by simp [zObj], by simp [zObj], by simp [zObj], htl, hp32, by show ps.length ≤ _; omega, hn32, hntl⟩
      have hO : IsObj ((wr.setCell ⟨w.heap.size + 1, 36, none⟩ (.int .u32 (nn : Int))).setCell ⟨w.heap.size + 1, 37, none⟩ (.string ⟨nt.toArray⟩)) (objC (.slice none 0 0) (.slice none 0 0) (.slice ap i cp) { zObj 3 with tree := tr, pars := ps, num := nn, note := ⟨nt.toArray⟩ }).toArray (.slice none 0 0) (.slice none 0 0) (.slice ap i cp) { zObj 3 with tree := tr, pars := ps, num := nn, note := ⟨nt.toArray⟩ } :=
        ⟨rfl, hoE, IsB.nil _, IsSl.nil _ _, by have h := IsSl.of_owns ownE; rw [← hpl] at h; rw [← hpl]; exact h⟩
      have hvp : Off (.slice ap i cp) w.heap.size := Off.own ownE (by omega)
      clear ho3 own7 ownE own ho hoE b57 bR7
      generalize hQO : (objC (.slice none 0 0) (.slice none 0 0) (.slice ap i cp) { zObj 3 with tree := tr, pars := ps, num := nn, note := ⟨nt.toArray⟩ }).toArray = QO at *
      clear hQO
      generalize ({ zObj 3 with tree := tr, pars := ps, num := nn, note := ⟨nt.toArray⟩ } : ObjL) = o at *
      by_cases hA : a + 5 + m < l.length
      · have hA1 : (a + 5 + m : Int) < (l.length : Int) := by omega
        have hd : decP l = (zObj 0, 150) := by rw [HE.out]; unfold endP; rw [if_pos (by have : decide ((l.length : Int) - (a + 5 + m : Nat) > 0) = true := decide_eq_true (by omega); rw [this]; rfl)]
        have HD := Lib.hid hd
        clear hd
        go_wp2_with (first
          | ((with_reducible refine at_slice 22 (.tmp 205) (.tmp 206) (.tmp 209) ?_); refine wpl_cutB (by rfl) (.tmp 205) (.tmp 206) (.tmp 209) rfl pb po l.length cap (a + 5) (a + 5 + m) m l (HH.out.ext x7) rfl (by rfl) (by rfl) (by rfl) rfl (by omega) b1 m1 ?_; intro v5 hv5; rw [HNT.out] at hv5; have hcv := conv_str (P := Try.prog) hv5 22 9 5 Try.underlying22 Try.underlying5 Try.underlying9)
          | ((with_reducible refine at_store 30 (.tmp 2) (.tmp 229) ?_); (refine wpl_storeK (by rfl) 30 (.tmp 2) (.tmp 229) rfl w.heap.size (objC (.slice none 0 0) (.slice none 0 0) (.slice none 0 0) (zObj 0)).toArray (by rfl) (by rfl) 30 _ bRE (by kernel_rfl) (by rfl) (zObj_is w 0 (by omega)).one ?_); intro wF bF grF)
          | fail)
        refine bodyPost_ret (results_cell_tmp rfl _ _ w.heap.size _ _ _ _ (by rfl) bF Try.underlying30 rfl (by kernel_rfl)) rfl ⟨(objC (.slice none 0 0) (.slice none 0 0) (.slice none 0 0) (zObj 0)).toArray, .slice none 0 0, .slice none 0 0, .slice none 0 0, ?_, ?_, XE.grown grF (fun k hk => by simp at hk; omega)⟩
        · rw [HD.out]; rfl
        · rw [HD.out]; exact zObj_is _ 0 (by omega)
      have hA2 : decide ((a + 5 + m : Int) < (l.length : Int)) = false := decide_eq_false (by omega)
      cases hC : checkB o with
      | false =>
        have hd : decP l = (zObj 0, 150) := by rw [HE.out]; unfold endP; rw [if_pos (by rw [hC]; simp)]
        have HD := Lib.hid hd
        clear hd
        go_wp2_with (first
          | ((with_reducible refine at_slice 22 (.tmp 205) (.tmp 206) (.tmp 209) ?_); refine wpl_cutB (by rfl) (.tmp 205) (.tmp 206) (.tmp 209) rfl pb po l.length cap (a + 5) (a + 5 + m) m l (HH.out.ext x7) rfl (by rfl) (by rfl) (by rfl) rfl (by omega) b1 m1 ?_; intro v5 hv5; rw [HNT.out] at hv5; have hcv := conv_str (P := Try.prog) hv5 22 9 5 Try.underlying22 Try.underlying5 Try.underlying9)
          | ((with_reducible refine at_load 30 (.tmp 4) ?_); refine wpl_load (by rfl) 30 (.tmp 4) rfl (w.heap.size + 1) (by rfl) 30 QO (0, 0) _ bE4 Try.underlying30 rfl hO.info ?_)
          | (go_at_call 17; refine Calls.mono (refRightO _ QO (.slice none 0 0) (.slice none 0 0) (.slice ap i cp) o hO) ?_; rintro e wc ⟨rfl, xc⟩; rw [hC]; have bRE := xc.keeps bRE; have bE4 := xc.keeps bE4; have hO := hO.ext xc; have XE := XE.trans xc)
          | ((with_reducible refine at_store 30 (.tmp 2) (.tmp 229) ?_); (refine wpl_storeK (by rfl) 30 (.tmp 2) (.tmp 229) rfl w.heap.size (objC (.slice none 0 0) (.slice none 0 0) (.slice none 0 0) (zObj 0)).toArray (by rfl) (by rfl) 30 _ bRE (by kernel_rfl) (by rfl) (zObj_is w 0 (by omega)).one ?_); intro wF bF grF)
          | fail)
        refine bodyPost_ret (results_cell_tmp rfl _ _ w.heap.size _ _ _ _ (by rfl) bF Try.underlying30 rfl (by kernel_rfl)) rfl ⟨(objC (.slice none 0 0) (.slice none 0 0) (.slice none 0 0) (zObj 0)).toArray, .slice none 0 0, .slice none 0 0, .slice none 0 0, ?_, ?_, XE.grown grF (fun k hk => by simp at hk; omega)⟩
        · rw [HD.out]; rfl
        · rw [HD.out]; exact zObj_is _ 0 (by omega)
      | true =>
        have hd : decP l = (o, 0) := by rw [HE.out]; unfold endP; rw [if_neg (by have : decide ((l.length : Int) - (a + 5 + m : Nat) > 0) = false := decide_eq_false (by omega); rw [this, hC]; simp)]
        have HD := Lib.hid hd
        clear hd
        go_wp2_with (first
          | ((with_reducible refine at_slice 22 (.tmp 205) (.tmp 206) (.tmp 209) ?_); refine wpl_cutB (by rfl) (.tmp 205) (.tmp 206) (.tmp 209) rfl pb po l.length cap (a + 5) (a + 5 + m) m l (HH.out.ext x7) rfl (by rfl) (by rfl) (by rfl) rfl (by omega) b1 m1 ?_; intro v5 hv5; rw [HNT.out] at hv5; have hcv := conv_str (P := Try.prog) hv5 22 9 5 Try.underlying22 Try.underlying5 Try.underlying9)
          | ((with_reducible refine at_load 30 (.tmp 4) ?_); refine wpl_load (by rfl) 30 (.tmp 4) rfl (w.heap.size + 1) (by rfl) 30 QO (0, 0) _ bE4 Try.underlying30 rfl hO.info ?_)
          | (go_at_call 17; refine Calls.mono (refRightO _ QO (.slice none 0 0) (.slice none 0 0) (.slice ap i cp) o hO) ?_; rintro e wc ⟨rfl, xc⟩; rw [hC]; have bRE := xc.keeps bRE; have bE4 := xc.keeps bE4; have hO := hO.ext xc; have XE := XE.trans xc)
          | ((with_reducible refine at_store 30 (.tmp 2) (.tmp 230) ?_); (refine wpl_storeK (by rfl) 30 (.tmp 2) (.tmp 230) rfl w.heap.size QO (by rfl) (by rfl) 30 _ bRE hO.info (by rw [hO.size]; rfl) hO.one ?_); intro wF bF grF)
          | fail)
        refine bodyPost_ret (results_cell_tmp rfl _ _ w.heap.size _ _ _ _ (by rfl) bF Try.underlying30 rfl hO.info) rfl ⟨QO, (.slice none 0 0), (.slice none 0 0), (.slice ap i cp), ?_, ?_, XE.grown grF (fun k hk => by simp at hk; omega)⟩
        · rw [HD.out]; rfl
        · rw [HD.out]
          exact ⟨hO.eq, hO.ok, hO.vb.other grF (Off.nil _ _ _), hO.ve.other grF (Off.nil _ _ _), hO.vp.other grF hvp⟩
end Go.Proofs.Ytcdlmappcbbacaa
