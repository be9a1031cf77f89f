/- The walk of the reference's Decode: a folder. -/
import Derived.Test.YtcdlmappcbbacaaObZ
import Derived.Test.YtcdlmappcbbacaaCut
namespace Go.Proofs.Ytcdlmappcbbacaa
open Go.RowKit
set_option linter.unusedVariables false
set_option linter.unusedSimpArgs false

theorem cutB {w : World} {pb po n cap : Nat} {l : List UInt8} (h : IsB w (.slice (some ⟨pb, po, none⟩) n cap) l) (A m : Nat) (hB : A + m ≤ n) (hA : A < cap) : IsB w (.slice (some ⟨pb, po + A, none⟩) m (cap - A)) ((l.drop A).take m) := by
  have := h.cut A (A + m) (by omega) hB
  rw [if_neg (by omega), Option.map_some, Addr.add_lit, Nat.mul_one, Nat.add_sub_cancel_left] at this
  exact this

set_option maxHeartbeats 8000000 in
set_option maxRecDepth 100000 in
theorem refDecode2 (w : World) (v : Value) (l : List UInt8) (h : IsB w v l) (hb : l.length ≤ 140737488355328) (h0 : 0 < l.length) (hk : l[0].toNat = 2) :
    Calls Try.prog 8 #[v] w (DecEnd (decP l) w) := by
  obtain ⟨ao, cap, rfl, b1, m1, z1, g1⟩ := h.opened
  obtain ⟨pb, po, rfl, e0⟩ := g1 0 h0
  have hcell : ∀ i (hi : i < l.length), w.cell? ⟨pb, po + i, none⟩ = some (.int .u8 (l[i].toNat : Int)) := by
    intro i hi
    obtain ⟨b, off, e, c⟩ := g1 i hi
    simp only [Option.some.injEq, Addr.mk.injEq] at e
    obtain ⟨rfl, rfl, _⟩ := e
    exact c
  have HCELL := Lib.hid hcell
  have hpb : pb < w.heap.size := World.block_lt_of_cell? _ _ e0
  clear g1 z1 hcell
  rw [Nat.add_zero, hk] at e0
  have HH := Lib.hid h
  clear h
  have bR0 := blk_old (o := .cells (objC (.slice none 0 0) (.slice none 0 0) (.slice none 0 0) (zObj 0)).toArray 30) (heap_alloc_new w (.cells (objC (.slice none 0 0) (.slice none 0 0) (.slice none 0 0) (zObj 0)).toArray 30))
  have b40 := blk_new (w := w.alloc (.cells (objC (.slice none 0 0) (.slice none 0 0) (.slice none 0 0) (zObj 0)).toArray 30)) (b := w.heap.size + 1) (o := .cells (objC (.slice none 0 0) (.slice none 0 0) (.slice none 0 0) (zObj 0)).toArray 30) (by simp)
  have l0 : (0 : Int) < (l.length : Int) := by omega
  have l0' : ((l.length : Int) == 0) = false := by rw [beq_eq_false_iff_ne]; omega
  replace e0 : w.cell? ⟨pb, po, none⟩ = some (.int .u8 2) := e0
  by_cases h2 : l.length < 2
  · have HD := Lib.hid (dec2_short h0 hk h2)
    have l2 : (l.length : Int) < 2 := by omega
    clear hk
    go_enter Try.func8, Try.ntmps8
    go_wp2_with (first
      | ((with_reducible refine at_store 30 (.tmp 4) (.tmp 21) ?_); refine wpl_storeK (by rfl) 30 (.tmp 4) (.tmp 21) rfl (w.heap.size + 1) (objC (.slice none 0 0) (.slice none 0 0) (.slice none 0 0) (zObj 2)).toArray (by rfl) (by rfl) 30 _ b40 (by kernel_rfl) (by rfl) (zObj_is w 2 (by omega)).one ?_; intro w4 b4 gr4; have bR := grown_other gr4 bR0 (by omega); have X4 : Ext w w4 := (((Ext.refl w).alloc _).alloc _).grown gr4 (fun k hk => by simp at hk; omega); have q0 : w4.cell? ⟨w.heap.size + 1, 0, none⟩ = some (.int .i64 2) := (obj_at b4 rfl (zObj_ok 2 (by omega))).c0)
      | ((with_reducible refine at_store 30 (.tmp 2) (.tmp 61) ?_); (refine wpl_storeK (by rfl) 30 (.tmp 2) (.tmp 61) rfl w.heap.size (objC (.slice none 0 0) (.slice none 0 0) (.slice none 0 0) (zObj 0)).toArray (by rfl) (by rfl) 30 _ bR (by kernel_rfl) (by rfl) (zObj_is w 0 (by omega)).one ?_); intro wF bF grF)
      | fail)
    refine bodyPost_ret (results_cell_tmp rfl _ _ w.heap.size _ _ _ _ (by rfl) bF Try.underlying30 rfl (by kernel_rfl)) rfl ⟨(objC (.slice none 0 0) (.slice none 0 0) (.slice none 0 0) (zObj 0)).toArray, .slice none 0 0, .slice none 0 0, .slice none 0 0, ?_, ?_, X4.grown grF (fun k hk => by simp at hk; omega)⟩
    · rw [HD.out]; rfl
    · rw [HD.out]; exact zObj_is _ 0 (by omega)
  have l2 : ¬ (l.length : Int) < 2 := by omega
  have h1 : 1 < l.length := by omega
  have hd1 := fun i hi hs => dec2_bad h0 hk h1 (i := i) hi hs
  have hd2 := fun es a ok hs => dec2_ok h0 hk h1 (es := es) (a := a) (ok := ok) hs
  have c1 := HCELL.out 1 h1
  obtain ⟨c, hc⟩ : ∃ c, l[1].toNat = c := ⟨_, rfl⟩
  rw [hc] at c1 hd1 hd2
  have hc256 : c < 256 := by have := l[1].toNat_lt; omega
  have HD1 := Lib.hid hd1
  have HD2 := Lib.hid hd2
  clear hc hd1 hd2 hk
  obtain ⟨zE, tyE⟩ := tyEnt
  go_enter Try.func8, Try.ntmps8
  go_wp2_with (first
    | ((with_reducible refine at_store 30 (.tmp 4) (.tmp 21) ?_); refine wpl_storeK (by rfl) 30 (.tmp 4) (.tmp 21) rfl (w.heap.size + 1) (objC (.slice none 0 0) (.slice none 0 0) (.slice none 0 0) (zObj 2)).toArray (by rfl) (by rfl) 30 _ b40 (by kernel_rfl) (by rfl) (zObj_is w 2 (by omega)).one ?_; intro w4 b4 gr4; have bR := grown_other gr4 bR0 (by omega); have X4 : Ext w w4 := (((Ext.refl w).alloc _).alloc _).grown gr4 (fun k hk => by simp at hk; omega); have q0 : w4.cell? ⟨w.heap.size + 1, 0, none⟩ = some (.int .i64 2) := (obj_at b4 rfl (zObj_ok 2 (by omega))).c0)
    | fail)
  have hH4 : w.heap.size + 1 < w4.heap.size := block_lt b4
  go_loopg [5, 6, 8] c (fun gg s5 s6 s8 wr => ∃ (i : Nat) (es : List EntL) (a : Nat) (ok : Bool) (ve : Value), i ≤ c ∧ c - i ≤ gg ∧ s5 = .int .i64 (a : Int) ∧ s6 = .bool ok ∧ s8 = .int .i64 (i : Int) ∧ itE l (2, 0) i = (es, (a, 0), ok) ∧ a ≤ l.length ∧ 2 ≤ a ∧ es.length = i ∧ (∀ p ∈ es, EntOk p) ∧ wr.heap[w.heap.size + 1]? = some (.cells (objC (.slice none 0 0) ve (.slice none 0 0) { zObj 2 with ents := es }).toArray 30 (0, 0)) ∧ wr.ownsRow (w.heap.size + 2) 43 34 ve i (es.flatMap entC) ∧ wr.heap[w.heap.size]? = some (.cells (objC (.slice none 0 0) (.slice none 0 0) (.slice none 0 0) (zObj 0)).toArray 30 (0, 0)) ∧ Ext w wr ∧ w.heap.size + 1 < wr.heap.size)
  case atStart => exact ⟨0, [], 2, true, .slice none 0 0, Nat.zero_le _, by omega, rfl, rfl, rfl, rfl, by omega, Nat.le_refl _, rfl, (fun p hp => by cases hp), b4, World.ownsRow_nil _ _ _ _, bR, X4, hH4⟩
  case round =>
    clear b4 gr4 bR X4 hH4 q0 b40 bR0
    obtain ⟨i, es, a, ok, ve, hi, hgg, rfl, rfl, rfl, hit, ha, ha2, hpl, hp32, b4, own, bR, xr, hz⟩ := hrel
    have step : itE l (2, 0) (i + 1) = stepE l (es, (a, 0), ok) := by show stepE l (itE l (2, 0) i) = _; rw [hit]
    have STEP := Lib.hid step
    have HIT := Lib.hid hit
    clear step hit
    obtain ⟨ae, ce, rfl⟩ := sl_len (IsSl.of_owns own)
    have ho : ObjOk { zObj 2 with ents := es } := ⟨by simp [zObj], by simp [zObj], hp32, by show es.length ≤ _; omega, rfl, by simp [zObj], by simp [zObj], by simp [zObj], Nat.zero_le _⟩
    have c1r := xr.cell c1
    by_cases hlt : i < c
    · have hltI : (i : Int) < (c : Int) := by omega
      by_cases hae : l.length ≤ a
      · have hd := HD1.out (i + 1) (by omega) (by rw [STEP.out]; exact stepE_bad ha (.inr hae))
        have HD := Lib.hid hd
        clear hd
        have hq1 : decide ((l.length : Int) ≤ (a : Int)) = true := decide_eq_true (by omega)
        go_wp2_with (first
          | ((with_reducible refine at_store 30 (.tmp 2) (.tmp 88) ?_); (refine wpl_storeK (by rfl) 30 (.tmp 2) (.tmp 88) rfl w.heap.size (objC (.slice none 0 0) (.slice none 0 0) (.slice none 0 0) (zObj 0)).toArray (by rfl) (by rfl) 30 _ bR (by kernel_rfl) (by rfl) (zObj_is w 0 (by omega)).one ?_); intro wF bF grF)
          | fail)
        refine bodyPost_ret (results_cell_tmp rfl _ _ w.heap.size _ _ _ _ (by rfl) bF Try.underlying30 rfl (by kernel_rfl)) rfl ⟨(objC (.slice none 0 0) (.slice none 0 0) (.slice none 0 0) (zObj 0)).toArray, .slice none 0 0, .slice none 0 0, .slice none 0 0, ?_, ?_, xr.grown grF (fun k hk => by simp at hk; omega)⟩
        · rw [HD.out]; rfl
        · rw [HD.out]; exact zObj_is _ 0 (by omega)
      have hal : a < l.length := by omega
      have cA := xr.cell (HCELL.out a hal)
      have hgd := getD_at hal
      have hn256 := l[a].toNat_lt
      obtain ⟨n, hn⟩ : ∃ n, l[a].toNat = n := ⟨_, rfl⟩
      have hgn : (l.getD a 0).toNat = n := by rw [hgd, hn]
      rw [hn] at cA hn256
      clear hn hgd
      have hq1 : decide ((l.length : Int) ≤ (a : Int)) = false := decide_eq_false (by omega)
      by_cases hsh : l.length < a + 34 + n
      · have hd := HD1.out (i + 1) (by omega) (by rw [STEP.out]; exact stepE_bad ha (.inl (by rw [hgn]; exact hsh)))
        have HD := Lib.hid hd
        clear hd hgn
        have hq2 : decide ((l.length : Int) - (a : Int) - 1 < (n : Int) + 33) = true := decide_eq_true (by omega)
        go_wp2_with (first
          | ((with_reducible refine at_store 30 (.tmp 2) (.tmp 88) ?_); (refine wpl_storeK (by rfl) 30 (.tmp 2) (.tmp 88) rfl w.heap.size (objC (.slice none 0 0) (.slice none 0 0) (.slice none 0 0) (zObj 0)).toArray (by rfl) (by rfl) 30 _ bR (by kernel_rfl) (by rfl) (zObj_is w 0 (by omega)).one ?_); intro wF bF grF)
          | fail)
        refine bodyPost_ret (results_cell_tmp rfl _ _ w.heap.size _ _ _ _ (by rfl) bF Try.underlying30 rfl (by kernel_rfl)) rfl ⟨(objC (.slice none 0 0) (.slice none 0 0) (.slice none 0 0) (zObj 0)).toArray, .slice none 0 0, .slice none 0 0, .slice none 0 0, ?_, ?_, xr.grown grF (fun k hk => by simp at hk; omega)⟩
        · rw [HD.out]; rfl
        · rw [HD.out]; exact zObj_is _ 0 (by omega)
      have hq2 : decide ((l.length : Int) - (a : Int) - 1 < (n : Int) + 33) = false := decide_eq_false (by omega)
      have hfl : a + 1 + n < l.length := by omega
      have cF := xr.cell (HCELL.out (a + 1 + n) hfl)
      have hf256 := l[a + 1 + n].toNat_lt
      have hgf := getD_at hfl
      obtain ⟨f, hf⟩ : ∃ f, l[a + 1 + n].toNat = f := ⟨_, rfl⟩
      rw [hf] at cF hf256
      obtain ⟨fb, hfb⟩ : ∃ b : Bool, ((f : Int) == 1) = b := ⟨_, rfl⟩
      obtain ⟨fq, hfq⟩ : ∃ b : Bool, decide ((f : Int) ≤ 1) = b := ⟨_, rfl⟩
      obtain ⟨nm, hnm⟩ : ∃ t, (l.drop (a + 1)).take n = t := ⟨_, rfl⟩
      obtain ⟨Q, hQ⟩ : ∃ t, (l.drop (a + 1 + n + 1)).take 32 = t := ⟨_, rfl⟩
      have hst : itE l (2, 0) (i + 1) = (es ++ [{ name := ⟨nm.toArray⟩, folder := fb, id := Q }], (a + 34 + n, 0), ok && fq) := by
        have e1 : decide (f = 1) = fb := by rw [← hfb, Bool.eq_iff_iff]; simp; omega
        have e2 : decide (f ≤ 1) = fq := by rw [← hfq, Bool.eq_iff_iff]; simp; omega
        rw [STEP.out, stepE_ok (by rw [hgn]; omega)]
        unfold entAt
        simp only [hgn, hgf, hf, e1, e2]
        rw [← hnm, ← hQ, show a + 1 + n + 1 = a + 2 + n from by omega]
      have hQl : Q.length = 32 := by rw [← hQ, List.length_take, List.length_drop]; omega
      have hnml : nm.length ≤ 140737488355328 := by rw [← hnm, List.length_take, List.length_drop]; omega
      have hbn : IsB w (.slice (some ⟨pb, po + (a + 1), none⟩) n (cap - (a + 1))) nm := by rw [← hnm]; exact cutB HH.out (a + 1) n (by omega) (by omega)
      have hbq : IsB w (.slice (some ⟨pb, po + (a + 1 + n + 1), none⟩) 32 (cap - (a + 1 + n + 1))) Q := by rw [← hQ]; exact cutB HH.out (a + 1 + n + 1) 32 (by omega) (by omega)
      have hcv := conv_str (P := Try.prog) (hbn.ext xr) 22 9 5 Try.underlying22 Try.underlying5 Try.underlying9
      have HST := Lib.hid hst
      have HBQ := Lib.hid hbq
      clear hst hnm hQ hgf hf hgn hbn hbq
      have hne7 : (Value.slice ae i ce).ownBlock ≠ some wr.heap.size := own_ne own (Or.inr (Nat.le_refl _))
      have hE0i := ent_info (e := { name := ⟨nm.toArray⟩, folder := false, id := z32 }) ⟨rfl, hnml⟩
      have hE0l : (entC ({ name := ⟨nm.toArray⟩, folder := false, id := z32 } : EntL)).length = 34 := entC_len ⟨rfl, hnml⟩
      have hE0o := ent_one ({ name := ⟨nm.toArray⟩, folder := false, id := z32 } : EntL)
      have hltc : pb < wr.heap.size := Nat.lt_of_lt_of_le hpb xr.size
      have hokc : ok = true ∨ ok = false := by cases ok <;> simp
      rcases hokc with rfl | rfl
      · skip
        go_wp2_with (first
          | ((with_reducible refine at_slice 22 (.tmp 94) (.tmp 96) (.tmp 100) ?_); refine wpl_cut (by rfl) (.tmp 94) (.tmp 96) (.tmp 100) rfl pb po l.length cap (a + 1) (a + 1 + n) n (by rfl) (by rfl) (by rfl) (by omega) (by omega) (by omega) (by omega) ?_)
          | ((with_reducible refine at_store 43 (.tmp 10) (.tmp 103) ?_); refine wpl_storeK (by rfl) 43 (.tmp 10) (.tmp 103) rfl wr.heap.size (entC { name := ⟨nm.toArray⟩, folder := false, id := z32 }).toArray (by rfl) (by rfl) 43 _ (heap_alloc_new _ _) (by simpa using hE0i) (by rfl) (all_oneCell_toArray hE0o) ?_; intro w10 b10 gr10; have x10 : Ext wr w10 := ((Ext.refl wr).alloc _).grown gr10 (fun k hk => by simp at hk; omega); have cF10 := x10.cell cF; have c101 : w10.cell? ⟨wr.heap.size, 1, none⟩ = some (.bool false) := (by rw [block_cell b10]; simp [entC]); have f101 := block_free b10 1; have hz10 : wr.heap.size < w10.heap.size := block_lt b10)
          | ((with_reducible refine at_slice 22 (.tmp 122) (.tmp 124) (.tmp 126) ?_); refine wpl_cut (by rfl) (.tmp 122) (.tmp 124) (.tmp 126) rfl pb po l.length cap (a + 1 + n + 1) (a + 1 + n + 33) 32 (by rfl) (by rfl) (by rfl) (by omega) (by omega) (by omega) (by omega) ?_)
          | fail)
        have gr9 := grown_setCell w10 wr.heap.size 1 (.bool fb)
        have b7 := block_setCell b10 (i := 1) (.bool fb)
        rw [ent_set1] at b7
        have x9 : Ext wr (w10.setCell ⟨wr.heap.size, 1, none⟩ (.bool fb)) := x10.grown gr9 (fun k hk => by simp at hk; omega)
        refine Calls.mono (refId _ _ Q ((HBQ.out.ext xr).ext x9) hQl) ?_
        rintro e w11 ⟨rfl, x11⟩
        have x11w := x9.trans x11
        have b7 := x11.keeps b7
        have b4 := x11w.keeps b4
        have bR := x11w.keeps bR
        have own := ownsRow_ext own x11w
        have xw11 := xr.trans x11w
        have hEok : EntOk { name := ⟨nm.toArray⟩, folder := fb, id := Q } := ⟨hQl, hnml⟩
        have hEi := ent_info hEok
        have hEl := entC_len hEok
        have hEo := ent_one ({ name := ⟨nm.toArray⟩, folder := fb, id := Q } : EntL)
        have hth := there_of b7 2 32 (by rw [List.size_toArray, entC_len (e := { name := ⟨nm.toArray⟩, folder := fb, id := z32 }) ⟨rfl, hnml⟩]; omega)
        generalize hH7 : wr.heap.size = H7 at *
        have gs := grown_setCells H7 (Q.map bc) 2 w11
        have b7s := heap_setCells H7 (Q.map bc) 2 w11 _ b7
        rw [ent_setId _ Q rfl hQl] at b7s
        have b4s := grown_other gs b4 (by omega)
        have bRs := grown_other gs bR (by omega)
        have owns := ownsRow_grown own gs hne7
        have hxw := xr.size
        have xs : Ext w _ := xw11.grown gs (fun k hk => by simp at hk; omega)
        have c52 := (obj_at b4s rfl ho).c2
        have f52 := block_free b4s 2
        have hQi := id_size hQl
        generalize hEE : ({ name := ⟨nm.toArray⟩, folder := fb, id := Q } : EntL) = E at *
        have HEE := Lib.hid hEE
        clear hEE gr9 x9 x11 b10 gr10 x10 cF10 c101 f101 hz10 hcv
        have hbl := fun w => build_one (P := Try.prog) w 24 43 34 Try.underlying24 infoEnt (by omega) (by omega) (entC E) hEl
        go_wp2_with (first
          | ((with_reducible refine at_store 26 (.tmp 129) (.tmp 128) ?_); refine wpl_storeMid (by rfl) 26 (.tmp 129) (.tmp 128) rfl H7 2 (Q.map bc).toArray (by rfl) (by rfl) (by simpa [hQl] using hth) hQi (id_one _) ?_; simp only [List.toList_toArray]; generalize w11.setCells H7 2 (Q.map bc) = w12 at *)
          | ((with_reducible refine at_load 43 (.tmp 10) ?_); refine wpl_load (by rfl) 43 (.tmp 10) rfl H7 (by rfl) 43 (entC E).toArray (0, 0) _ b7s Try.underlying43 rfl (by simpa using hEi) ?_)
          | ((with_reducible refine at_build1 24 (.tmp 134) ?_); refine wpl_buildOne (by rfl) 24 (.tmp 134) rfl (entC E) (by rfl) (hbl _) ?_)
          | (at_builtin; refine wp_app (w := w12.alloc (.cells (entC E).toArray 43)) tyE rfl (.tmp 133) (.tmp 135) rfl (w.heap.size + 2) (.slice ae i ce) i _ (ownsRow_ext owns ((Ext.refl w12).alloc _)) (by rfl) _ 1 (entC E) (sl_one_new (w := w12) (n := 34) (e := 43) (Q := entC E) rfl hEl) (by rfl) hEo (by omega) (by omega) (by have h1 := ((Ext.refl w12).alloc (.cells (entC E).toArray 43)).size; have h2 := block_lt b4s; omega) ?_; intro v' w13 own12 gr12; obtain ⟨a12, c12, rfl⟩ := sl_len (IsSl.of_owns own12); have b412 := grown_keep gr12 (blk_old b4s) (own_ne own (Or.inl (by omega))); have c53 := (obj_at b412 rfl ho).c2; have f53 := block_free b412 2; have hst12 : (Instr.storeAt 24 (.pointer (some ⟨w.heap.size + 1, 2, none⟩)) (.slice a12 (i + 1) c12)).run Try.prog w13 = .ok () (w13.setCell ⟨w.heap.size + 1, 2, none⟩ (.slice a12 (i + 1) c12)) := (by go_simp))
          | ((with_reducible refine at_store 24 (.tmp 137) (.tmp 136) ?_); refine wpl_stored (by rfl) 24 (.tmp 137) (.tmp 136) rfl _ _ (by rfl) (by rfl) hst12 ?_)
          | fail)
        have bR12 := grown_keep gr12 (blk_old bRs) (own_ne own (Or.inl (by omega)))
        have x12 : Ext w w13 := (xs.alloc _).grown gr12 (fun k hk => by have := (own.lt k hk).1; omega)
        have gr13 := grown_setCell w13 (w.heap.size + 1) 2 (.slice a12 (i + 1) c12)
        have b413 := block_setCell b412 (i := 2) (.slice a12 (i + 1) c12)
        rw [obj_set2 _ _ _ _ { zObj 2 with ents := es } (es ++ [E])] at b413
        have own13 := ownsRow_grown own12 gr13 (own_ne own12 (Or.inl (by omega)))
        have bR13 := grown_other gr13 bR12 (by omega)
        have x13 : Ext w _ := x12.grown gr13 (fun k hk => by simp at hk; omega)
        have hz13 : w.heap.size + 1 < (w13.setCell ⟨w.heap.size + 1, 2, none⟩ (.slice a12 (i + 1) c12)).heap.size := block_lt b413
        go_roundg (c - (i + 1))
        case measure => omega
        case rel =>
          refine ⟨i + 1, es ++ [E], a + 34 + n, true && fq, .slice a12 (i + 1) c12, by omega, by omega, ?_, ?_, by go_num, HST.out, by omega, by omega, by simp [hpl], ?_, b413, ?_, bR13, x13, hz13⟩
          · go_num
          · simp
          · intro p hp; rcases List.mem_append.1 hp with h | h
            · exact hp32 p h
            · rw [List.mem_singleton.1 h]; exact hEok
          · rw [List.flatMap_append]; simpa using own13
      · skip
        go_wp2_with (first
          | ((with_reducible refine at_slice 22 (.tmp 94) (.tmp 96) (.tmp 100) ?_); refine wpl_cut (by rfl) (.tmp 94) (.tmp 96) (.tmp 100) rfl pb po l.length cap (a + 1) (a + 1 + n) n (by rfl) (by rfl) (by rfl) (by omega) (by omega) (by omega) (by omega) ?_)
          | ((with_reducible refine at_store 43 (.tmp 10) (.tmp 103) ?_); refine wpl_storeK (by rfl) 43 (.tmp 10) (.tmp 103) rfl wr.heap.size (entC { name := ⟨nm.toArray⟩, folder := false, id := z32 }).toArray (by rfl) (by rfl) 43 _ (heap_alloc_new _ _) (by simpa using hE0i) (by rfl) (all_oneCell_toArray hE0o) ?_; intro w10 b10 gr10; have x10 : Ext wr w10 := ((Ext.refl wr).alloc _).grown gr10 (fun k hk => by simp at hk; omega); have cF10 := x10.cell cF; have c101 : w10.cell? ⟨wr.heap.size, 1, none⟩ = some (.bool false) := (by rw [block_cell b10]; simp [entC]); have f101 := block_free b10 1; have hz10 : wr.heap.size < w10.heap.size := block_lt b10)
          | ((with_reducible refine at_slice 22 (.tmp 122) (.tmp 124) (.tmp 126) ?_); refine wpl_cut (by rfl) (.tmp 122) (.tmp 124) (.tmp 126) rfl pb po l.length cap (a + 1 + n + 1) (a + 1 + n + 33) 32 (by rfl) (by rfl) (by rfl) (by omega) (by omega) (by omega) (by omega) ?_)
          | fail)
        have gr9 := grown_setCell w10 wr.heap.size 1 (.bool fb)
        have b7 := block_setCell b10 (i := 1) (.bool fb)
        rw [ent_set1] at b7
        have x9 : Ext wr (w10.setCell ⟨wr.heap.size, 1, none⟩ (.bool fb)) := x10.grown gr9 (fun k hk => by simp at hk; omega)
        refine Calls.mono (refId _ _ Q ((HBQ.out.ext xr).ext x9) hQl) ?_
        rintro e w11 ⟨rfl, x11⟩
        have x11w := x9.trans x11
        have b7 := x11.keeps b7
        have b4 := x11w.keeps b4
        have bR := x11w.keeps bR
        have own := ownsRow_ext own x11w
        have xw11 := xr.trans x11w
        have hEok : EntOk { name := ⟨nm.toArray⟩, folder := fb, id := Q } := ⟨hQl, hnml⟩
        have hEi := ent_info hEok
        have hEl := entC_len hEok
        have hEo := ent_one ({ name := ⟨nm.toArray⟩, folder := fb, id := Q } : EntL)
        have hth := there_of b7 2 32 (by rw [List.size_toArray, entC_len (e := { name := ⟨nm.toArray⟩, folder := fb, id := z32 }) ⟨rfl, hnml⟩]; omega)
        generalize hH7 : wr.heap.size = H7 at *
        have gs := grown_setCells H7 (Q.map bc) 2 w11
        have b7s := heap_setCells H7 (Q.map bc) 2 w11 _ b7
        rw [ent_setId _ Q rfl hQl] at b7s
        have b4s := grown_other gs b4 (by omega)
        have bRs := grown_other gs bR (by omega)
        have owns := ownsRow_grown own gs hne7
        have hxw := xr.size
        have xs : Ext w _ := xw11.grown gs (fun k hk => by simp at hk; omega)
        have c52 := (obj_at b4s rfl ho).c2
        have f52 := block_free b4s 2
        have hQi := id_size hQl
        generalize hEE : ({ name := ⟨nm.toArray⟩, folder := fb, id := Q } : EntL) = E at *
        have HEE := Lib.hid hEE
        clear hEE gr9 x9 x11 b10 gr10 x10 cF10 c101 f101 hz10 hcv
        have hbl := fun w => build_one (P := Try.prog) w 24 43 34 Try.underlying24 infoEnt (by omega) (by omega) (entC E) hEl
        go_wp2_with (first
          | ((with_reducible refine at_store 26 (.tmp 129) (.tmp 128) ?_); refine wpl_storeMid (by rfl) 26 (.tmp 129) (.tmp 128) rfl H7 2 (Q.map bc).toArray (by rfl) (by rfl) (by simpa [hQl] using hth) hQi (id_one _) ?_; simp only [List.toList_toArray]; generalize w11.setCells H7 2 (Q.map bc) = w12 at *)
          | ((with_reducible refine at_load 43 (.tmp 10) ?_); refine wpl_load (by rfl) 43 (.tmp 10) rfl H7 (by rfl) 43 (entC E).toArray (0, 0) _ b7s Try.underlying43 rfl (by simpa using hEi) ?_)
          | ((with_reducible refine at_build1 24 (.tmp 134) ?_); refine wpl_buildOne (by rfl) 24 (.tmp 134) rfl (entC E) (by rfl) (hbl _) ?_)
          | (at_builtin; refine wp_app (w := w12.alloc (.cells (entC E).toArray 43)) tyE rfl (.tmp 133) (.tmp 135) rfl (w.heap.size + 2) (.slice ae i ce) i _ (ownsRow_ext owns ((Ext.refl w12).alloc _)) (by rfl) _ 1 (entC E) (sl_one_new (w := w12) (n := 34) (e := 43) (Q := entC E) rfl hEl) (by rfl) hEo (by omega) (by omega) (by have h1 := ((Ext.refl w12).alloc (.cells (entC E).toArray 43)).size; have h2 := block_lt b4s; omega) ?_; intro v' w13 own12 gr12; obtain ⟨a12, c12, rfl⟩ := sl_len (IsSl.of_owns own12); have b412 := grown_keep gr12 (blk_old b4s) (own_ne own (Or.inl (by omega))); have c53 := (obj_at b412 rfl ho).c2; have f53 := block_free b412 2; have hst12 : (Instr.storeAt 24 (.pointer (some ⟨w.heap.size + 1, 2, none⟩)) (.slice a12 (i + 1) c12)).run Try.prog w13 = .ok () (w13.setCell ⟨w.heap.size + 1, 2, none⟩ (.slice a12 (i + 1) c12)) := (by go_simp))
          | ((with_reducible refine at_store 24 (.tmp 137) (.tmp 136) ?_); refine wpl_stored (by rfl) 24 (.tmp 137) (.tmp 136) rfl _ _ (by rfl) (by rfl) hst12 ?_)
          | fail)
        have bR12 := grown_keep gr12 (blk_old bRs) (own_ne own (Or.inl (by omega)))
        have x12 : Ext w w13 := (xs.alloc _).grown gr12 (fun k hk => by have := (own.lt k hk).1; omega)
        have gr13 := grown_setCell w13 (w.heap.size + 1) 2 (.slice a12 (i + 1) c12)
        have b413 := block_setCell b412 (i := 2) (.slice a12 (i + 1) c12)
        rw [obj_set2 _ _ _ _ { zObj 2 with ents := es } (es ++ [E])] at b413
        have own13 := ownsRow_grown own12 gr13 (own_ne own12 (Or.inl (by omega)))
        have bR13 := grown_other gr13 bR12 (by omega)
        have x13 : Ext w _ := x12.grown gr13 (fun k hk => by simp at hk; omega)
        have hz13 : w.heap.size + 1 < (w13.setCell ⟨w.heap.size + 1, 2, none⟩ (.slice a12 (i + 1) c12)).heap.size := block_lt b413
        go_roundg (c - (i + 1))
        case measure => omega
        case rel =>
          refine ⟨i + 1, es ++ [E], a + 34 + n, false && fq, .slice a12 (i + 1) c12, by omega, by omega, ?_, ?_, by go_num, HST.out, by omega, by omega, by simp [hpl], ?_, b413, ?_, bR13, x13, hz13⟩
          · go_num
          · simp
          · intro p hp; rcases List.mem_append.1 hp with h | h
            · exact hp32 p h
            · rw [List.mem_singleton.1 h]; exact hEok
          · rw [List.flatMap_append]; simpa using own13
    · obtain rfl : i = c := by omega
      have hHE := HD2.out es a ok HIT.out
      have HE := Lib.hid hHE
      clear hHE
      have hltI : ¬ (i : Int) < (i : Int) := by omega
      have hoff := Off.own own (R := w.heap.size) (by omega)
      have hve : IsSl wr (.slice ae i ce) 34 es.length (es.flatMap entC) := by rw [hpl]; exact IsSl.of_owns own
      have hO : IsObj wr (objC (.slice none 0 0) (.slice ae i ce) (.slice none 0 0) { zObj 2 with ents := es }).toArray (.slice none 0 0) (.slice ae i ce) (.slice none 0 0) { zObj 2 with ents := es } := ⟨rfl, ho, IsSl.nil _ _, hve, IsSl.nil _ _⟩
      have q0 : wr.cell? ⟨w.heap.size + 1, 0, none⟩ = some (.int .i64 2) := (obj_at b4 rfl ho).c0
      clear own hve ho
      generalize hQO : (objC (.slice none 0 0) (.slice ae i ce) (.slice none 0 0) { zObj 2 with ents := es }).toArray = QO at *
      clear hQO
      generalize ({ zObj 2 with ents := es } : ObjL) = o at *
      have bE4 := b4
      have bRE := bR
      have XE := xr
      clear b4 bR xr
      have hokc : ok = true ∨ ok = false := by cases ok <;> simp
      rcases hokc with rfl | rfl
      · skip
        by_cases hA : a < l.length
        · have hA1 : (a : Int) < (l.length : Int) := by omega
          have hd : decP l = (zObj 0, 150) := by rw [HE.out]; unfold endP; rw [if_pos (by have : decide ((l.length : Int) - (a : Nat) > 0) = true := decide_eq_true (by omega); rw [this]; rfl)]
          have HD := Lib.hid hd
          clear hd
          go_wp2_with (first
            | ((with_reducible refine at_store 30 (.tmp 2) (.tmp 229) ?_); (refine wpl_storeK (by rfl) 30 (.tmp 2) (.tmp 229) rfl w.heap.size (objC (.slice none 0 0) (.slice none 0 0) (.slice none 0 0) (zObj 0)).toArray (by rfl) (by rfl) 30 _ bRE (by kernel_rfl) (by rfl) (zObj_is w 0 (by omega)).one ?_); intro wF bF grF)
            | fail)
          refine bodyPost_ret (results_cell_tmp rfl _ _ w.heap.size _ _ _ _ (by rfl) bF Try.underlying30 rfl (by kernel_rfl)) rfl ⟨(objC (.slice none 0 0) (.slice none 0 0) (.slice none 0 0) (zObj 0)).toArray, .slice none 0 0, .slice none 0 0, .slice none 0 0, ?_, ?_, XE.grown grF (fun k hk => by simp at hk; omega)⟩
          · rw [HD.out]; rfl
          · rw [HD.out]; exact zObj_is _ 0 (by omega)
        have hA2 : decide ((a : Int) < (l.length : Int)) = false := decide_eq_false (by omega)
        cases hC : checkB o with
        | false =>
          have hd : decP l = (zObj 0, 150) := by rw [HE.out]; unfold endP; rw [if_pos (by rw [hC]; simp)]
          have HD := Lib.hid hd
          clear hd
          go_wp2_with (first
            | ((with_reducible refine at_load 30 (.tmp 4) ?_); refine wpl_load (by rfl) 30 (.tmp 4) rfl (w.heap.size + 1) (by rfl) 30 QO (0, 0) _ bE4 Try.underlying30 rfl hO.info ?_)
            | (go_at_call 17; refine Calls.mono (refRightO _ QO (.slice none 0 0) (.slice ae i ce) (.slice none 0 0) o hO) ?_; rintro e wc ⟨rfl, xc⟩; rw [hC]; have bRE := xc.keeps bRE; have bE4 := xc.keeps bE4; have hO := hO.ext xc; have XE := XE.trans xc)
            | ((with_reducible refine at_store 30 (.tmp 2) (.tmp 229) ?_); (refine wpl_storeK (by rfl) 30 (.tmp 2) (.tmp 229) rfl w.heap.size (objC (.slice none 0 0) (.slice none 0 0) (.slice none 0 0) (zObj 0)).toArray (by rfl) (by rfl) 30 _ bRE (by kernel_rfl) (by rfl) (zObj_is w 0 (by omega)).one ?_); intro wF bF grF)
            | fail)
          refine bodyPost_ret (results_cell_tmp rfl _ _ w.heap.size _ _ _ _ (by rfl) bF Try.underlying30 rfl (by kernel_rfl)) rfl ⟨(objC (.slice none 0 0) (.slice none 0 0) (.slice none 0 0) (zObj 0)).toArray, .slice none 0 0, .slice none 0 0, .slice none 0 0, ?_, ?_, XE.grown grF (fun k hk => by simp at hk; omega)⟩
          · rw [HD.out]; rfl
          · rw [HD.out]; exact zObj_is _ 0 (by omega)
        | true =>
          have hd : decP l = (o, 0) := by rw [HE.out]; unfold endP; rw [if_neg (by have : decide ((l.length : Int) - (a : Nat) > 0) = false := decide_eq_false (by omega); rw [this, hC]; simp)]
          have HD := Lib.hid hd
          clear hd
          go_wp2_with (first
            | ((with_reducible refine at_load 30 (.tmp 4) ?_); refine wpl_load (by rfl) 30 (.tmp 4) rfl (w.heap.size + 1) (by rfl) 30 QO (0, 0) _ bE4 Try.underlying30 rfl hO.info ?_)
            | (go_at_call 17; refine Calls.mono (refRightO _ QO (.slice none 0 0) (.slice ae i ce) (.slice none 0 0) o hO) ?_; rintro e wc ⟨rfl, xc⟩; rw [hC]; have bRE := xc.keeps bRE; have bE4 := xc.keeps bE4; have hO := hO.ext xc; have XE := XE.trans xc)
            | ((with_reducible refine at_store 30 (.tmp 2) (.tmp 230) ?_); (refine wpl_storeK (by rfl) 30 (.tmp 2) (.tmp 230) rfl w.heap.size QO (by rfl) (by rfl) 30 _ bRE hO.info (by rw [hO.size]; rfl) hO.one ?_); intro wF bF grF)
            | fail)
          refine bodyPost_ret (results_cell_tmp rfl _ _ w.heap.size _ _ _ _ (by rfl) bF Try.underlying30 rfl hO.info) rfl ⟨QO, (.slice none 0 0), (.slice ae i ce), (.slice none 0 0), ?_, ?_, XE.grown grF (fun k hk => by simp at hk; omega)⟩
          · rw [HD.out]; rfl
          · rw [HD.out]
            exact ⟨hO.eq, hO.ok, hO.vb.other grF (Off.nil _ _ _), hO.ve.other grF hoff, hO.vp.other grF (Off.nil _ _ _)⟩
      · have hd : decP l = (zObj 0, 150) := by rw [HE.out]; unfold endP; rw [if_pos (by simp)]
        have HD := Lib.hid hd
        clear hd
        by_cases hA : a < l.length
        · have hA2 : decide ((a : Int) < (l.length : Int)) = true := decide_eq_true (by omega)
          go_wp2_with (first
            | ((with_reducible refine at_store 30 (.tmp 2) (.tmp 229) ?_); (refine wpl_storeK (by rfl) 30 (.tmp 2) (.tmp 229) rfl w.heap.size (objC (.slice none 0 0) (.slice none 0 0) (.slice none 0 0) (zObj 0)).toArray (by rfl) (by rfl) 30 _ bRE (by kernel_rfl) (by rfl) (zObj_is w 0 (by omega)).one ?_); intro wF bF grF)
            | fail)
          refine bodyPost_ret (results_cell_tmp rfl _ _ w.heap.size _ _ _ _ (by rfl) bF Try.underlying30 rfl (by kernel_rfl)) rfl ⟨(objC (.slice none 0 0) (.slice none 0 0) (.slice none 0 0) (zObj 0)).toArray, .slice none 0 0, .slice none 0 0, .slice none 0 0, ?_, ?_, XE.grown grF (fun k hk => by simp at hk; omega)⟩
          · rw [HD.out]; rfl
          · rw [HD.out]; exact zObj_is _ 0 (by omega)
        · have hA2 : decide ((a : Int) < (l.length : Int)) = false := decide_eq_false (by omega)
          go_wp2_with (first
            | ((with_reducible refine at_store 30 (.tmp 2) (.tmp 229) ?_); (refine wpl_storeK (by rfl) 30 (.tmp 2) (.tmp 229) rfl w.heap.size (objC (.slice none 0 0) (.slice none 0 0) (.slice none 0 0) (zObj 0)).toArray (by rfl) (by rfl) 30 _ bRE (by kernel_rfl) (by rfl) (zObj_is w 0 (by omega)).one ?_); intro wF bF grF)
            | fail)
          refine bodyPost_ret (results_cell_tmp rfl _ _ w.heap.size _ _ _ _ (by rfl) bF Try.underlying30 rfl (by kernel_rfl)) rfl ⟨(objC (.slice none 0 0) (.slice none 0 0) (.slice none 0 0) (zObj 0)).toArray, .slice none 0 0, .slice none 0 0, .slice none 0 0, ?_, ?_, XE.grown grF (fun k hk => by simp at hk; omega)⟩
          · rw [HD.out]; rfl
          · rw [HD.out]; exact zObj_is _ 0 (by omega)
end Go.Proofs.Ytcdlmappcbbacaa
