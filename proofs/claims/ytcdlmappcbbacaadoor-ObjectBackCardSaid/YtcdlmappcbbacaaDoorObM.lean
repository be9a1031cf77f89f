/- object.Decode: a commit. -/
import Derived.Test.YtcdlmappcbbacaaDoorObK
import Derived.Test.YtcdlmappcbbacaaDoorObL
namespace Go.Proofs.YtcdlmappcbbacaaDoor
open Go.RowKit
set_option linter.unusedVariables false
set_option linter.unusedSimpArgs false

theorem wpl_storeMid {P : Program} {ops : Array Oper} {rest : List Oper} {o : Oper} {a : Act} {w : World} {Q : Exit → Act → World → Prop} (hgd : Region.wanted o (yielded ops a.tmps) = true) (ty : TypeId) (x y : Operand) (ho : o.op = .store ty x y)
    (b f : Nat) (cells : Array Value) (hx : a.eval x = .pointer (some ⟨b, f, none⟩)) (hy : a.eval y = .agg cells) (ht : w.there b f cells.size) (hi : (P.info? ty).map (·.size) = some cells.size) (h1 : cells.all (·.oneCell') = true)
    (h : wpList P ops Q rest (a.put o.dst undef) (w.setCells b f cells.toList)) : wpList P ops Q (o :: rest) a w :=
  wpList_wanted hgd fun K hK => wp_store_mid ty x y ho b f cells hx hy ht hi h1 (hK _ _ h)

set_option maxHeartbeats 8000000 in
set_option maxRecDepth 100000 in
theorem objDecode3 (w : World) (v : Value) (l : List UInt8) (h : IsB w v l) (hb : l.length ≤ 140737488355328) (hk : rN l (0, 0) 1 = 3) :
    Calls Tryd.prog 15 #[v] w (DecEnd (decP l) w) := by
  obtain ⟨s1, hs1⟩ : ∃ s, rS l (0, 0) 1 = s := ⟨_, rfl⟩
  obtain ⟨tr, htr⟩ : ∃ t, padId (rTake l s1.1 s1.2 32) = t := ⟨_, rfl⟩
  have htl : tr.length = 32 := by rw [← htr]; exact padId_len (rTake_len l s1.1 s1.2 32)
  obtain ⟨s2, hs2⟩ : ∃ s, rS l s1 32 = s := ⟨_, rfl⟩
  obtain ⟨c, hc⟩ : ∃ n : Nat, rN l s2 1 = n := ⟨_, rfl⟩
  have hc256 : c < 256 := by rw [← hc]; have := num_small (rTake l s2.1 s2.2 1) 1 (by simpa using rTake_len l s2.1 s2.2 1); unfold rN; omega
  obtain ⟨s3, hs3⟩ : ∃ s, rS l s2 1 = s := ⟨_, rfl⟩
  have HTR := Lib.hid htr
  have HS2 := Lib.hid hs2
  have HS3 := Lib.hid hs3
  have HC := Lib.hid hc
  have HS1 := Lib.hid hs1
  clear htr hs2 hs3 hc hs1
  have hzi : (Tryd.prog.info? 29).map (·.size) = some 38 := obj_info
  obtain ⟨zI, tyI⟩ := tyIds
  go_enter Tryd.func15, Tryd.ntmps15
  go_wp2_with fail
  have X0 : Ext w (w.alloc (.cells (objC (.slice none 0 0) (.slice none 0 0) (.slice none 0 0) (zObj 0)).toArray 29)) := (Ext.refl w).alloc _
  have bR := heap_alloc_new w (.cells (objC (.slice none 0 0) (.slice none 0 0) (.slice none 0 0) (zObj 0)).toArray 29)
  refine Calls.mono (octetRead _ v l (h.ext X0) hb) ?_
  rintro e w1 ⟨g, rfl, hg1, hr1, x1⟩
  have bR := x1.keeps bR
  have X1 := X0.trans x1
  have hgR : w.heap.size < g := by have := block_lt (heap_alloc_new w (.cells (objC (.slice none 0 0) (.slice none 0 0) (.slice none 0 0) (zObj 0)).toArray 29)); exact Nat.lt_of_lt_of_le this hg1
  have hgw : g < w1.heap.size := by obtain ⟨_, _, _, hgb, _, _⟩ := hr1; exact block_lt hgb
  generalize hR : w.heap.size = R at *
  clear X0 x1
  go_wp2_with fail
  have b4 := heap_alloc_new w1 (.cells #[.pointer (some ⟨g, 0, none⟩)] 60)
  have bR := blk_old (o := .cells #[.pointer (some ⟨g, 0, none⟩)] 60) bR
  have hr1 := hr1.ext ((Ext.refl w1).alloc (.cells #[.pointer (some ⟨g, 0, none⟩)] 60))
  have X1 := X1.alloc (.cells #[.pointer (some ⟨g, 0, none⟩)] 60)
  generalize hH4 : w1.heap.size = H4 at *
  generalize w1.alloc (.cells #[.pointer (some ⟨g, 0, none⟩)] 60) = w1 at *
  have hRw := hR
  refine Calls.mono (octetU8 _ g l 0 0 hr1) ?_
  rintro e w2 ⟨rfl, hr2, hg2⟩
  have X2 : Ext w w2 := X1.grown hg2 (fun k hk => by simp at hk; omega)
  have b4 := grown_other hg2 b4 (by omega)
  have bR := grown_other hg2 bR (by omega)
  have hk' : (num (rTake l 0 0 1) : Int) = 3 := by have : num (rTake l 0 0 1) = 3 := hk; omega
  rw [hk']
  clear hk' hg2 hr1 X1
  have hnl : rNext l 0 0 1 = rS l (0, 0) 1 := rfl
  rw [hnl] at hr2
  clear hnl
  have c50 := (obj_at (heap_alloc_new w2 (.cells (objC (.slice none 0 0) (.slice none 0 0) (.slice none 0 0) (zObj 3)).toArray 29)) rfl (zObj_ok 3 (by omega))).c0
  rw [show (zObj 3).kind = 3 from rfl] at c50
  have X3 := X2.alloc (.cells (objC (.slice none 0 0) (.slice none 0 0) (.slice none 0 0) (zObj 3)).toArray 29)
  have b5 := heap_alloc_new w2 (.cells (objC (.slice none 0 0) (.slice none 0 0) (.slice none 0 0) (zObj 3)).toArray 29)
  have b4 := blk_old (o := .cells (objC (.slice none 0 0) (.slice none 0 0) (.slice none 0 0) (zObj 3)).toArray 29) b4
  have bR := blk_old (o := .cells (objC (.slice none 0 0) (.slice none 0 0) (.slice none 0 0) (zObj 3)).toArray 29) bR
  have hr3 := hr2.ext ((Ext.refl w2).alloc (.cells (objC (.slice none 0 0) (.slice none 0 0) (.slice none 0 0) (zObj 3)).toArray 29))
  have hH45 : H4 < w2.heap.size := block_lt (by assumption : w2.heap[H4]? = _)
  rw [HS1.out] at hr3
  clear hr2
  have c4 : (w2.alloc (.cells (objC (.slice none 0 0) (.slice none 0 0) (.slice none 0 0) (zObj 3)).toArray 29)).cell? ⟨H4, 0, none⟩ = some (.pointer (some ⟨g, 0, none⟩)) := by rw [block_cell b4]; rfl
  have HK0 := Lib.hid hk
  clear hk
  go_wp2_with (first
    | ((with_reducible refine at_store 29 (.tmp 5) (.tmp 16) ?_); refine wpl_store (by rfl) 29 (.tmp 5) (.tmp 16) rfl w2.heap.size (objC (.slice none 0 0) (.slice none 0 0) (.slice none 0 0) (zObj 3)).toArray (by rfl) (by rfl) 29 _ (heap_alloc_new _ _) (by kernel_rfl) (by rfl) (zObj_is w 3 (by omega)).one ?_; rw [World.setRow_alloc_new])
    | fail)
  refine Calls.mono (rdId _ g l s1.1 s1.2 hr3) ?_
  rintro e w3 ⟨rfl, hr3', hg3⟩
  have hr4 : IsRd w3 g l s2.1 s2.2 := by have e : rNext l s1.1 s1.2 32 = s2 := HS2.out; rw [e] at hr3'; exact hr3'
  rw [HTR.out]
  have b5 := grown_other hg3 b5 (by omega)
  have b4 := grown_other hg3 b4 (by omega)
  have bR := grown_other hg3 bR (by omega)
  have X4 : Ext w w3 := X3.grown hg3 (fun k hk => by simp at hk; omega)
  have hz5 : w2.heap.size < w3.heap.size := block_lt b5
  clear hr3 hr3' X3 c4 c50 hg3
  generalize hH5 : w2.heap.size = H5 at *
  have hgs := grown_setCells H5 (tr.map bc) 3 w3
  have b5t := heap_setCells H5 (tr.map bc) 3 w3 _ b5
  rw [obj_tree _ _ _ (zObj 3) tr rfl htl] at b5t
  have hth := there_of b5 3 32 (by rw [(zObj_is w 3 (by omega)).size]; omega)
  have b4t := grown_other hgs b4 (by omega)
  have bRt := grown_other hgs bR (by omega)
  have hr4t := hr4.later hgs (by omega)
  have X5 := X4.grown hgs (fun k hk => by simp at hk; omega)
  have hz5t : H5 < (w3.setCells H5 3 (tr.map bc)).heap.size := block_lt b5t
  have c4t : (w3.setCells H5 3 (tr.map bc)).cell? ⟨H4, 0, none⟩ = some (.pointer (some ⟨g, 0, none⟩)) := by rw [block_cell b4t]; rfl
  have hti := id_size htl
  go_wp2_with (first
    | ((with_reducible refine at_store 25 (.tmp 68) (.tmp 67) ?_); refine wpl_storeMid (by rfl) 25 (.tmp 68) (.tmp 67) rfl H5 3 (tr.map bc).toArray (by rfl) (by rfl) (by simpa [htl] using hth) hti (id_one _) ?_; simp only [List.toList_toArray]; generalize w3.setCells H5 3 (tr.map bc) = w4 at *))
  refine Calls.mono (octetU8 _ g l s2.1 s2.2 hr4t) ?_
  rintro e w5 ⟨rfl, hr5', hg5⟩
  have hr5 : IsRd w5 g l s3.1 s3.2 := by have e : rNext l s2.1 s2.2 1 = s3 := HS3.out; rw [e] at hr5'; exact hr5'
  have hcv : (num (rTake l s2.1 s2.2 1) : Int) = (c : Int) := by have : num (rTake l s2.1 s2.2 1) = c := HC.out; omega
  rw [hcv]
  have b5 := grown_other hg5 b5t (by omega)
  have b4 := grown_other hg5 b4t (by omega)
  have bR := grown_other hg5 bRt (by omega)
  have X6 : Ext w w5 := X5.grown hg5 (fun k hk => by simp at hk; omega)
  have hz6 : H5 < w5.heap.size := block_lt b5
  clear hr5' hg5 hr4t hcv b5t b4t bRt X5 X4 c4t hz5t hth hgs hr4
  go_wp2_with fail
  go_loopg [72] c (fun gg s72 wr => ∃ (i : Nat) (vp : Value), i ≤ c ∧ c - i ≤ gg ∧ s72 = .int .u8 (i : Int) ∧ wr.heap[H5]? = some (.cells (objC (.slice none 0 0) (.slice none 0 0) vp { zObj 3 with tree := tr, pars := (itP l s3 i).1 }).toArray 29 (0, 0)) ∧ wr.ownsRow (H5 + 1) 25 32 vp i ((itP l s3 i).1.flatMap idC) ∧ (itP l s3 i).1.length = i ∧ (∀ p ∈ (itP l s3 i).1, p.length = 32) ∧ IsRd wr g l (itP l s3 i).2.1 (itP l s3 i).2.2 ∧ wr.heap[H4]? = some (.cells #[.pointer (some ⟨g, 0, none⟩)] 60 (0, 0)) ∧ wr.heap[R]? = some (.cells (objC (.slice none 0 0) (.slice none 0 0) (.slice none 0 0) (zObj 0)).toArray 29 (0, 0)) ∧ Ext w wr ∧ H5 < wr.heap.size)
  case atStart => exact ⟨0, .slice none 0 0, Nat.zero_le _, by omega, rfl, b5, World.ownsRow_nil _ _ _ _, rfl, (fun p hp => by cases hp), hr5, b4, bR, X6, hz6⟩
  case round =>
    clear b5 b4 bR X6 hz6 hr5
    obtain ⟨i, vp, hi, hgg, rfl, b5, own, hpl, hp32, hr, b4, bR, xr, hz⟩ := hrel
    have hstep : itP l s3 (i + 1) = ((itP l s3 i).1 ++ [padId (rTake l (itP l s3 i).2.1 (itP l s3 i).2.2 32)], rS l (itP l s3 i).2 32) := rfl
    generalize hit : itP l s3 i = st at *
    have HIT := Lib.hid hit
    clear hit
    obtain ⟨ps, ⟨pa, pe⟩⟩ := st
    obtain ⟨Q, hQ⟩ : ∃ Q, padId (rTake l pa pe 32) = Q := ⟨_, rfl⟩
    have hQl : Q.length = 32 := by rw [← hQ]; exact padId_len (rTake_len l pa pe 32)
    simp only at hpl hp32 hr own b5 hstep
    rw [hQ] at hstep
    have HST := Lib.hid hstep
    have HQ := Lib.hid hQ
    clear hstep hQ
    obtain ⟨ap, cp, rfl⟩ := sl_len (IsSl.of_owns own)
    have ho : ObjOk { zObj 3 with tree := tr, pars := ps } := ⟨by simp [zObj], by simp [zObj], by simp [zObj], by simp [zObj], htl, hp32, by show ps.length ≤ _; omega, by simp [zObj], Nat.zero_le _⟩
    have hat := obj_at b5 rfl ho
    have c35 := hat.c4
    have f35 := block_free b5 35
    have c4 : wr.cell? ⟨H4, 0, none⟩ = some (.pointer (some ⟨g, 0, none⟩)) := by rw [block_cell b4]; rfl
    clear hat
    by_cases hlt : i < c
    · have hltI : (i : Int) < (c : Int) := by omega
      go_wp2_with fail
      refine wp_region_noPanic ?_
      refine wp_region_any (by kernel_rfl) ?_
      refine wpAny_take (i := 0) (v := ?vm01_0) rfl (by kernel_rfl) (by kernel_rfl) (by kernel_rfl) (fun _ _ _ h => h) (Or.inl ⟨by rfl, ?hym01_0⟩) ?_
      case hym01_0 => (intro w; go_simp; try with_reducible rfl)
      simp only [Act.put, List.setIfInBounds_toArray, List.set_cons_zero, List.set_cons_succ, List.getElem_toArray, List.getElem_cons_zero, List.getElem_cons_succ]
      refine wpAny_all (rs := [1, 2]) (by kernel_rfl) (by simp) ?_
      intro i hi; have hi' : i = 1 ∨ i = 2 := by simpa using hi
      clear hi; rcases hi' with rfl | rfl
      · refine wpOp_run rfl (by rfl) ?_
        go_simp
        try simp only [Act.put, List.setIfInBounds_toArray, List.set_cons_zero, List.set_cons_succ, List.getElem_toArray, List.getElem_cons_zero, List.getElem_cons_succ]
        refine wpAny_all (rs := [2]) (by kernel_rfl) (by simp) ?_
        intro i hi; obtain rfl : i = 2 := by simpa using hi
        refine wpOp_run rfl (by rfl) ?_
        go_simp
        try simp only [Act.put, List.setIfInBounds_toArray, List.set_cons_zero, List.set_cons_succ, List.getElem_toArray, List.getElem_cons_zero, List.getElem_cons_succ]
        refine wpAny_all (rs := [3]) (by kernel_rfl) (by simp) ?_
        intro i hi; obtain rfl : i = 3 := by simpa using hi
        refine wpOp_run rfl (by rfl) ?_
        go_simp
        refine Calls.mono (rdId _ g l pa pe (hr.ext ((Ext.refl wr).drew))) ?_
        rintro e w7 ⟨rfl, hr7, hg7⟩
        rw [HQ.out]
        have hg7w : wr.grownBy w7 (some g) := grown_trans (ext_grown ((Ext.refl wr).drew) (some g)) hg7
        have b57 := grown_other hg7w b5 (by omega)
        have b47 := grown_other hg7w b4 (by omega)
        have bR7 := grown_other hg7w bR (by omega)
        have own7 := ownsRow_grown own hg7w (own_ne own (Or.inl (by omega)))
        have c35 := (obj_at b57 rfl ho).c4
        have f35 := block_free b57 35
        have hz7 : H5 < w7.heap.size := block_lt b57
        try simp only [Act.put, List.setIfInBounds_toArray, List.set_cons_zero, List.set_cons_succ, List.getElem_toArray, List.getElem_cons_zero, List.getElem_cons_succ]
        refine wpAny_all (rs := [4]) (by kernel_rfl) (by simp) ?_
        intro i hi; obtain rfl : i = 4 := by simpa using hi
        refine wpOp_run rfl (by rfl) ?_
        have hbl := fun w => build_one (P := Tryd.prog) w 26 25 32 Tryd.underlying26 infoIdS (by omega) (by omega) (Q.map bc) (by simp [hQl])
        refine wp_buildOne 26 (.tmp 77) rfl (Q.map bc) (by rfl) (hbl _) ?_
        try simp only [Act.put, List.setIfInBounds_toArray, List.set_cons_zero, List.set_cons_succ, List.getElem_toArray, List.getElem_cons_zero, List.getElem_cons_succ]
        refine wpAny_all (rs := [5]) (by kernel_rfl) (by simp) ?_
        intro i hi; obtain rfl : i = 5 := by simpa using hi
        refine wpOp_run rfl (by rfl) ?_
        refine wp_appO (w := w7.alloc (.cells (Q.map bc).toArray 25)) tyI (.tmp 75) (.tmp 78) rfl (H5 + 1) (.slice ap i cp) i _ (ownsRow_ext own7 ((Ext.refl w7).alloc _)) (by rfl) _ 1 (Q.map bc) (sl_one_new (w := w7) (n := 32) (e := 25) (Q := Q.map bc) rfl (by simp [hQl])) (by rfl) (bc_one Q) (by omega) (by omega) (by have h := ((Ext.refl w7).alloc (.cells (Q.map bc).toArray 25)).size; omega) ?_
        intro v' w8 own8 gr8
        have hne : (Value.slice ap i cp).ownBlock ≠ some H5 := own_ne own (Or.inl (by omega))
        have hne4 : (Value.slice ap i cp).ownBlock ≠ some H4 := own_ne own (Or.inl (by omega))
        have hneR : (Value.slice ap i cp).ownBlock ≠ some R := own_ne own (Or.inl (by omega))
        have b58 := grown_keep gr8 (blk_old b57) hne
        have b48 := grown_keep gr8 (blk_old b47) hne4
        have bR8 := grown_keep gr8 (blk_old bR7) hneR
        have c358 := (obj_at b58 rfl ho).c4
        have f358 := block_free b58 35
        obtain ⟨ap8, cp8, rfl⟩ := sl_len (IsSl.of_owns own8)
        try simp only [Act.put, List.setIfInBounds_toArray, List.set_cons_zero, List.set_cons_succ, List.getElem_toArray, List.getElem_cons_zero, List.getElem_cons_succ]
        refine wpAny_take (i := 6) (v := ?vm21_6) rfl (by kernel_rfl) (by kernel_rfl) (by kernel_rfl) (fun _ _ _ h => h) (Or.inl ⟨by rfl, ?hym21_6⟩) ?_
        case hym21_6 => (intro w; go_simp; try with_reducible rfl)
        simp only [Act.put, List.setIfInBounds_toArray, List.set_cons_zero, List.set_cons_succ, List.getElem_toArray, List.getElem_cons_zero, List.getElem_cons_succ]
        refine wpAny_all (rs := [7]) (by kernel_rfl) (by simp) ?_
        intro i hi; obtain rfl : i = 7 := by simpa using hi
        refine wpOp_run rfl (by rfl) ?_
        go_simp
        try simp only [Act.put, List.setIfInBounds_toArray, List.set_cons_zero, List.set_cons_succ, List.getElem_toArray, List.getElem_cons_zero, List.getElem_cons_succ]
        refine wpAny_done (by kernel_rfl) ?_ _
        refine NoPanic.normal ?_
        have gr9 := grown_setCell w8 H5 35 (.slice ap8 (i + 1) cp8)
        have b59 := block_setCell b58 (i := 35) (.slice ap8 (i + 1) cp8)
        rw [obj_set35 _ _ _ _ { zObj 3 with tree := tr, pars := ps } (ps ++ [Q]) htl] at b59
        have own9 := ownsRow_grown own8 gr9 (own_ne own8 (Or.inl (by omega)))
        have b49 := grown_other gr9 b48 (by omega)
        have bR9 := grown_other gr9 bR8 (by omega)
        have x78 : Ext w w8 := ((xr.grown hg7w (fun k hk => by simp at hk; omega)).alloc _).grown gr8 (fun k hk => by have := (own.lt k hk).1; omega)
        have x9 := x78.grown gr9 (fun k hk => by simp at hk; omega)
        have hr9 := ((hr7.ext ((Ext.refl w7).alloc _)).own gr8 (fun r hr => by have := (own.lt r hr).1; omega)).later gr9 (by omega)
        have hz9 : H5 < (w8.setCell ⟨H5, 35, none⟩ (.slice ap8 (i + 1) cp8)).heap.size := block_lt b59
        go_wp2_with fail
        go_roundg (c - (i + 1))
        case measure => omega
        case rel =>
          refine ⟨i + 1, .slice ap8 (i + 1) cp8, by omega, by omega, by go_num, ?_, ?_, ?_, ?_, ?_, b49, bR9, x9, hz9⟩
          · rw [HST.out]; exact b59
          · rw [HST.out, List.flatMap_append]; simpa [idC] using own9
          · rw [HST.out]; simp [hpl]
          · rw [HST.out]; intro p hp; rcases List.mem_append.1 hp with h | h
            · exact hp32 p h
            · rw [List.mem_singleton.1 h]; exact hQl
          · rw [HST.out]; exact hr9
      · refine wpOp_run rfl (by rfl) ?_
        go_simp
        try simp only [Act.put, List.setIfInBounds_toArray, List.set_cons_zero, List.set_cons_succ, List.getElem_toArray, List.getElem_cons_zero, List.getElem_cons_succ]
        refine wpAny_all (rs := [1, 3]) (by kernel_rfl) (by simp) ?_
        intro i hi; have hi' : i = 1 ∨ i = 3 := by simpa using hi
        clear hi; rcases hi' with rfl | rfl
        · refine wpOp_run rfl (by rfl) ?_
          go_simp
          try simp only [Act.put, List.setIfInBounds_toArray, List.set_cons_zero, List.set_cons_succ, List.getElem_toArray, List.getElem_cons_zero, List.getElem_cons_succ]
          refine wpAny_all (rs := [3]) (by kernel_rfl) (by simp) ?_
          intro i hi; obtain rfl : i = 3 := by simpa using hi
          refine wpOp_run rfl (by rfl) ?_
          go_simp
          refine Calls.mono (rdId _ g l pa pe (hr.ext ((Ext.refl wr).drew))) ?_
          rintro e w7 ⟨rfl, hr7, hg7⟩
          rw [HQ.out]
          have hg7w : wr.grownBy w7 (some g) := grown_trans (ext_grown ((Ext.refl wr).drew) (some g)) hg7
          have b57 := grown_other hg7w b5 (by omega)
          have b47 := grown_other hg7w b4 (by omega)
          have bR7 := grown_other hg7w bR (by omega)
          have own7 := ownsRow_grown own hg7w (own_ne own (Or.inl (by omega)))
          have c35 := (obj_at b57 rfl ho).c4
          have f35 := block_free b57 35
          have hz7 : H5 < w7.heap.size := block_lt b57
          try simp only [Act.put, List.setIfInBounds_toArray, List.set_cons_zero, List.set_cons_succ, List.getElem_toArray, List.getElem_cons_zero, List.getElem_cons_succ]
          refine wpAny_all (rs := [4]) (by kernel_rfl) (by simp) ?_
          intro i hi; obtain rfl : i = 4 := by simpa using hi
          refine wpOp_run rfl (by rfl) ?_
          have hbl := fun w => build_one (P := Tryd.prog) w 26 25 32 Tryd.underlying26 infoIdS (by omega) (by omega) (Q.map bc) (by simp [hQl])
          refine wp_buildOne 26 (.tmp 77) rfl (Q.map bc) (by rfl) (hbl _) ?_
          try simp only [Act.put, List.setIfInBounds_toArray, List.set_cons_zero, List.set_cons_succ, List.getElem_toArray, List.getElem_cons_zero, List.getElem_cons_succ]
          refine wpAny_all (rs := [5]) (by kernel_rfl) (by simp) ?_
          intro i hi; obtain rfl : i = 5 := by simpa using hi
          refine wpOp_run rfl (by rfl) ?_
          refine wp_appO (w := w7.alloc (.cells (Q.map bc).toArray 25)) tyI (.tmp 75) (.tmp 78) rfl (H5 + 1) (.slice ap i cp) i _ (ownsRow_ext own7 ((Ext.refl w7).alloc _)) (by rfl) _ 1 (Q.map bc) (sl_one_new (w := w7) (n := 32) (e := 25) (Q := Q.map bc) rfl (by simp [hQl])) (by rfl) (bc_one Q) (by omega) (by omega) (by have h := ((Ext.refl w7).alloc (.cells (Q.map bc).toArray 25)).size; omega) ?_
          intro v' w8 own8 gr8
          have hne : (Value.slice ap i cp).ownBlock ≠ some H5 := own_ne own (Or.inl (by omega))
          have hne4 : (Value.slice ap i cp).ownBlock ≠ some H4 := own_ne own (Or.inl (by omega))
          have hneR : (Value.slice ap i cp).ownBlock ≠ some R := own_ne own (Or.inl (by omega))
          have b58 := grown_keep gr8 (blk_old b57) hne
          have b48 := grown_keep gr8 (blk_old b47) hne4
          have bR8 := grown_keep gr8 (blk_old bR7) hneR
          have c358 := (obj_at b58 rfl ho).c4
          have f358 := block_free b58 35
          obtain ⟨ap8, cp8, rfl⟩ := sl_len (IsSl.of_owns own8)
          try simp only [Act.put, List.setIfInBounds_toArray, List.set_cons_zero, List.set_cons_succ, List.getElem_toArray, List.getElem_cons_zero, List.getElem_cons_succ]
          refine wpAny_take (i := 6) (v := ?vm51_6) rfl (by kernel_rfl) (by kernel_rfl) (by kernel_rfl) (fun _ _ _ h => h) (Or.inl ⟨by rfl, ?hym51_6⟩) ?_
          case hym51_6 => (intro w; go_simp; try with_reducible rfl)
          simp only [Act.put, List.setIfInBounds_toArray, List.set_cons_zero, List.set_cons_succ, List.getElem_toArray, List.getElem_cons_zero, List.getElem_cons_succ]
          refine wpAny_all (rs := [7]) (by kernel_rfl) (by simp) ?_
          intro i hi; obtain rfl : i = 7 := by simpa using hi
          refine wpOp_run rfl (by rfl) ?_
          go_simp
          try simp only [Act.put, List.setIfInBounds_toArray, List.set_cons_zero, List.set_cons_succ, List.getElem_toArray, List.getElem_cons_zero, List.getElem_cons_succ]
          refine wpAny_done (by kernel_rfl) ?_ _
          refine NoPanic.normal ?_
          have gr9 := grown_setCell w8 H5 35 (.slice ap8 (i + 1) cp8)
          have b59 := block_setCell b58 (i := 35) (.slice ap8 (i + 1) cp8)
          rw [obj_set35 _ _ _ _ { zObj 3 with tree := tr, pars := ps } (ps ++ [Q]) htl] at b59
          have own9 := ownsRow_grown own8 gr9 (own_ne own8 (Or.inl (by omega)))
          have b49 := grown_other gr9 b48 (by omega)
          have bR9 := grown_other gr9 bR8 (by omega)
          have x78 : Ext w w8 := ((xr.grown hg7w (fun k hk => by simp at hk; omega)).alloc _).grown gr8 (fun k hk => by have := (own.lt k hk).1; omega)
          have x9 := x78.grown gr9 (fun k hk => by simp at hk; omega)
          have hr9 := ((hr7.ext ((Ext.refl w7).alloc _)).own gr8 (fun r hr => by have := (own.lt r hr).1; omega)).later gr9 (by omega)
          have hz9 : H5 < (w8.setCell ⟨H5, 35, none⟩ (.slice ap8 (i + 1) cp8)).heap.size := block_lt b59
          go_wp2_with fail
          go_roundg (c - (i + 1))
          case measure => omega
          case rel =>
            refine ⟨i + 1, .slice ap8 (i + 1) cp8, by omega, by omega, by go_num, ?_, ?_, ?_, ?_, ?_, b49, bR9, x9, hz9⟩
            · rw [HST.out]; exact b59
            · rw [HST.out, List.flatMap_append]; simpa [idC] using own9
            · rw [HST.out]; simp [hpl]
            · rw [HST.out]; intro p hp; rcases List.mem_append.1 hp with h | h
              · exact hp32 p h
              · rw [List.mem_singleton.1 h]; exact hQl
            · rw [HST.out]; exact hr9
        · refine wpOp_run rfl (by rfl) ?_
          go_simp
          refine Calls.mono (rdId _ g l pa pe (hr.ext ((Ext.refl wr).drew))) ?_
          rintro e w7 ⟨rfl, hr7, hg7⟩
          rw [HQ.out]
          have hg7w : wr.grownBy w7 (some g) := grown_trans (ext_grown ((Ext.refl wr).drew) (some g)) hg7
          have b57 := grown_other hg7w b5 (by omega)
          have b47 := grown_other hg7w b4 (by omega)
          have bR7 := grown_other hg7w bR (by omega)
          have own7 := ownsRow_grown own hg7w (own_ne own (Or.inl (by omega)))
          have c35 := (obj_at b57 rfl ho).c4
          have f35 := block_free b57 35
          have hz7 : H5 < w7.heap.size := block_lt b57
          try simp only [Act.put, List.setIfInBounds_toArray, List.set_cons_zero, List.set_cons_succ, List.getElem_toArray, List.getElem_cons_zero, List.getElem_cons_succ]
          refine wpAny_all (rs := [1, 4]) (by kernel_rfl) (by simp) ?_
          intro i hi; have hi' : i = 1 ∨ i = 4 := by simpa using hi
          clear hi; rcases hi' with rfl | rfl
          · refine wpOp_run rfl (by rfl) ?_
            go_simp
            try simp only [Act.put, List.setIfInBounds_toArray, List.set_cons_zero, List.set_cons_succ, List.getElem_toArray, List.getElem_cons_zero, List.getElem_cons_succ]
            refine wpAny_all (rs := [4]) (by kernel_rfl) (by simp) ?_
            intro i hi; obtain rfl : i = 4 := by simpa using hi
            refine wpOp_run rfl (by rfl) ?_
            have hbl := fun w => build_one (P := Tryd.prog) w 26 25 32 Tryd.underlying26 infoIdS (by omega) (by omega) (Q.map bc) (by simp [hQl])
            refine wp_buildOne 26 (.tmp 77) rfl (Q.map bc) (by rfl) (hbl _) ?_
            try simp only [Act.put, List.setIfInBounds_toArray, List.set_cons_zero, List.set_cons_succ, List.getElem_toArray, List.getElem_cons_zero, List.getElem_cons_succ]
            refine wpAny_all (rs := [5]) (by kernel_rfl) (by simp) ?_
            intro i hi; obtain rfl : i = 5 := by simpa using hi
            refine wpOp_run rfl (by rfl) ?_
            refine wp_appO (w := w7.alloc (.cells (Q.map bc).toArray 25)) tyI (.tmp 75) (.tmp 78) rfl (H5 + 1) (.slice ap i cp) i _ (ownsRow_ext own7 ((Ext.refl w7).alloc _)) (by rfl) _ 1 (Q.map bc) (sl_one_new (w := w7) (n := 32) (e := 25) (Q := Q.map bc) rfl (by simp [hQl])) (by rfl) (bc_one Q) (by omega) (by omega) (by have h := ((Ext.refl w7).alloc (.cells (Q.map bc).toArray 25)).size; omega) ?_
            intro v' w8 own8 gr8
            have hne : (Value.slice ap i cp).ownBlock ≠ some H5 := own_ne own (Or.inl (by omega))
            have hne4 : (Value.slice ap i cp).ownBlock ≠ some H4 := own_ne own (Or.inl (by omega))
            have hneR : (Value.slice ap i cp).ownBlock ≠ some R := own_ne own (Or.inl (by omega))
            have b58 := grown_keep gr8 (blk_old b57) hne
            have b48 := grown_keep gr8 (blk_old b47) hne4
            have bR8 := grown_keep gr8 (blk_old bR7) hneR
            have c358 := (obj_at b58 rfl ho).c4
            have f358 := block_free b58 35
            obtain ⟨ap8, cp8, rfl⟩ := sl_len (IsSl.of_owns own8)
            try simp only [Act.put, List.setIfInBounds_toArray, List.set_cons_zero, List.set_cons_succ, List.getElem_toArray, List.getElem_cons_zero, List.getElem_cons_succ]
            refine wpAny_take (i := 6) (v := ?vm81_6) rfl (by kernel_rfl) (by kernel_rfl) (by kernel_rfl) (fun _ _ _ h => h) (Or.inl ⟨by rfl, ?hym81_6⟩) ?_
            case hym81_6 => (intro w; go_simp; try with_reducible rfl)
            simp only [Act.put, List.setIfInBounds_toArray, List.set_cons_zero, List.set_cons_succ, List.getElem_toArray, List.getElem_cons_zero, List.getElem_cons_succ]
            refine wpAny_all (rs := [7]) (by kernel_rfl) (by simp) ?_
            intro i hi; obtain rfl : i = 7 := by simpa using hi
            refine wpOp_run rfl (by rfl) ?_
            go_simp
            try simp only [Act.put, List.setIfInBounds_toArray, List.set_cons_zero, List.set_cons_succ, List.getElem_toArray, List.getElem_cons_zero, List.getElem_cons_succ]
            refine wpAny_done (by kernel_rfl) ?_ _
            refine NoPanic.normal ?_
            have gr9 := grown_setCell w8 H5 35 (.slice ap8 (i + 1) cp8)
            have b59 := block_setCell b58 (i := 35) (.slice ap8 (i + 1) cp8)
            rw [obj_set35 _ _ _ _ { zObj 3 with tree := tr, pars := ps } (ps ++ [Q]) htl] at b59
            have own9 := ownsRow_grown own8 gr9 (own_ne own8 (Or.inl (by omega)))
            have b49 := grown_other gr9 b48 (by omega)
            have bR9 := grown_other gr9 bR8 (by omega)
            have x78 : Ext w w8 := ((xr.grown hg7w (fun k hk => by simp at hk; omega)).alloc _).grown gr8 (fun k hk => by have := (own.lt k hk).1; omega)
            have x9 := x78.grown gr9 (fun k hk => by simp at hk; omega)
            have hr9 := ((hr7.ext ((Ext.refl w7).alloc _)).own gr8 (fun r hr => by have := (own.lt r hr).1; omega)).later gr9 (by omega)
            have hz9 : H5 < (w8.setCell ⟨H5, 35, none⟩ (.slice ap8 (i + 1) cp8)).heap.size := block_lt b59
            go_wp2_with fail
            go_roundg (c - (i + 1))
            case measure => omega
            case rel =>
              refine ⟨i + 1, .slice ap8 (i + 1) cp8, by omega, by omega, by go_num, ?_, ?_, ?_, ?_, ?_, b49, bR9, x9, hz9⟩
              · rw [HST.out]; exact b59
              · rw [HST.out, List.flatMap_append]; simpa [idC] using own9
              · rw [HST.out]; simp [hpl]
              · rw [HST.out]; intro p hp; rcases List.mem_append.1 hp with h | h
                · exact hp32 p h
                · rw [List.mem_singleton.1 h]; exact hQl
              · rw [HST.out]; exact hr9
          · refine wpOp_run rfl (by rfl) ?_
            have hbl := fun w => build_one (P := Tryd.prog) w 26 25 32 Tryd.underlying26 infoIdS (by omega) (by omega) (Q.map bc) (by simp [hQl])
            refine wp_buildOne 26 (.tmp 77) rfl (Q.map bc) (by rfl) (hbl _) ?_
            try simp only [Act.put, List.setIfInBounds_toArray, List.set_cons_zero, List.set_cons_succ, List.getElem_toArray, List.getElem_cons_zero, List.getElem_cons_succ]
            refine wpAny_all (rs := [1]) (by kernel_rfl) (by simp) ?_
            intro i hi; obtain rfl : i = 1 := by simpa using hi
            refine wpOp_run rfl (by rfl) ?_
            go_simp
            try simp only [Act.put, List.setIfInBounds_toArray, List.set_cons_zero, List.set_cons_succ, List.getElem_toArray, List.getElem_cons_zero, List.getElem_cons_succ]
            refine wpAny_all (rs := [5]) (by kernel_rfl) (by simp) ?_
            intro i hi; obtain rfl : i = 5 := by simpa using hi
            refine wpOp_run rfl (by rfl) ?_
            refine wp_appO (w := w7.alloc (.cells (Q.map bc).toArray 25)) tyI (.tmp 75) (.tmp 78) rfl (H5 + 1) (.slice ap i cp) i _ (ownsRow_ext own7 ((Ext.refl w7).alloc _)) (by rfl) _ 1 (Q.map bc) (sl_one_new (w := w7) (n := 32) (e := 25) (Q := Q.map bc) rfl (by simp [hQl])) (by rfl) (bc_one Q) (by omega) (by omega) (by have h := ((Ext.refl w7).alloc (.cells (Q.map bc).toArray 25)).size; omega) ?_
            intro v' w8 own8 gr8
            have hne : (Value.slice ap i cp).ownBlock ≠ some H5 := own_ne own (Or.inl (by omega))
            have hne4 : (Value.slice ap i cp).ownBlock ≠ some H4 := own_ne own (Or.inl (by omega))
            have hneR : (Value.slice ap i cp).ownBlock ≠ some R := own_ne own (Or.inl (by omega))
            have b58 := grown_keep gr8 (blk_old b57) hne
            have b48 := grown_keep gr8 (blk_old b47) hne4
            have bR8 := grown_keep gr8 (blk_old bR7) hneR
            have c358 := (obj_at b58 rfl ho).c4
            have f358 := block_free b58 35
            obtain ⟨ap8, cp8, rfl⟩ := sl_len (IsSl.of_owns own8)
            try simp only [Act.put, List.setIfInBounds_toArray, List.set_cons_zero, List.set_cons_succ, List.getElem_toArray, List.getElem_cons_zero, List.getElem_cons_succ]
            refine wpAny_take (i := 6) (v := ?vm101_6) rfl (by kernel_rfl) (by kernel_rfl) (by kernel_rfl) (fun _ _ _ h => h) (Or.inl ⟨by rfl, ?hym101_6⟩) ?_
            case hym101_6 => (intro w; go_simp; try with_reducible rfl)
            simp only [Act.put, List.setIfInBounds_toArray, List.set_cons_zero, List.set_cons_succ, List.getElem_toArray, List.getElem_cons_zero, List.getElem_cons_succ]
            refine wpAny_all (rs := [7]) (by kernel_rfl) (by simp) ?_
            intro i hi; obtain rfl : i = 7 := by simpa using hi
            refine wpOp_run rfl (by rfl) ?_
            go_simp
            try simp only [Act.put, List.setIfInBounds_toArray, List.set_cons_zero, List.set_cons_succ, List.getElem_toArray, List.getElem_cons_zero, List.getElem_cons_succ]
            refine wpAny_done (by kernel_rfl) ?_ _
            refine NoPanic.normal ?_
            have gr9 := grown_setCell w8 H5 35 (.slice ap8 (i + 1) cp8)
            have b59 := block_setCell b58 (i := 35) (.slice ap8 (i + 1) cp8)
            rw [obj_set35 _ _ _ _ { zObj 3 with tree := tr, pars := ps } (ps ++ [Q]) htl] at b59
            have own9 := ownsRow_grown own8 gr9 (own_ne own8 (Or.inl (by omega)))
            have b49 := grown_other gr9 b48 (by omega)
            have bR9 := grown_other gr9 bR8 (by omega)
            have x78 : Ext w w8 := ((xr.grown hg7w (fun k hk => by simp at hk; omega)).alloc _).grown gr8 (fun k hk => by have := (own.lt k hk).1; omega)
            have x9 := x78.grown gr9 (fun k hk => by simp at hk; omega)
            have hr9 := ((hr7.ext ((Ext.refl w7).alloc _)).own gr8 (fun r hr => by have := (own.lt r hr).1; omega)).later gr9 (by omega)
            have hz9 : H5 < (w8.setCell ⟨H5, 35, none⟩ (.slice ap8 (i + 1) cp8)).heap.size := block_lt b59
            go_wp2_with fail
            go_roundg (c - (i + 1))
            case measure => omega
            case rel =>
              refine ⟨i + 1, .slice ap8 (i + 1) cp8, by omega, by omega, by go_num, ?_, ?_, ?_, ?_, ?_, b49, bR9, x9, hz9⟩
              · rw [HST.out]; exact b59
              · rw [HST.out, List.flatMap_append]; simpa [idC] using own9
              · rw [HST.out]; simp [hpl]
              · rw [HST.out]; intro p hp; rcases List.mem_append.1 hp with h | h
                · exact hp32 p h
                · rw [List.mem_singleton.1 h]; exact hQl
              · rw [HST.out]; exact hr9
    · obtain ⟨nm, hnm⟩ : ∃ n : Nat, num (rTake l pa pe 4) = n := ⟨_, rfl⟩
      have hnm32 : nm < 4294967296 := by rw [← hnm]; have := num_small (rTake l pa pe 4) 4 (by simpa using rTake_len l pa pe 4); omega
      obtain ⟨⟨p6, e6⟩, hs6⟩ : ∃ s : St, rS l (pa, pe) 4 = s := ⟨_, rfl⟩
      obtain ⟨nt, hnt⟩ : ∃ t, tTake l p6 e6 = t := ⟨_, rfl⟩
      obtain ⟨st, hst⟩ : ∃ s : St, tNext l p6 e6 = s := ⟨_, rfl⟩
      have HNM := Lib.hid hnm
      have HS6 := Lib.hid hs6
      have HNT := Lib.hid hnt
      have HST6 := Lib.hid hst
      clear hnm hs6 hnt hst
      have hic : i = c := by omega
      have HIC := Lib.hid hic
      have hii : ¬ (i : Int) < (c : Int) := by omega
      clear hic hlt
      go_wp2_with fail
      refine Calls.mono (octetU32 _ g l pa pe hr) ?_
      rintro e w6 ⟨rfl, hr6', hg6⟩
      have hr6 : IsRd w6 g l p6 e6 := by have e : rNext l pa pe 4 = (p6, e6) := HS6.out; rw [e] at hr6'; exact hr6'
      rw [HNM.out]
      have b5 := grown_other hg6 b5 (by omega)
      have b4 := grown_other hg6 b4 (by omega)
      have bR := grown_other hg6 bR (by omega)
      have own := ownsRow_grown own hg6 (own_ne own (Or.inl (by omega)))
      have x6 : Ext w w6 := xr.grown hg6 (fun k hk => by simp at hk; omega)
      have c36 := (obj_at b5 rfl ho).c5
      have f36 := block_free b5 36
      have c4 : w6.cell? ⟨H4, 0, none⟩ = some (.pointer (some ⟨g, 0, none⟩)) := by rw [block_cell b4]; rfl
      have gr7 := grown_setCell w6 H5 36 (.int .u32 (nm : Int))
      have b57 := block_setCell b5 (i := 36) (.int .u32 (nm : Int))
      rw [obj_set36 _ _ _ { zObj 3 with tree := tr, pars := ps } nm htl] at b57
      have b47 := grown_other gr7 b4 (by omega)
      have bR7 := grown_other gr7 bR (by omega)
      have own7 := ownsRow_grown own gr7 (own_ne own (Or.inl (by omega)))
      have hr7 := hr6.later gr7 (by omega)
      have x7 := x6.grown gr7 (fun k hk => by simp at hk; omega)
      have c47 : (w6.setCell ⟨H5, 36, none⟩ (.int .u32 (nm : Int))).cell? ⟨H4, 0, none⟩ = some (.pointer (some ⟨g, 0, none⟩)) := by rw [block_cell b47]; rfl
      have hst36 : (Instr.storeAt 27 (.pointer (some ⟨H5, 36, none⟩)) (.int .u32 (nm : Int))).run Tryd.prog w6 = .ok () (w6.setCell ⟨H5, 36, none⟩ (.int .u32 (nm : Int))) := by go_simp
      clear hr6' hr hg6 c35 f35 c36 f36 c4
      go_wp2_with (first
        | ((with_reducible refine at_store 27 (.tmp 85) (.tmp 84) ?_); refine wpl_stored (by rfl) 27 (.tmp 85) (.tmp 84) rfl _ _ (by rfl) (by rfl) hst36 ?_; generalize w6.setCell ⟨H5, 36, none⟩ (.int .u32 (nm : Int)) = w7 at *))
      refine Calls.mono (rdText _ g l p6 e6 hr7) ?_
      rintro e w8 ⟨rfl, hr8', hg8⟩
      have hr8 : IsRd w8 g l st.1 st.2 := by have e : tNext l p6 e6 = st := HST6.out; rw [e] at hr8'; exact hr8'
      rw [HNT.out]
      have ho3 : ObjOk { zObj 3 with tree := tr, pars := ps, num := nm } := ⟨by simp [zObj], by simp [zObj], by simp [zObj], by simp [zObj], htl, hp32, by show ps.length ≤ _; omega, hnm32, Nat.zero_le _⟩
      have b58 := grown_other hg8 b57 (by omega)
      have b48 := grown_other hg8 b47 (by omega)
      have bR8 := grown_other hg8 bR7 (by omega)
      have own8 := ownsRow_grown own7 hg8 (own_ne own7 (Or.inl (by omega)))
      have x8 : Ext w w8 := x7.grown hg8 (fun k hk => by simp at hk; omega)
      have c37 := (obj_at b58 rfl ho3).c6
      have f37 := block_free b58 37
      have hst37 : (Instr.storeAt 9 (.pointer (some ⟨H5, 37, none⟩)) (.string ⟨nt.toArray⟩)).run Tryd.prog w8 = .ok () (w8.setCell ⟨H5, 37, none⟩ (.string ⟨nt.toArray⟩)) := by go_simp
      have gr9 := grown_setCell w8 H5 37 (.string ⟨nt.toArray⟩)
      have b5E := block_setCell b58 (i := 37) (.string ⟨nt.toArray⟩)
      rw [obj_set37 _ _ _ { zObj 3 with tree := tr, pars := ps, num := nm } ⟨nt.toArray⟩ htl] at b5E
      have b4E := grown_other gr9 b48 (by omega)
      have bRE := grown_other gr9 bR8 (by omega)
      have ownE := ownsRow_grown own8 gr9 (own_ne own8 (Or.inl (by omega)))
      have hrE := hr8.later gr9 (by omega)
      have XE := x8.grown gr9 (fun k hk => by simp at hk; omega)
      have hntl : nt.length ≤ 140737488355328 := by rw [← HNT.out]; exact Nat.le_trans (rTake_le _ _ _ _) hb
      have hoE : ObjOk { zObj 3 with tree := tr, pars := ps, num := nm, note := ⟨nt.toArray⟩ } := ⟨by simp [zObj], by simp [zObj], by simp [zObj], by simp [zObj], htl, hp32, by show ps.length ≤ _; omega, hnm32, hntl⟩
      have hO : IsObj (w8.setCell ⟨H5, 37, none⟩ (.string ⟨nt.toArray⟩)) (objC (.slice none 0 0) (.slice none 0 0) (.slice ap i cp) { zObj 3 with tree := tr, pars := ps, num := nm, note := ⟨nt.toArray⟩ }).toArray (.slice none 0 0) (.slice none 0 0) (.slice ap i cp) { zObj 3 with tree := tr, pars := ps, num := nm, note := ⟨nt.toArray⟩ } :=
        ⟨rfl, hoE, IsB.nil _, IsSl.nil _ _, by have h := IsSl.of_owns ownE; rw [← hpl] at h; rw [← hpl]; exact h⟩
      have hvp : Off (.slice ap i cp) R := Off.own ownE (by omega)
      have hvb : Off (.slice none 0 0) R := Off.nil _ _ _
      have hve := hvb
      have hHD : decP l = (if st.2 ≠ 0 then (zObj 0, 7) else if ((l.length : Int) - st.1 > 0 || !true || !checkB { zObj 3 with tree := tr, pars := ps, num := nm, note := ⟨nt.toArray⟩ }) = true then (zObj 0, 150) else ({ zObj 3 with tree := tr, pars := ps, num := nm, note := ⟨nt.toArray⟩ }, 0)) := by
        have hr : readP l = ({ zObj 3 with tree := tr, pars := ps, num := nm, note := ⟨nt.toArray⟩ }, st, true) := by
          have hit := HIT.out
          rw [HIC.out] at hit
          have h1 : rN l (pa, pe) 4 = nm := HNM.out
          unfold readP
          simp only [HK0.out, HS1.out, HS2.out, HC.out, HS3.out, hit, h1, HS6.out, HNT.out, HST6.out, HTR.out]
          rfl
        unfold decP
        simp only [HK0.out, hr]
        rw [if_neg (by simp)]
      have HDP := Lib.hid hHD
      clear hHD hr8' hg8 hst36 c37 f37 b57 b47 bR7 own7 hr7 x7 c47 ho3 gr7
      generalize hoo : ({ zObj 3 with tree := tr, pars := ps, num := nm, note := ⟨nt.toArray⟩ } : ObjL) = o at *
      have HOO := Lib.hid hoo
      clear hoo
      generalize hvpp : Value.slice ap i cp = vp at *
      have HVP := Lib.hid hvpp
      clear hvpp
      generalize (objC (.slice none 0 0) (.slice none 0 0) vp o).toArray = QO at *
      go_wp2_with (first
        | ((with_reducible refine at_store 9 (.tmp 88) (.tmp 87) ?_); refine wpl_stored (by rfl) 9 (.tmp 88) (.tmp 87) rfl _ _ (by rfl) (by rfl) hst37 ?_; generalize w8.setCell ⟨H5, 37, none⟩ (.string ⟨nt.toArray⟩) = wE at *; have c4 : wE.cell? ⟨H4, 0, none⟩ = some (.pointer (some ⟨g, 0, none⟩)) := (by rw [block_cell b4E]; rfl)))
      by_cases he : st.2 = 0
      rotate_left
      · have hE : (st.2 != 0) = true := by simpa using he
        have hd : decP l = (zObj 0, 7) := by rw [HDP.out, if_pos he]
        have HD := Lib.hid hd
        have bX := bRE
        have c4 : wE.cell? ⟨H4, 0, none⟩ = some (.pointer (some ⟨g, 0, none⟩)) := by rw [block_cell b4E]; rfl
        clear hd he
        go_wp2_with (first
          | (go_at_call 34; refine Calls.mono (octetErr _ g l st.1 st.2 hrE) ?_; rintro e we ⟨rfl, rfl⟩)
          | ((with_reducible refine at_store 29 (.tmp 2) (.tmp 99) ?_); refine wpl_store (by rfl) 29 (.tmp 2) (.tmp 99) rfl R (objC (.slice none 0 0) (.slice none 0 0) (.slice none 0 0) (zObj 0)).toArray (by rfl) (by rfl) 29 _ bX (by kernel_rfl) (by rfl) (zObj_is w 0 (by omega)).one ?_))
        have hfin : (wE.setRow R (objC (.slice none 0 0) (.slice none 0 0) (.slice none 0 0) (zObj 0)).toArray).heap[R]? = some (.cells (objC (.slice none 0 0) (.slice none 0 0) (.slice none 0 0) (zObj 0)).toArray 29 (0, 0)) := setRow_heap _ _ _ _ _ _ bX
        refine bodyPost_ret (results_cell_tmp rfl _ _ R _ _ _ _ (by rfl) hfin Tryd.underlying29 rfl (by kernel_rfl)) rfl ⟨(objC (.slice none 0 0) (.slice none 0 0) (.slice none 0 0) (zObj 0)).toArray, .slice none 0 0, .slice none 0 0, .slice none 0 0, ?_, ?_, XE.grown grown_setRow' (fun k hk => by simp at hk; omega)⟩
        · rw [HD.out]; rfl
        · rw [HD.out]; exact zObj_is _ 0 (by omega)
      have hrE0 := hrE
      obtain ⟨pa, pe⟩ := st
      simp only at he hrE hrE0
      subst he
      have c4 : wE.cell? ⟨H4, 0, none⟩ = some (.pointer (some ⟨g, 0, none⟩)) := by rw [block_cell b4E]; rfl
      have hpl : pa ≤ l.length := hrE.le
      have hdp := HDP.out
      rw [if_neg (by simp)] at hdp
      have HDP2 := Lib.hid hdp
      clear hdp HDP
      cases hA : decide ((l.length : Int) - pa > 0) with
      | true =>
        have hA1 : (0 : Int) < (l.length : Int) - pa := of_decide_eq_true hA
        obtain ⟨z, hz⟩ : ∃ z, (l.length : Int) - pa = z := ⟨_, rfl⟩
        have hLeft := octetLeft wE g l pa 0 hrE
        rw [hz] at hLeft hA1
        clear hz
        have hd : decP l = (zObj 0, 150) := by rw [HDP2.out, if_pos (by simp only [hA, Bool.true_or])]
        have HD := Lib.hid hd
        clear hd hA
        have bX := toExtKeep bRE
        go_wp2_with (first
          | (go_at_call 34; refine Calls.mono (octetErr _ g l pa 0 hrE) ?_; rintro e we ⟨rfl, rfl⟩)
          | (go_at_call 35; refine Calls.mono hLeft ?_; rintro e we ⟨rfl, q, rfl⟩; have bX := bX q)
          | ((with_reducible refine at_store 29 (.tmp 2) (.tmp 114) ?_); refine wpl_store (by rfl) 29 (.tmp 2) (.tmp 114) rfl R (objC (.slice none 0 0) (.slice none 0 0) (.slice none 0 0) (zObj 0)).toArray (by rfl) (by rfl) 29 _ bX (by kernel_rfl) (by rfl) (zObj_is w 0 (by omega)).one ?_))
        have hfin : ((wE.drewN q).setRow R (objC (.slice none 0 0) (.slice none 0 0) (.slice none 0 0) (zObj 0)).toArray).heap[R]? = some (.cells (objC (.slice none 0 0) (.slice none 0 0) (.slice none 0 0) (zObj 0)).toArray 29 (0, 0)) := setRow_heap _ _ _ _ _ _ bX
        refine bodyPost_ret (results_cell_tmp rfl _ _ R _ _ _ _ (by rfl) hfin Tryd.underlying29 rfl (by kernel_rfl)) rfl ⟨(objC (.slice none 0 0) (.slice none 0 0) (.slice none 0 0) (zObj 0)).toArray, .slice none 0 0, .slice none 0 0, .slice none 0 0, ?_, ?_, (XE.drewN q).grown grown_setRow' (fun k hk => by simp at hk; omega)⟩
        · rw [HD.out]; rfl
        · rw [HD.out]; exact zObj_is _ 0 (by omega)
      | false =>
        have hA1 : ¬ (0 : Int) < (l.length : Int) - pa := of_decide_eq_false hA
        obtain ⟨z, hz⟩ : ∃ z, (l.length : Int) - pa = z := ⟨_, rfl⟩
        have hLeft := octetLeft wE g l pa 0 hrE
        have HA1 := Lib.hid hA1
        rw [hz] at hLeft hA1
        have hA2 : decide ((0 : Int) < z) = false := decide_eq_false hA1
        clear hz hA1
        cases hC : checkB o with
        | false =>
          have hd : decP l = (zObj 0, 150) := by rw [HDP2.out, if_pos (by simp [hC])]
          have HD := Lib.hid hd
          clear hd hA
          have bX := toExtKeep bRE
          go_wp2_with (first
            | (go_at_call 34; refine Calls.mono (octetErr _ g l pa 0 hrE) ?_; rintro e we ⟨rfl, rfl⟩)
            | (go_at_call 35; refine Calls.mono hLeft ?_; rintro e we ⟨rfl, q, rfl⟩; have bX := bX q; have b5q := toExtKeep b5E q; have hOq := hO.ext ((Ext.refl wE).drewN q); have XE := XE.drewN q)
            | ((with_reducible refine at_load 29 (.tmp 5) ?_); refine wpl_load (by rfl) 29 (.tmp 5) rfl H5 (by rfl) 29 QO (0, 0) _ b5q Tryd.underlying29 rfl hO.info ?_)
            | (go_at_call 11; refine Calls.mono (objCheck _ QO (.slice none 0 0) (.slice none 0 0) vp o hOq) ?_; rintro e wc ⟨rfl, xc⟩; rw [hC]; have bX := xc.keeps bX; have XE := XE.trans xc)
            | ((with_reducible refine at_store 29 (.tmp 2) (.tmp 114) ?_); refine wpl_store (by rfl) 29 (.tmp 2) (.tmp 114) rfl R (objC (.slice none 0 0) (.slice none 0 0) (.slice none 0 0) (zObj 0)).toArray (by rfl) (by rfl) 29 _ bX (by kernel_rfl) (by rfl) (zObj_is w 0 (by omega)).one ?_))
          have hfin : (wc.setRow R (objC (.slice none 0 0) (.slice none 0 0) (.slice none 0 0) (zObj 0)).toArray).heap[R]? = some (.cells (objC (.slice none 0 0) (.slice none 0 0) (.slice none 0 0) (zObj 0)).toArray 29 (0, 0)) := setRow_heap _ _ _ _ _ _ bX
          refine bodyPost_ret (results_cell_tmp rfl _ _ R _ _ _ _ (by rfl) hfin Tryd.underlying29 rfl (by kernel_rfl)) rfl ⟨(objC (.slice none 0 0) (.slice none 0 0) (.slice none 0 0) (zObj 0)).toArray, .slice none 0 0, .slice none 0 0, .slice none 0 0, ?_, ?_, XE.grown grown_setRow' (fun k hk => by simp at hk; omega)⟩
          · rw [HD.out]; rfl
          · rw [HD.out]; exact zObj_is _ 0 (by omega)
        | true =>
          have hd : decP l = (o, 0) := by rw [HDP2.out, if_neg (by simp [hC]; have := HA1.out; omega)]
          have HD := Lib.hid hd
          clear hd hA
          have bX := toExtKeep bRE
          go_wp2_with (first
            | (go_at_call 34; refine Calls.mono (octetErr _ g l pa 0 hrE) ?_; rintro e we ⟨rfl, rfl⟩)
            | (go_at_call 35; refine Calls.mono hLeft ?_; rintro e we ⟨rfl, q, rfl⟩; have bX := bX q; have b5q := toExtKeep b5E q; have hOq := hO.ext ((Ext.refl wE).drewN q); have XE := XE.drewN q)
            | ((with_reducible refine at_load 29 (.tmp 5) ?_); refine wpl_load (by rfl) 29 (.tmp 5) rfl H5 (by rfl) 29 QO (0, 0) _ b5q Tryd.underlying29 rfl hO.info ?_)
            | (go_at_call 11; refine Calls.mono (objCheck _ QO (.slice none 0 0) (.slice none 0 0) vp o hOq) ?_; rintro e wc ⟨rfl, xc⟩; rw [hC]; have bX := xc.keeps bX; have b5q := xc.keeps b5q; have hOc := hOq.ext xc; have XE := XE.trans xc)
            | ((with_reducible refine at_store 29 (.tmp 2) (.tmp 115) ?_); refine wpl_store (by rfl) 29 (.tmp 2) (.tmp 115) rfl R QO (by rfl) (by rfl) 29 _ bX hO.info (by rw [hO.size]; rfl) hO.one ?_))
          have hfin : (wc.setRow R QO).heap[R]? = some (.cells QO 29 (0, 0)) := setRow_heap _ _ _ _ _ _ bX
          refine bodyPost_ret (results_cell_tmp rfl _ _ R _ _ _ _ (by rfl) hfin Tryd.underlying29 rfl hO.info) rfl ⟨QO, (.slice none 0 0), (.slice none 0 0), vp, ?_, ?_, XE.grown grown_setRow' (fun k hk => by simp at hk; omega)⟩
          · rw [HD.out]; rfl
          · rw [HD.out]
            exact ⟨hOc.eq, hOc.ok, hOc.vb.other grown_setRow' hvb, hOc.ve.other grown_setRow' hve, hOc.vp.other grown_setRow' hvp⟩
end Go.Proofs.YtcdlmappcbbacaaDoor
