/- object.Decode: a folder. -/
import Derived.Test.YtcdlmappcbbacaaDoorObM
namespace Go.Proofs.YtcdlmappcbbacaaDoor
open Go.RowKit
set_option linter.unusedVariables false
set_option linter.unusedSimpArgs false

theorem at_build1 (t : TypeId) (x : Operand) {ops : Array Oper} {rest : List Oper} {dst : Option Tmp} {ty : TypeId} {pos : String} {after : Array Edge} {gd : Option (Nat × Bool)} {a : Act} {w : World} {P : Program} {Q : Exit → Act → World → Prop}
    (h : wpList P ops Q ({ dst := dst, op := .buildSlice t 1 #[(0, x)], type := ty, pos := pos, after := after, guard := gd } :: rest) a w) : wpList P ops Q ({ dst := dst, op := .buildSlice t 1 #[(0, x)], type := ty, pos := pos, after := after, guard := gd } :: rest) a w := h
theorem wpl_buildOne {P : Program} {ops : Array Oper} {rest : List Oper} {o : Oper} {a : Act} {w : World} {Q' : Exit → Act → World → Prop} (hgd : Region.wanted o (yielded ops a.tmps) = true) (t : TypeId) (x : Operand) (ho : o.op = .buildSlice t 1 #[(0, x)]) (Q : List Value) (hx : a.eval x = .agg Q.toArray)
    {v : Value} {w' : World} (hr : (Instr.buildSlice t 1 #[(0, .agg Q.toArray)]).run P w = .ok v w') (h : wpList P ops Q' rest (a.put o.dst v) w') : wpList P ops Q' (o :: rest) a w :=
  wpList_wanted hgd fun K hK => wp_buildOne t x ho Q hx hr (hK _ _ h)
theorem ent_set1 (e : EntL) (b : Bool) : (entC e).toArray.setIfInBounds 1 (.bool b) = (entC { e with folder := b }).toArray := by simp [entC]
theorem ent_setId (e : EntL) (t : List UInt8) (h : e.id.length = 32) (ht : t.length = 32) : setFrom (entC e).toArray 2 (t.map bc) = (entC { e with id := t }).toArray := by
  have := setFrom_mid (t.map bc) (e.id.map bc) [.string e.name, .bool e.folder] [] (by simp [h, ht])
  simpa [entC] using this

set_option maxHeartbeats 8000000 in
set_option maxRecDepth 100000 in
theorem objDecode2 (w : World) (v : Value) (l : List UInt8) (h : IsB w v l) (hb : l.length ≤ 140737488355328) (hk : rN l (0, 0) 1 = 2) :
    Calls Tryd.prog 15 #[v] w (DecEnd (decP l) w) := by
  obtain ⟨s1, hs1⟩ : ∃ s, rS l (0, 0) 1 = s := ⟨_, rfl⟩
  obtain ⟨c, hc⟩ : ∃ n : Nat, rN l s1 1 = n := ⟨_, rfl⟩
  have hc256 : c < 256 := by rw [← hc]; have := num_small (rTake l s1.1 s1.2 1) 1 (by simpa using rTake_len l s1.1 s1.2 1); unfold rN; omega
  obtain ⟨s3, hs3⟩ : ∃ s, rS l s1 1 = s := ⟨_, rfl⟩
  have HS3 := Lib.hid hs3
  have HC := Lib.hid hc
  have HS1 := Lib.hid hs1
  clear hs3 hc hs1
  have hzi : (Tryd.prog.info? 29).map (·.size) = some 38 := obj_info
  obtain ⟨zE, tyE⟩ := tyEnt
  go_enter Tryd.func15, Tryd.ntmps15
  go_wp2_with fail
  have X0 : Ext w (w.alloc (.cells (objC (.slice none 0 0) (.slice none 0 0) (.slice none 0 0) (zObj 0)).toArray 29)) := (Ext.refl w).alloc _
  have bR := heap_alloc_new w (.cells (objC (.slice none 0 0) (.slice none 0 0) (.slice none 0 0) (zObj 0)).toArray 29)
  refine Calls.mono (octetRead _ v l (h.ext X0) hb) ?_
  rintro e w1 ⟨g, rfl, hg1, hr1, x1⟩
  have bR := x1.keeps bR
  have X1 := X0.trans x1
  have hgR : w.heap.size < g := by have := block_lt (heap_alloc_new w (.cells (objC (.slice none 0 0) (.slice none 0 0) (.slice none 0 0) (zObj 0)).toArray 29)); exact Nat.lt_of_lt_of_le this hg1
  have hgw : g < w1.heap.size := by obtain ⟨_, _, _, hgb, _, _⟩ := hr1; exact block_lt hgb
  generalize hR : w.heap.size = R at *
  clear X0 x1
  go_wp2_with fail
  have b4 := heap_alloc_new w1 (.cells #[.pointer (some ⟨g, 0, none⟩)] 60)
  have bR := blk_old (o := .cells #[.pointer (some ⟨g, 0, none⟩)] 60) bR
  have hr1 := hr1.ext ((Ext.refl w1).alloc (.cells #[.pointer (some ⟨g, 0, none⟩)] 60))
  have X1 := X1.alloc (.cells #[.pointer (some ⟨g, 0, none⟩)] 60)
  generalize hH4 : w1.heap.size = H4 at *
  generalize w1.alloc (.cells #[.pointer (some ⟨g, 0, none⟩)] 60) = w1 at *
  have hRw := hR
  refine Calls.mono (octetU8 _ g l 0 0 hr1) ?_
  rintro e w2 ⟨rfl, hr2, hg2⟩
  have X2 : Ext w w2 := X1.grown hg2 (fun k hk => by simp at hk; omega)
  have b4 := grown_other hg2 b4 (by omega)
  have bR := grown_other hg2 bR (by omega)
  have hk' : (num (rTake l 0 0 1) : Int) = 2 := by have : num (rTake l 0 0 1) = 2 := hk; omega
  rw [hk']
  clear hk' hg2 hr1 X1
  have hnl : rNext l 0 0 1 = rS l (0, 0) 1 := rfl
  rw [hnl] at hr2
  clear hnl
  have c50 := (obj_at (heap_alloc_new w2 (.cells (objC (.slice none 0 0) (.slice none 0 0) (.slice none 0 0) (zObj 2)).toArray 29)) rfl (zObj_ok 2 (by omega))).c0
  rw [show (zObj 2).kind = 2 from rfl] at c50
  have X3 := X2.alloc (.cells (objC (.slice none 0 0) (.slice none 0 0) (.slice none 0 0) (zObj 2)).toArray 29)
  have b5 := heap_alloc_new w2 (.cells (objC (.slice none 0 0) (.slice none 0 0) (.slice none 0 0) (zObj 2)).toArray 29)
  have b4 := blk_old (o := .cells (objC (.slice none 0 0) (.slice none 0 0) (.slice none 0 0) (zObj 2)).toArray 29) b4
  have bR := blk_old (o := .cells (objC (.slice none 0 0) (.slice none 0 0) (.slice none 0 0) (zObj 2)).toArray 29) bR
  have hr3 := hr2.ext ((Ext.refl w2).alloc (.cells (objC (.slice none 0 0) (.slice none 0 0) (.slice none 0 0) (zObj 2)).toArray 29))
  have hH45 : H4 < w2.heap.size := block_lt (by assumption : w2.heap[H4]? = _)
  rw [HS1.out] at hr3
  clear hr2
  have c4 : (w2.alloc (.cells (objC (.slice none 0 0) (.slice none 0 0) (.slice none 0 0) (zObj 2)).toArray 29)).cell? ⟨H4, 0, none⟩ = some (.pointer (some ⟨g, 0, none⟩)) := by rw [block_cell b4]; rfl
  have HK0 := Lib.hid hk
  clear hk
  go_wp2_with (first
    | ((with_reducible refine at_store 29 (.tmp 5) (.tmp 16) ?_); refine wpl_store (by rfl) 29 (.tmp 5) (.tmp 16) rfl w2.heap.size (objC (.slice none 0 0) (.slice none 0 0) (.slice none 0 0) (zObj 2)).toArray (by rfl) (by rfl) 29 _ (heap_alloc_new _ _) (by kernel_rfl) (by rfl) (zObj_is w 2 (by omega)).one ?_; rw [World.setRow_alloc_new])
    | fail)
  refine Calls.mono (octetU8 _ g l s1.1 s1.2 hr3) ?_
  rintro e w5 ⟨rfl, hr5', hg5⟩
  have hr5 : IsRd w5 g l s3.1 s3.2 := by have e : rNext l s1.1 s1.2 1 = s3 := HS3.out; rw [e] at hr5'; exact hr5'
  have hcv : (num (rTake l s1.1 s1.2 1) : Int) = (c : Int) := by have : num (rTake l s1.1 s1.2 1) = c := HC.out; omega
  rw [hcv]
  have b5 := grown_other hg5 b5 (by omega)
  have b4 := grown_other hg5 b4 (by omega)
  have bR := grown_other hg5 bR (by omega)
  have X6 : Ext w w5 := X3.grown hg5 (fun k hk => by simp at hk; omega)
  have hz6 : w2.heap.size < w5.heap.size := block_lt b5
  generalize hH5 : w2.heap.size = H5 at *
  clear hr5' hg5 hcv X3 c4 c50 hr3
  go_wp2_with fail
  go_loopg [6, 36] c (fun gg s6 s36 wr => ∃ (i : Nat) (ve : Value), i ≤ c ∧ c - i ≤ gg ∧ s36 = .int .u8 (i : Int) ∧ s6 = .bool (itE l s3 i).2.2 ∧ wr.heap[H5]? = some (.cells (objC (.slice none 0 0) ve (.slice none 0 0) { zObj 2 with ents := (itE l s3 i).1 }).toArray 29 (0, 0)) ∧ wr.ownsRow (H5 + 1) 49 34 ve i ((itE l s3 i).1.flatMap entC) ∧ (itE l s3 i).1.length = i ∧ (∀ p ∈ (itE l s3 i).1, EntOk p) ∧ IsRd wr g l (itE l s3 i).2.1.1 (itE l s3 i).2.1.2 ∧ wr.heap[H4]? = some (.cells #[.pointer (some ⟨g, 0, none⟩)] 60 (0, 0)) ∧ wr.heap[R]? = some (.cells (objC (.slice none 0 0) (.slice none 0 0) (.slice none 0 0) (zObj 0)).toArray 29 (0, 0)) ∧ Ext w wr ∧ H5 < wr.heap.size)
  case atStart => exact ⟨0, .slice none 0 0, Nat.zero_le _, by omega, rfl, rfl, b5, World.ownsRow_nil _ _ _ _, rfl, (fun p hp => by cases hp), hr5, b4, bR, X6, hz6⟩
  case round =>
    clear b5 b4 bR X6 hz6 hr5
    obtain ⟨i, ve, hi, hgg, rfl, rfl, b5, own, hpl, hp32, hr, b4, bR, xr, hz⟩ := hrel
    have hstep : itE l s3 (i + 1) = stepE l (itE l s3 i) := rfl
    generalize hit : itE l s3 i = st at *
    have HIT := Lib.hid hit
    clear hit
    obtain ⟨es, ⟨pa, pe⟩, fl⟩ := st
    obtain ⟨nm, hnm⟩ : ∃ t, tTake l pa pe = t := ⟨_, rfl⟩
    obtain ⟨⟨p1, e1⟩, hp1⟩ : ∃ s : St, tNext l pa pe = s := ⟨_, rfl⟩
    obtain ⟨f, hf⟩ : ∃ n : Nat, rN l (p1, e1) 1 = n := ⟨_, rfl⟩
    obtain ⟨⟨p2, e2⟩, hp2⟩ : ∃ s : St, rS l (p1, e1) 1 = s := ⟨_, rfl⟩
    obtain ⟨Q, hQ⟩ : ∃ Q, padId (rTake l p2 e2 32) = Q := ⟨_, rfl⟩
    obtain ⟨⟨p3, e3⟩, hp3⟩ : ∃ s : St, rS l (p2, e2) 32 = s := ⟨_, rfl⟩
    have hQl : Q.length = 32 := by rw [← hQ]; exact padId_len (rTake_len l p2 e2 32)
    have hf256 : f < 256 := by rw [← hf]; have := num_small (rTake l p1 e1 1) 1 (by simpa using rTake_len l p1 e1 1); unfold rN; simp only; omega
    have hnml : nm.length ≤ 140737488355328 := by rw [← hnm]; exact Nat.le_trans (rTake_le _ _ _ _) hb
    obtain ⟨fb, hfb⟩ : ∃ b : Bool, ((f : Int) == 1) = b := ⟨_, rfl⟩
    obtain ⟨fq, hfq⟩ : ∃ b : Bool, decide ((f : Int) ≤ 1) = b := ⟨_, rfl⟩
    have hst : itE l s3 (i + 1) = (es ++ [{ name := ⟨nm.toArray⟩, folder := fb, id := Q }], (p3, e3), fl && fq) := by
      rw [hstep]
      unfold stepE
      have e1 : decide (f = 1) = fb := by rw [← hfb, Bool.eq_iff_iff]; simp; omega
      have e2 : decide (f ≤ 1) = fq := by rw [← hfq, Bool.eq_iff_iff]; simp; omega
      simp only [hnm, hp1, hf, hp2, hQ, hp3, e1, e2]
    simp only at hpl hp32 hr own b5
    have HST := Lib.hid hst
    have HNM := Lib.hid hnm
    have HP1 := Lib.hid hp1
    have HF := Lib.hid hf
    have HP2 := Lib.hid hp2
    have HQ := Lib.hid hQ
    have HP3 := Lib.hid hp3
    clear hstep hst hnm hp1 hf hp2 hQ hp3
    obtain ⟨ae, ce, rfl⟩ := sl_len (IsSl.of_owns own)
    have ho : ObjOk { zObj 2 with ents := es } := ⟨by simp [zObj], by simp [zObj], hp32, by show es.length ≤ _; omega, rfl, by simp [zObj], by simp [zObj], by simp [zObj], Nat.zero_le _⟩
    have c4 : wr.cell? ⟨H4, 0, none⟩ = some (.pointer (some ⟨g, 0, none⟩)) := by rw [block_cell b4]; rfl
    by_cases hlt : i < c
    · have hltI : (i : Int) < (c : Int) := by omega
      go_wp2_with fail
      refine Calls.mono (rdText _ g l pa pe hr) ?_
      rintro e w6 ⟨rfl, hr6', hg6⟩
      have hr6 : IsRd w6 g l p1 e1 := by have e : tNext l pa pe = (p1, e1) := HP1.out; rw [e] at hr6'; exact hr6'
      rw [HNM.out]
      have b5 := grown_other hg6 b5 (by omega)
      have b4 := grown_other hg6 b4 (by omega)
      have bR := grown_other hg6 bR (by omega)
      have own := ownsRow_grown own hg6 (own_ne own (Or.inl (by omega)))
      have x6 : Ext w w6 := xr.grown hg6 (fun k hk => by simp at hk; omega)
      have hz6 : H5 < w6.heap.size := block_lt b5
      have hne7 : (Value.slice ae i ce).ownBlock ≠ some w6.heap.size := own_ne own (Or.inr (Nat.le_refl _))
      obtain ⟨E0, hE0⟩ : ∃ E : EntL, E = { name := ⟨nm.toArray⟩, folder := false, id := z32 } := ⟨_, rfl⟩
      have hE0ok : EntOk E0 := by rw [hE0]; exact ⟨rfl, hnml⟩
      have b7 := heap_alloc_new w6 (.cells (entC { name := ⟨nm.toArray⟩, folder := false, id := z32 }).toArray 49)
      have xa := (Ext.refl w6).alloc (.cells (entC { name := ⟨nm.toArray⟩, folder := false, id := z32 }).toArray 49)
      have b5 := xa.keeps b5
      have b4 := xa.keeps b4
      have bR := xa.keeps bR
      have own := ownsRow_ext own xa
      have x7 := x6.trans xa
      have hr6a := hr6.ext xa
      have c4a : (w6.alloc (.cells (entC { name := ⟨nm.toArray⟩, folder := false, id := z32 }).toArray 49)).cell? ⟨H4, 0, none⟩ = some (.pointer (some ⟨g, 0, none⟩)) := by rw [block_cell b4]; rfl
      have hzA : w6.heap.size < (w6.alloc (.cells (entC { name := ⟨nm.toArray⟩, folder := false, id := z32 }).toArray 49)).heap.size := block_lt b7
      have hE34 : (entC ({ name := ⟨nm.toArray⟩, folder := false, id := z32 } : EntL)).length = 34 := entC_len ⟨rfl, hnml⟩
      have hEi := ent_info (e := { name := ⟨nm.toArray⟩, folder := false, id := z32 }) ⟨rfl, hnml⟩
      have hEo := ent_one ({ name := ⟨nm.toArray⟩, folder := false, id := z32 } : EntL)
      go_wp2_with (first
        | ((with_reducible refine at_store 49 (.tmp 7) (.tmp 40) ?_); refine wpl_store (by rfl) 49 (.tmp 7) (.tmp 40) rfl w6.heap.size (entC { name := ⟨nm.toArray⟩, folder := false, id := z32 }).toArray (by rfl) (by rfl) 49 _ (heap_alloc_new _ _) (by simpa using hEi) (by rfl) (all_oneCell_toArray hEo) ?_; rw [World.setRow_alloc_new]))
      refine Calls.mono (octetU8 _ g l p1 e1 hr6a) ?_
      rintro e w8 ⟨rfl, hr8', hg8⟩
      have hr8 : IsRd w8 g l p2 e2 := by have e : rNext l p1 e1 1 = (p2, e2) := HP2.out; rw [e] at hr8'; exact hr8'
      have hfv : (num (rTake l p1 e1 1) : Int) = (f : Int) := by have : num (rTake l p1 e1 1) = f := HF.out; omega
      rw [hfv]
      generalize hH7 : w6.heap.size = H7 at *
      have hgH7 : g < H7 := by omega
      have b7 := grown_other hg8 b7 (by omega)
      have b5 := grown_other hg8 b5 (by omega)
      have b4 := grown_other hg8 b4 (by omega)
      have bR := grown_other hg8 bR (by omega)
      have own := ownsRow_grown own hg8 (own_ne own (Or.inl (by omega)))
      have x8 : Ext w w8 := x7.grown hg8 (fun k hk => by simp at hk; omega)
      have c4 : w8.cell? ⟨H4, 0, none⟩ = some (.pointer (some ⟨g, 0, none⟩)) := by rw [block_cell b4]; rfl
      have c71 : w8.cell? ⟨H7, 1, none⟩ = some (.bool false) := by rw [block_cell b7]; simp [entC]
      have f71 := block_free b7 1
      have hst7 : (Instr.storeAt 4 (.pointer (some ⟨H7, 1, none⟩)) (.bool fb)).run Tryd.prog w8 = .ok () (w8.setCell ⟨H7, 1, none⟩ (.bool fb)) := by go_simp
      have gr9 := grown_setCell w8 H7 1 (.bool fb)
      have b79 := block_setCell b7 (i := 1) (.bool fb)
      rw [ent_set1] at b79
      have b59 := grown_other gr9 b5 (by omega)
      have b49 := grown_other gr9 b4 (by omega)
      have bR9 := grown_other gr9 bR (by omega)
      have own9 := ownsRow_grown own gr9 hne7
      have hr9 := hr8.later gr9 hgH7
      have x9 : Ext w _ := x8.grown gr9 (fun k hk => by simp at hk; have := xr.size; have := hz; omega)
      have c49 : (w8.setCell ⟨H7, 1, none⟩ (.bool fb)).cell? ⟨H4, 0, none⟩ = some (.pointer (some ⟨g, 0, none⟩)) := by rw [block_cell b49]; rfl
      clear hr6' hr8' hg6 hg8 c4a xa hr6 hr6a hfv x6 x7 hzA b5 b4 bR own hr8 x8 b7 c71 f71
      have hfl : fl = true ∨ fl = false := by cases fl <;> simp
      rcases hfl with rfl | rfl
      · go_wp2_with (first
          | ((with_reducible refine at_store 4 (.tmp 51) (.tmp 45) ?_); refine wpl_stored (by rfl) 4 (.tmp 51) (.tmp 45) rfl _ _ (by rfl) (by rfl) hst7 ?_; generalize w8.setCell ⟨H7, 1, none⟩ (.bool fb) = w9 at *))
        refine Calls.mono (rdId _ g l p2 e2 hr9) ?_
        rintro e w10 ⟨rfl, hr10', hg10⟩
        have hr10 : IsRd w10 g l p3 e3 := by have e : rNext l p2 e2 32 = (p3, e3) := HP3.out; rw [e] at hr10'; exact hr10'
        rw [HQ.out]
        have b7 := grown_other hg10 b79 (by omega)
        have b5 := grown_other hg10 b59 (by omega)
        have b4 := grown_other hg10 b49 (by omega)
        have bR := grown_other hg10 bR9 (by omega)
        have own := ownsRow_grown own9 hg10 (own_ne own9 (Or.inl (by omega)))
        have x10 : Ext w w10 := x9.grown hg10 (fun k hk => by simp at hk; omega)
        have hEok : EntOk { name := ⟨nm.toArray⟩, folder := fb, id := Q } := ⟨hQl, hnml⟩
        have hEi := ent_info hEok
        have hEl := entC_len hEok
        have hEo := ent_one ({ name := ⟨nm.toArray⟩, folder := fb, id := Q } : EntL)
        have hth := there_of b7 2 32 (by rw [List.size_toArray, entC_len (e := { name := ⟨nm.toArray⟩, folder := fb, id := z32 }) ⟨rfl, hnml⟩]; omega)
        have gs := grown_setCells H7 (Q.map bc) 2 w10
        have b7s := heap_setCells H7 (Q.map bc) 2 w10 _ b7
        rw [ent_setId _ Q rfl hQl] at b7s
        have b5s := grown_other gs b5 (by omega)
        have b4s := grown_other gs b4 (by omega)
        have bRs := grown_other gs bR (by omega)
        have owns := ownsRow_grown own gs hne7
        have hrs := hr10.later gs hgH7
        have xs : Ext w _ := x10.grown gs (fun k hk => by simp at hk; have := xr.size; have := hz; omega)
        have c52 := (obj_at b5s rfl ho).c2
        have f52 := block_free b5s 2
        have hQi := id_size hQl
        generalize hEE : ({ name := ⟨nm.toArray⟩, folder := fb, id := Q } : EntL) = E at *
        have HEE := Lib.hid hEE
        clear hEE hr10' hg10 b79 b59 b49 bR9 own9 hr9 x9 c49 hst7 gr9
        have hbl := fun w => build_one (P := Tryd.prog) w 23 49 34 Tryd.underlying23 infoEnt (by omega) (by omega) (entC E) hEl
        go_wp2_with (first
          | ((with_reducible refine at_store 25 (.tmp 54) (.tmp 53) ?_); refine wpl_storeMid (by rfl) 25 (.tmp 54) (.tmp 53) rfl H7 2 (Q.map bc).toArray (by rfl) (by rfl) (by simpa [hQl] using hth) hQi (id_one _) ?_; simp only [List.toList_toArray]; generalize w10.setCells H7 2 (Q.map bc) = w11 at *)
          | ((with_reducible refine at_load 49 (.tmp 7) ?_); refine wpl_load (by rfl) 49 (.tmp 7) rfl H7 (by rfl) 49 (entC E).toArray (0, 0) _ b7s Tryd.underlying49 rfl (by simpa using hEi) ?_)
          | ((with_reducible refine at_build1 23 (.tmp 57) ?_); refine wpl_buildOne (by rfl) 23 (.tmp 57) rfl (entC E) (by rfl) (hbl _) ?_)
          | (at_builtin; refine wp_app (w := w11.alloc (.cells (entC E).toArray 49)) tyE rfl (.tmp 56) (.tmp 58) rfl (H5 + 1) (.slice ae i ce) i _ (ownsRow_ext owns ((Ext.refl w11).alloc _)) (by rfl) _ 1 (entC E) (sl_one_new (w := w11) (n := 34) (e := 49) (Q := entC E) rfl hEl) (by rfl) hEo (by omega) (by omega) (by have h1 := ((Ext.refl w11).alloc (.cells (entC E).toArray 49)).size; have h2 := block_lt b5s; omega) ?_; intro v' w12 own12 gr12; obtain ⟨a12, c12, rfl⟩ := sl_len (IsSl.of_owns own12); have b512 := grown_keep gr12 (blk_old b5s) (own_ne own (Or.inl (by omega))); have c52 := (obj_at b512 rfl ho).c2; have f52 := block_free b512 2; have hst12 : (Instr.storeAt 23 (.pointer (some ⟨H5, 2, none⟩)) (.slice a12 (i + 1) c12)).run Tryd.prog w12 = .ok () (w12.setCell ⟨H5, 2, none⟩ (.slice a12 (i + 1) c12)) := (by go_simp))
          | ((with_reducible refine at_store 23 (.tmp 60) (.tmp 59) ?_); refine wpl_stored (by rfl) 23 (.tmp 60) (.tmp 59) rfl _ _ (by rfl) (by rfl) hst12 ?_))
        have b412 := grown_keep gr12 (blk_old b4s) (own_ne own (Or.inl (by omega)))
        have bR12 := grown_keep gr12 (blk_old bRs) (own_ne own (Or.inl (by omega)))
        have hr12 := (hrs.ext ((Ext.refl w11).alloc _)).own gr12 (fun r hr => by have := (own.lt r hr).1; omega)
        have x12 : Ext w w12 := (xs.alloc _).grown gr12 (fun k hk => by have := (own.lt k hk).1; have := xr.size; omega)
        have gr13 := grown_setCell w12 H5 2 (.slice a12 (i + 1) c12)
        have b513 := block_setCell b512 (i := 2) (.slice a12 (i + 1) c12)
        rw [obj_set2 _ _ _ _ { zObj 2 with ents := es } (es ++ [E])] at b513
        have own13 := ownsRow_grown own12 gr13 (own_ne own12 (Or.inl (by omega)))
        have b413 := grown_other gr13 b412 (by omega)
        have bR13 := grown_other gr13 bR12 (by omega)
        have hr13 := hr12.later gr13 (by omega)
        have x13 : Ext w _ := x12.grown gr13 (fun k hk => by simp at hk; omega)
        have hz13 : H5 < (w12.setCell ⟨H5, 2, none⟩ (.slice a12 (i + 1) c12)).heap.size := block_lt b513
        go_roundg (c - (i + 1))
        case measure => omega
        case rel =>
          refine ⟨i + 1, .slice a12 (i + 1) c12, by omega, by omega, by go_num, ?_, ?_, ?_, ?_, ?_, ?_, b413, bR13, x13, hz13⟩
          · rw [HST.out]; simp
          · rw [HST.out]; exact b513
          · rw [HST.out, List.flatMap_append]; simpa using own13
          · rw [HST.out]; simp [hpl]
          · rw [HST.out]; intro p hp; rcases List.mem_append.1 hp with h | h
            · exact hp32 p h
            · rw [List.mem_singleton.1 h]; exact hEok
          · rw [HST.out]; exact hr13
      · go_wp2_with (first
          | ((with_reducible refine at_store 4 (.tmp 51) (.tmp 45) ?_); refine wpl_stored (by rfl) 4 (.tmp 51) (.tmp 45) rfl _ _ (by rfl) (by rfl) hst7 ?_; generalize w8.setCell ⟨H7, 1, none⟩ (.bool fb) = w9 at *))
        refine Calls.mono (rdId _ g l p2 e2 hr9) ?_
        rintro e w10 ⟨rfl, hr10', hg10⟩
        have hr10 : IsRd w10 g l p3 e3 := by have e : rNext l p2 e2 32 = (p3, e3) := HP3.out; rw [e] at hr10'; exact hr10'
        rw [HQ.out]
        have b7 := grown_other hg10 b79 (by omega)
        have b5 := grown_other hg10 b59 (by omega)
        have b4 := grown_other hg10 b49 (by omega)
        have bR := grown_other hg10 bR9 (by omega)
        have own := ownsRow_grown own9 hg10 (own_ne own9 (Or.inl (by omega)))
        have x10 : Ext w w10 := x9.grown hg10 (fun k hk => by simp at hk; omega)
        have hEok : EntOk { name := ⟨nm.toArray⟩, folder := fb, id := Q } := ⟨hQl, hnml⟩
        have hEi := ent_info hEok
        have hEl := entC_len hEok
        have hEo := ent_one ({ name := ⟨nm.toArray⟩, folder := fb, id := Q } : EntL)
        have hth := there_of b7 2 32 (by rw [List.size_toArray, entC_len (e := { name := ⟨nm.toArray⟩, folder := fb, id := z32 }) ⟨rfl, hnml⟩]; omega)
        have gs := grown_setCells H7 (Q.map bc) 2 w10
        have b7s := heap_setCells H7 (Q.map bc) 2 w10 _ b7
        rw [ent_setId _ Q rfl hQl] at b7s
        have b5s := grown_other gs b5 (by omega)
        have b4s := grown_other gs b4 (by omega)
        have bRs := grown_other gs bR (by omega)
        have owns := ownsRow_grown own gs hne7
        have hrs := hr10.later gs hgH7
        have xs : Ext w _ := x10.grown gs (fun k hk => by simp at hk; have := xr.size; have := hz; omega)
        have c52 := (obj_at b5s rfl ho).c2
        have f52 := block_free b5s 2
        have hQi := id_size hQl
        generalize hEE : ({ name := ⟨nm.toArray⟩, folder := fb, id := Q } : EntL) = E at *
        have HEE := Lib.hid hEE
        clear hEE hr10' hg10 b79 b59 b49 bR9 own9 hr9 x9 c49 hst7 gr9
        have hbl := fun w => build_one (P := Tryd.prog) w 23 49 34 Tryd.underlying23 infoEnt (by omega) (by omega) (entC E) hEl
        go_wp2_with (first
          | ((with_reducible refine at_store 25 (.tmp 54) (.tmp 53) ?_); refine wpl_storeMid (by rfl) 25 (.tmp 54) (.tmp 53) rfl H7 2 (Q.map bc).toArray (by rfl) (by rfl) (by simpa [hQl] using hth) hQi (id_one _) ?_; simp only [List.toList_toArray]; generalize w10.setCells H7 2 (Q.map bc) = w11 at *)
          | ((with_reducible refine at_load 49 (.tmp 7) ?_); refine wpl_load (by rfl) 49 (.tmp 7) rfl H7 (by rfl) 49 (entC E).toArray (0, 0) _ b7s Tryd.underlying49 rfl (by simpa using hEi) ?_)
          | ((with_reducible refine at_build1 23 (.tmp 57) ?_); refine wpl_buildOne (by rfl) 23 (.tmp 57) rfl (entC E) (by rfl) (hbl _) ?_)
          | (at_builtin; refine wp_app (w := w11.alloc (.cells (entC E).toArray 49)) tyE rfl (.tmp 56) (.tmp 58) rfl (H5 + 1) (.slice ae i ce) i _ (ownsRow_ext owns ((Ext.refl w11).alloc _)) (by rfl) _ 1 (entC E) (sl_one_new (w := w11) (n := 34) (e := 49) (Q := entC E) rfl hEl) (by rfl) hEo (by omega) (by omega) (by have h1 := ((Ext.refl w11).alloc (.cells (entC E).toArray 49)).size; have h2 := block_lt b5s; omega) ?_; intro v' w12 own12 gr12; obtain ⟨a12, c12, rfl⟩ := sl_len (IsSl.of_owns own12); have b512 := grown_keep gr12 (blk_old b5s) (own_ne own (Or.inl (by omega))); have c52 := (obj_at b512 rfl ho).c2; have f52 := block_free b512 2; have hst12 : (Instr.storeAt 23 (.pointer (some ⟨H5, 2, none⟩)) (.slice a12 (i + 1) c12)).run Tryd.prog w12 = .ok () (w12.setCell ⟨H5, 2, none⟩ (.slice a12 (i + 1) c12)) := (by go_simp))
          | ((with_reducible refine at_store 23 (.tmp 60) (.tmp 59) ?_); refine wpl_stored (by rfl) 23 (.tmp 60) (.tmp 59) rfl _ _ (by rfl) (by rfl) hst12 ?_))
        have b412 := grown_keep gr12 (blk_old b4s) (own_ne own (Or.inl (by omega)))
        have bR12 := grown_keep gr12 (blk_old bRs) (own_ne own (Or.inl (by omega)))
        have hr12 := (hrs.ext ((Ext.refl w11).alloc _)).own gr12 (fun r hr => by have := (own.lt r hr).1; omega)
        have x12 : Ext w w12 := (xs.alloc _).grown gr12 (fun k hk => by have := (own.lt k hk).1; have := xr.size; omega)
        have gr13 := grown_setCell w12 H5 2 (.slice a12 (i + 1) c12)
        have b513 := block_setCell b512 (i := 2) (.slice a12 (i + 1) c12)
        rw [obj_set2 _ _ _ _ { zObj 2 with ents := es } (es ++ [E])] at b513
        have own13 := ownsRow_grown own12 gr13 (own_ne own12 (Or.inl (by omega)))
        have b413 := grown_other gr13 b412 (by omega)
        have bR13 := grown_other gr13 bR12 (by omega)
        have hr13 := hr12.later gr13 (by omega)
        have x13 : Ext w _ := x12.grown gr13 (fun k hk => by simp at hk; omega)
        have hz13 : H5 < (w12.setCell ⟨H5, 2, none⟩ (.slice a12 (i + 1) c12)).heap.size := block_lt b513
        go_roundg (c - (i + 1))
        case measure => omega
        case rel =>
          refine ⟨i + 1, .slice a12 (i + 1) c12, by omega, by omega, by go_num, ?_, ?_, ?_, ?_, ?_, ?_, b413, bR13, x13, hz13⟩
          · rw [HST.out]; simp
          · rw [HST.out]; exact b513
          · rw [HST.out, List.flatMap_append]; simpa using own13
          · rw [HST.out]; simp [hpl]
          · rw [HST.out]; intro p hp; rcases List.mem_append.1 hp with h | h
            · exact hp32 p h
            · rw [List.mem_singleton.1 h]; exact hEok
          · rw [HST.out]; exact hr13
    · have hic : i = c := by omega
      have hii : ¬ (i : Int) < (c : Int) := by omega
      obtain ⟨st, hst⟩ : ∃ st : St, st = (pa, pe) := ⟨_, rfl⟩
      have hrE : IsRd wr g l st.1 st.2 := by rw [hst]; exact hr
      have hHD : decP l = (if st.2 ≠ 0 then (zObj 0, 7) else if ((l.length : Int) - st.1 > 0 || !fl || !checkB { zObj 2 with ents := es }) = true then (zObj 0, 150) else ({ zObj 2 with ents := es }, 0)) := by
        have hr : readP l = ({ zObj 2 with ents := es }, st, fl) := by
          have hit := HIT.out
          rw [hic] at hit
          unfold readP
          simp only [HK0.out, HS1.out, HC.out, HS3.out, hit, hst]
          rfl
        unfold decP
        simp only [HK0.out, hr]
        rw [if_neg (by simp)]
      have HDP := Lib.hid hHD
      have HIC := Lib.hid hic
      have hve : Off (.slice ae i ce) R := Off.own own (by omega)
      have hvb : Off (.slice none 0 0) R := Off.nil _ _ _
      have hvp := hvb
      have hO : IsObj wr (objC (.slice none 0 0) (.slice ae i ce) (.slice none 0 0) { zObj 2 with ents := es }).toArray (.slice none 0 0) (.slice ae i ce) (.slice none 0 0) { zObj 2 with ents := es } :=
        ⟨rfl, ho, IsB.nil _, by have h := IsSl.of_owns own; rw [← hpl] at h; rw [← hpl]; exact h, IsSl.nil _ _⟩
      have b5E := b5
      have b4E := b4
      have bRE := bR
      have XE := xr
      clear hHD hic hst own b5 b4 bR hr hlt HST HNM HP1 HF HP2 HQ HP3 hfb hfq
      generalize hoo : ({ zObj 2 with ents := es } : ObjL) = o at *
      have HOO := Lib.hid hoo
      clear hoo
      generalize hvpp : Value.slice ae i ce = ve at *
      have HVP := Lib.hid hvpp
      clear hvpp
      generalize (objC (.slice none 0 0) ve (.slice none 0 0) o).toArray = QO at *
      obtain ⟨wE, rfl⟩ : ∃ x : World, x = wr := ⟨_, rfl⟩
      obtain ⟨FL, rfl⟩ : ∃ b : Bool, b = fl := ⟨_, rfl⟩
      go_wp2_with fail
      by_cases he : st.2 = 0
      rotate_left
      · have hE : (st.2 != 0) = true := by simpa using he
        have hd : decP l = (zObj 0, 7) := by rw [HDP.out, if_pos he]
        have HD := Lib.hid hd
        have bX := bRE
        have c4 : wE.cell? ⟨H4, 0, none⟩ = some (.pointer (some ⟨g, 0, none⟩)) := by rw [block_cell b4E]; rfl
        clear hd he
        go_wp2_with (first
          | (go_at_call 34; refine Calls.mono (octetErr _ g l st.1 st.2 hrE) ?_; rintro e we ⟨rfl, rfl⟩)
          | ((with_reducible refine at_store 29 (.tmp 2) (.tmp 99) ?_); refine wpl_store (by rfl) 29 (.tmp 2) (.tmp 99) rfl R (objC (.slice none 0 0) (.slice none 0 0) (.slice none 0 0) (zObj 0)).toArray (by rfl) (by rfl) 29 _ bX (by kernel_rfl) (by rfl) (zObj_is w 0 (by omega)).one ?_))
        have hfin : (wE.setRow R (objC (.slice none 0 0) (.slice none 0 0) (.slice none 0 0) (zObj 0)).toArray).heap[R]? = some (.cells (objC (.slice none 0 0) (.slice none 0 0) (.slice none 0 0) (zObj 0)).toArray 29 (0, 0)) := setRow_heap _ _ _ _ _ _ bX
        refine bodyPost_ret (results_cell_tmp rfl _ _ R _ _ _ _ (by rfl) hfin Tryd.underlying29 rfl (by kernel_rfl)) rfl ⟨(objC (.slice none 0 0) (.slice none 0 0) (.slice none 0 0) (zObj 0)).toArray, .slice none 0 0, .slice none 0 0, .slice none 0 0, ?_, ?_, XE.grown grown_setRow' (fun k hk => by simp at hk; omega)⟩
        · rw [HD.out]; rfl
        · rw [HD.out]; exact zObj_is _ 0 (by omega)
      have hrE0 := hrE
      obtain ⟨pa, pe⟩ := st
      simp only at he hrE hrE0
      subst he
      have c4 : wE.cell? ⟨H4, 0, none⟩ = some (.pointer (some ⟨g, 0, none⟩)) := by rw [block_cell b4E]; rfl
      have hpl : pa ≤ l.length := hrE.le
      have hdp := HDP.out
      rw [if_neg (by simp)] at hdp
      have HDP2 := Lib.hid hdp
      clear hdp HDP
      cases hA : decide ((l.length : Int) - pa > 0) with
      | true =>
        have hA1 : (0 : Int) < (l.length : Int) - pa := of_decide_eq_true hA
        obtain ⟨z, hz⟩ : ∃ z, (l.length : Int) - pa = z := ⟨_, rfl⟩
        have hLeft := octetLeft wE g l pa 0 hrE
        rw [hz] at hLeft hA1
        clear hz
        have hd : decP l = (zObj 0, 150) := by rw [HDP2.out, if_pos (by simp only [hA, Bool.true_or])]
        have HD := Lib.hid hd
        clear hd hA
        have bX := toExtKeep bRE
        go_wp2_with (first
          | (go_at_call 34; refine Calls.mono (octetErr _ g l pa 0 hrE) ?_; rintro e we ⟨rfl, rfl⟩)
          | (go_at_call 35; refine Calls.mono hLeft ?_; rintro e we ⟨rfl, q, rfl⟩; have bX := bX q)
          | ((with_reducible refine at_store 29 (.tmp 2) (.tmp 114) ?_); refine wpl_store (by rfl) 29 (.tmp 2) (.tmp 114) rfl R (objC (.slice none 0 0) (.slice none 0 0) (.slice none 0 0) (zObj 0)).toArray (by rfl) (by rfl) 29 _ bX (by kernel_rfl) (by rfl) (zObj_is w 0 (by omega)).one ?_))
        have hfin : ((wE.drewN q).setRow R (objC (.slice none 0 0) (.slice none 0 0) (.slice none 0 0) (zObj 0)).toArray).heap[R]? = some (.cells (objC (.slice none 0 0) (.slice none 0 0) (.slice none 0 0) (zObj 0)).toArray 29 (0, 0)) := setRow_heap _ _ _ _ _ _ bX
        refine bodyPost_ret (results_cell_tmp rfl _ _ R _ _ _ _ (by rfl) hfin Tryd.underlying29 rfl (by kernel_rfl)) rfl ⟨(objC (.slice none 0 0) (.slice none 0 0) (.slice none 0 0) (zObj 0)).toArray, .slice none 0 0, .slice none 0 0, .slice none 0 0, ?_, ?_, (XE.drewN q).grown grown_setRow' (fun k hk => by simp at hk; omega)⟩
        · rw [HD.out]; rfl
        · rw [HD.out]; exact zObj_is _ 0 (by omega)
      | false =>
        have hA1 : ¬ (0 : Int) < (l.length : Int) - pa := of_decide_eq_false hA
        obtain ⟨z, hz⟩ : ∃ z, (l.length : Int) - pa = z := ⟨_, rfl⟩
        have hLeft := octetLeft wE g l pa 0 hrE
        have HA1 := Lib.hid hA1
        rw [hz] at hLeft hA1
        have hA2 : decide ((0 : Int) < z) = false := decide_eq_false hA1
        clear hz hA1
        cases FL with
        | false =>
          have hd : decP l = (zObj 0, 150) := by rw [HDP2.out, if_pos (by simp)]
          have HD := Lib.hid hd
          clear hd hA
          have bX := toExtKeep bRE
          go_wp2_with (first
            | (go_at_call 34; refine Calls.mono (octetErr _ g l pa 0 hrE) ?_; rintro e we ⟨rfl, rfl⟩)
            | (go_at_call 35; refine Calls.mono hLeft ?_; rintro e we ⟨rfl, q, rfl⟩; have bX := bX q)
            | ((with_reducible refine at_store 29 (.tmp 2) (.tmp 114) ?_); refine wpl_store (by rfl) 29 (.tmp 2) (.tmp 114) rfl R (objC (.slice none 0 0) (.slice none 0 0) (.slice none 0 0) (zObj 0)).toArray (by rfl) (by rfl) 29 _ bX (by kernel_rfl) (by rfl) (zObj_is w 0 (by omega)).one ?_))
          have hfin : ((wE.drewN q).setRow R (objC (.slice none 0 0) (.slice none 0 0) (.slice none 0 0) (zObj 0)).toArray).heap[R]? = some (.cells (objC (.slice none 0 0) (.slice none 0 0) (.slice none 0 0) (zObj 0)).toArray 29 (0, 0)) := setRow_heap _ _ _ _ _ _ bX
          refine bodyPost_ret (results_cell_tmp rfl _ _ R _ _ _ _ (by rfl) hfin Tryd.underlying29 rfl (by kernel_rfl)) rfl ⟨(objC (.slice none 0 0) (.slice none 0 0) (.slice none 0 0) (zObj 0)).toArray, .slice none 0 0, .slice none 0 0, .slice none 0 0, ?_, ?_, (XE.drewN q).grown grown_setRow' (fun k hk => by simp at hk; omega)⟩
          · rw [HD.out]; rfl
          · rw [HD.out]; exact zObj_is _ 0 (by omega)
        | true =>
          cases hC : checkB o with
          | false =>
            have hd : decP l = (zObj 0, 150) := by rw [HDP2.out, if_pos (by simp [hC])]
            have HD := Lib.hid hd
            clear hd hA
            have bX := toExtKeep bRE
            go_wp2_with (first
              | (go_at_call 34; refine Calls.mono (octetErr _ g l pa 0 hrE) ?_; rintro e we ⟨rfl, rfl⟩)
              | (go_at_call 35; refine Calls.mono hLeft ?_; rintro e we ⟨rfl, q, rfl⟩; have bX := bX q; have b5q := toExtKeep b5E q; have hOq := hO.ext ((Ext.refl wE).drewN q); have XE := XE.drewN q)
              | ((with_reducible refine at_load 29 (.tmp 5) ?_); refine wpl_load (by rfl) 29 (.tmp 5) rfl H5 (by rfl) 29 QO (0, 0) _ b5q Tryd.underlying29 rfl hO.info ?_)
              | (go_at_call 11; refine Calls.mono (objCheck _ QO (.slice none 0 0) ve (.slice none 0 0) o hOq) ?_; rintro e wc ⟨rfl, xc⟩; rw [hC]; have bX := xc.keeps bX; have XE := XE.trans xc)
              | ((with_reducible refine at_store 29 (.tmp 2) (.tmp 114) ?_); refine wpl_store (by rfl) 29 (.tmp 2) (.tmp 114) rfl R (objC (.slice none 0 0) (.slice none 0 0) (.slice none 0 0) (zObj 0)).toArray (by rfl) (by rfl) 29 _ bX (by kernel_rfl) (by rfl) (zObj_is w 0 (by omega)).one ?_))
            have hfin : (wc.setRow R (objC (.slice none 0 0) (.slice none 0 0) (.slice none 0 0) (zObj 0)).toArray).heap[R]? = some (.cells (objC (.slice none 0 0) (.slice none 0 0) (.slice none 0 0) (zObj 0)).toArray 29 (0, 0)) := setRow_heap _ _ _ _ _ _ bX
            refine bodyPost_ret (results_cell_tmp rfl _ _ R _ _ _ _ (by rfl) hfin Tryd.underlying29 rfl (by kernel_rfl)) rfl ⟨(objC (.slice none 0 0) (.slice none 0 0) (.slice none 0 0) (zObj 0)).toArray, .slice none 0 0, .slice none 0 0, .slice none 0 0, ?_, ?_, XE.grown grown_setRow' (fun k hk => by simp at hk; omega)⟩
            · rw [HD.out]; rfl
            · rw [HD.out]; exact zObj_is _ 0 (by omega)
          | true =>
            have hd : decP l = (o, 0) := by rw [HDP2.out, if_neg (by simp [hC]; have := HA1.out; omega)]
            have HD := Lib.hid hd
            clear hd hA
            have bX := toExtKeep bRE
            go_wp2_with (first
              | (go_at_call 34; refine Calls.mono (octetErr _ g l pa 0 hrE) ?_; rintro e we ⟨rfl, rfl⟩)
              | (go_at_call 35; refine Calls.mono hLeft ?_; rintro e we ⟨rfl, q, rfl⟩; have bX := bX q; have b5q := toExtKeep b5E q; have hOq := hO.ext ((Ext.refl wE).drewN q); have XE := XE.drewN q)
              | ((with_reducible refine at_load 29 (.tmp 5) ?_); refine wpl_load (by rfl) 29 (.tmp 5) rfl H5 (by rfl) 29 QO (0, 0) _ b5q Tryd.underlying29 rfl hO.info ?_)
              | (go_at_call 11; refine Calls.mono (objCheck _ QO (.slice none 0 0) ve (.slice none 0 0) o hOq) ?_; rintro e wc ⟨rfl, xc⟩; rw [hC]; have bX := xc.keeps bX; have b5q := xc.keeps b5q; have hOc := hOq.ext xc; have XE := XE.trans xc)
              | ((with_reducible refine at_store 29 (.tmp 2) (.tmp 115) ?_); refine wpl_store (by rfl) 29 (.tmp 2) (.tmp 115) rfl R QO (by rfl) (by rfl) 29 _ bX hO.info (by rw [hO.size]; rfl) hO.one ?_))
            have hfin : (wc.setRow R QO).heap[R]? = some (.cells QO 29 (0, 0)) := setRow_heap _ _ _ _ _ _ bX
            refine bodyPost_ret (results_cell_tmp rfl _ _ R _ _ _ _ (by rfl) hfin Tryd.underlying29 rfl hO.info) rfl ⟨QO, (.slice none 0 0), ve, (.slice none 0 0), ?_, ?_, XE.grown grown_setRow' (fun k hk => by simp at hk; omega)⟩
            · rw [HD.out]; rfl
            · rw [HD.out]
              exact ⟨hOc.eq, hOc.ok, hOc.vb.other grown_setRow' hvb, hOc.ve.other grown_setRow' hve, hOc.vp.other grown_setRow' hvp⟩
end Go.Proofs.YtcdlmappcbbacaaDoor
