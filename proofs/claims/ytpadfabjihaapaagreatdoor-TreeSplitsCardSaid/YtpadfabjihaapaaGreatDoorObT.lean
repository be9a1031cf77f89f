/- The walk of object.Encode at a folder. -/
import Derived.Test.YtpadfabjihaapaaGreatDoorObR
namespace Go.Proofs.YtpadfabjihaapaaGreatDoor
open Go.RowKit
set_option linter.unusedVariables false
set_option linter.unusedSimpArgs false

theorem row_form {w : World} {base size : Nat} {e : TypeId} {v : Value} {n : Nat} {xs : List Value} (h : w.ownsRow base e size v n xs) (hn : 0 < n) : ∃ g cap, v = .slice (some ⟨g, 0, none⟩) n cap := by
  rcases h.2 with ⟨rfl, rfl⟩ | ⟨g, cap, cur, rfl, _⟩
  · omega
  · exact ⟨g, cap, rfl⟩
/-- A part of an array's block as a slice of bytes. -/
theorem part_sl {w : World} {g k : Nat} {pre post : List Value} {l : List UInt8} {t : TypeId} {f : Nat × Nat} (h : w.heap[g]? = some (.cells (pre ++ l.map bc ++ post).toArray t f)) (hk : pre.length = k) {n : Nat} (hn : l.length = n) (hm : n ≤ 9223372036854775807) : IsSl w (.slice (some ⟨g, k, none⟩) n n) 1 n (l.map bc) := by
  subst hk hn
  refine ⟨by simp, _, _, rfl, Nat.le_refl _, hm, (fun h => by cases h), fun i hi => ⟨_, _, rfl, ?_⟩⟩
  rw [block_cell h]
  rw [List.getElem?_toArray, List.append_assoc, List.getElem?_append_right (by omega), Nat.add_sub_cancel_left, List.getElem?_append_left hi]
/-- The bytes of a folder as far as i entries. -/
def encT (es : List EntL) (i : Nat) : List UInt8 := 2 :: UInt8.ofNat es.length :: (es.take i).flatMap encE
theorem encT_next {es : List EntL} {i : Nat} (h : i < es.length) : encT es (i + 1) = encT es i ++ encE es[i] := by
  unfold encT
  rw [List.take_succ_eq_append_getElem h, List.flatMap_append]
  simp
theorem encE_map (P : List UInt8) (e : EntL) (b : UInt8) (hb : (if e.folder = true then (1 : UInt8) else 0) = b) : (P ++ encE e).map bc = ((P ++ txtB e.name).map bc ++ [bc b]) ++ e.id.map bc := by
  unfold encE
  rw [hb]
  simp
theorem encE_le {e : EntL} (h : EntOk e) (hn : e.name.size ≤ 24) : (encE e).length ≤ 58 := by rw [encE_len h]; omega
theorem flatE_le : ∀ (es : List EntL), (∀ e ∈ es, EntOk e ∧ e.name.size ≤ 24) → (es.flatMap encE).length ≤ 58 * es.length
  | [], _ => by simp
  | e :: r, h => by
    have h1 := flatE_le r (fun x hx => h x (List.mem_cons_of_mem _ hx))
    have h2 := encE_le (h e (List.mem_cons_self ..)).1 (h e (List.mem_cons_self ..)).2
    rw [List.flatMap_cons, List.length_append, List.length_cons]
    omega
theorem encT_le {es : List EntL} {i : Nat} (h : ∀ e ∈ es, EntOk e ∧ e.name.size ≤ 24) (hl : es.length ≤ 32) : (encT es i).length ≤ 2000 := by
  have := flatE_le (es.take i) (fun x hx => h x (List.mem_of_mem_take hx))
  have h2 : (es.take i).length ≤ es.length := by rw [List.length_take]; omega
  unfold encT
  rw [List.length_cons, List.length_cons]
  omega

set_option maxHeartbeats 8000000 in
set_option maxRecDepth 100000 in
theorem objEncode2 (w : World) (QA : Array Value) (vb ve vp : Value) (o : ObjL) (h : IsObj w QA vb ve vp o) (hc : checkB o = true) (hk : o.kind = 2) :
    Calls Tryz.prog 109 #[.agg QA] w (EncEnd o w) := by
  have b0 := heap_alloc_new w (.cells QA 45)
  have X0 : Ext w (w.alloc (.cells QA 45)) := (Ext.refl w).alloc _
  have hinfo := h.info
  obtain ⟨_, hp1, hp2, hp3, hp4, hp5⟩ := chk_parts hc
  obtain ⟨ae, ce, rfl⟩ := sl_len h.ve
  go_enter Tryz.func109, Tryz.ntmps109
  go_wp2_with ((with_reducible refine at_load 45 (.tmp 1) ?_); refine wpl_load (by rfl) 45 (.tmp 1) rfl w.heap.size (by rfl) 45 QA (0, 0) _ b0 Tryz.underlying45 rfl hinfo ?_)
  refine Calls.mono (objCheck _ QA vb _ vp o (h.ext X0)) ?_
  rintro e w1 ⟨rfl, x1⟩
  have hbn : ∀ e ∈ o.ents, EntOk e ∧ e.name.size ≤ 24 := fun e he => ⟨h.ok.ents e he, (hp5 e he).1⟩
  have X1 := X0.trans x1
  have hA := obj_at (x1.keeps b0) h.eq h.ok
  obtain ⟨c0, c1, c2, c3, c4, c5, c6⟩ := hA
  have hve := Lib.hid (h.ext X1).ve
  have hce : o.ents.length ≤ ce := by obtain ⟨_, _, _, e, h, _⟩ := hve.out; simp only [Value.slice.injEq] at e; omega
  have he : encO o = encT o.ents o.ents.length := by unfold encO encB encT; rw [hc, if_pos rfl, if_neg (by omega), if_pos hk, List.take_length]
  rw [hk] at c0
  have HE := Lib.hid he
  have HC := Lib.hid hc
  rw [hc]
  unfold chkE
  rw [if_pos rfl]
  clear hc hk h hp5 he c1 c3 c4 c5 c6
  have hGw : w.heap.size < w1.heap.size := block_lt (x1.keeps b0)
  generalize hG : w.heap.size = G at *
  generalize o.ents = es at *
  have xw : Ext w1 (w1.alloc (.cells #[.int .u8 2] 5)) := (Ext.refl w1).alloc _
  have own0 : (w1.alloc (.cells #[.int .u8 2] 5)).ownsRow w1.heap.size 5 1 (.slice (some ⟨w1.heap.size, 0, none⟩) 1 1) 1 [.int .u8 2] := own_new w1 [.int .u8 2] 1 1 _ rfl (by decide)
  go_wp2_with (at_builtin; refine wp_app1 tyB rfl _ _ rfl w1.heap.size _ 1 _ _ _ own0 (by rfl) (by rw [World.size_alloc]; rfl) rfl (by omega) (by omega) xw.size ?_; intro v2 w2 own2 gr2; have x2 := own_base (own0.alloc _) gr2 (xw.alloc _) (Nat.le_refl _); have c2 := x2.cell c2)
  have own2' : w2.ownsRow w1.heap.size 5 1 v2 (encT es 0).length ((encT es 0).map bc) := by
    have e : (encT es 0).map bc = [.int .u8 2] ++ [.int .u8 (es.length : Int)] := by
      show [bc 2, bc (UInt8.ofNat es.length)] = _
      rw [bc_ofNat, Int.emod_eq_of_lt (by omega) (by omega)]; rfl
    rw [e]
    exact own2
  go_loopg [5, 44] es.length (fun g s5 s44 wr => ∃ i : Nat, i ≤ es.length ∧ es.length - i ≤ g ∧ s44 = .int .i64 i ∧ wr.ownsRow w1.heap.size 5 1 s5 (encT es i).length ((encT es i).map bc) ∧ Ext w1 wr)
  case atStart => exact ⟨0, Nat.zero_le _, by omega, rfl, own2', x2⟩
  case round =>
    clear own2' own2 gr2 x2 own0 xw c2
    obtain ⟨i, hi, hg, rfl, own, xr⟩ := hrel
    by_cases hlt : i < es.length
    · obtain ⟨p, off, rfl, hra⟩ := ent_at hve.out (fun e he => (hbn e he).1) i hlt
      have hok := (hbn _ (List.getElem_mem hlt)).1
      have hnm := (hbn _ (List.getElem_mem hlt)).2
      have hle := encT_le (i := i) hbn (by omega)
      have hnx := encT_next hlt
      have hra := rangeAt_ext hra xr
      generalize es[i] = e at *
      generalize hP : encT es i = P at *
      generalize hP' : encT es (i + 1) = P' at *
      have HN := Lib.hid hnx
      have HP := Lib.hid hP
      have HP' := Lib.hid hP'
      clear hnx hP hP'
      have hl34 := entC_len hok
      have hidl := hok.1
      have hinf := ent_info hok
      have hone := ent_one e
      have hec : entC e = .string e.name :: .bool e.folder :: e.id.map bc := rfl
      have i0 : (0 : Int) ≤ (i : Int) := Int.natCast_nonneg _
      have i1 : (i : Int) < (es.length : Int) := by omega
      have bn := heap_alloc_new wr (.cells (entC e).toArray 80)
      have cn : (wr.alloc (.cells (entC e).toArray 80)).cell? ⟨wr.heap.size, 0, none⟩ = some (.string e.name) := by rw [block_cell bn, hec]; rfl
      have xa : Ext w1 (wr.alloc (.cells (entC e).toArray 80)) := xr.alloc _
      have owna := own.alloc (.cells (entC e).toArray 80)
      go_wp2_with (first
        | ((with_reducible refine at_load 80 (.tmp 46) ?_); refine wpl_mid (by rfl) 80 (.tmp 46) rfl p (off + i * 34) (by rfl) (entC e) _ hra Tryz.underlying80 rfl hinf ?_)
        | ((with_reducible refine at_store 80 (.tmp 7) (.tmp 47) ?_); refine wpl_store (by rfl) 80 (.tmp 7) (.tmp 47) rfl wr.heap.size (entC e).toArray (by rfl) (by rfl) 80 _ (heap_alloc_new _ _) (by simpa using hinf) (by simp [hl34]) (all_oneCell_toArray hone) ?_; rw [World.setRow_alloc_new]))
      refine Calls.mono (objText _ _ w1.heap.size P.length P e.name owna xa.size (by omega)) ?_
      rintro ee w3 ⟨v3, rfl, own3, bl3, ku3⟩
      have x3 : Ext w1 w3 := Below.trans (B := w1.heap.size) xa bl3
      have b3 := ku3 _ _ _ _ bn (by decide)
      clear hra cn owna own hinf hone
      generalize hM : P.length + 1 + e.name.size = M at *
      generalize wr.heap.size = Hb at *
      have own4a := own3.alloc (.cells #[.int .u8 0] 5)
      have b4 := blk_old (o := .cells #[.int .u8 0] 5) b3
      have x4 := x3.alloc (.cells #[.int .u8 0] 5)
      cases hf : e.folder with
      | false =>
        go_wp2_with (first
          | (at_builtin; refine wp_app1 tyB rfl _ _ rfl w1.heap.size _ M _ _ _ own3 (by rfl) (by rfl) rfl (by omega) (by omega) x3.size ?_; intro v4 w4 own4 gr4; have b5 := KeepU.own own4a gr4 _ _ _ _ b4 (by decide); have x5 := own_base own4a gr4 x4 (Nat.le_refl _); have cf : w4.cell? ⟨Hb, 1, none⟩ = some (.bool false) := (by rw [block_cell b5, hec, hf]; rfl); have hsl := part_sl (pre := [.string e.name, .bool e.folder]) (post := []) (by rw [List.append_nil]; exact b5) rfl hidl (by omega); have hHb := block_lt b5)
          | (at_builtin; refine wp_app tyB rfl _ _ rfl w1.heap.size _ (M + 1) _ own4 (by rfl) _ 32 (e.id.map bc) hsl (by rfl) (bc_one _) (by omega) (by omega) x5.size ?_; intro v6 w6 own6 gr6))
        go_roundg (es.length - (i + 1))
        case measure => omega
        case rel =>
          refine ⟨i + 1, by omega, by omega, by go_num, ?_, own_base own4 gr6 x5 (Nat.le_refl _)⟩
          rw [HP'.out, HN.out, encE_map P e 0 (by rw [hf]; rfl), List.length_append, encE_len hok]
          have e1 : P.length + (34 + e.name.size) = M + 1 + 32 := by omega
          rw [e1]
          exact own6
      | true =>
        go_wp2_with (first
          | (at_builtin; refine wp_app1 tyB rfl _ _ rfl w1.heap.size _ M _ _ _ own3 (by rfl) (by rfl) rfl (by omega) (by omega) x3.size ?_; intro v4 w4 own4 gr4; have b5 := KeepU.own own4a gr4 _ _ _ _ b4 (by decide); have x5 := own_base own4a gr4 x4 (Nat.le_refl _); have cf : w4.cell? ⟨Hb, 1, none⟩ = some (.bool true) := (by rw [block_cell b5, hec, hf]; rfl); have hHb := block_lt b5; obtain ⟨g4, cap4, rfl⟩ := row_form own4 (by omega); have cM := own4.cellAt M (by omega); have fM := own4.frozenAt M; have st := own4.stored M (.int .u8 1); have hg4 := own4.lt g4 rfl; have lM : ((P ++ txtB e.name).map bc).length = M := (by rw [List.length_map, List.length_append, txt_len]; omega); rw [List.getElem?_append_right (by omega), lM, Nat.sub_self, List.getElem?_cons_zero] at cM; rw [List.set_append_right _ _ (by omega), lM, Nat.sub_self, List.set_cons_zero] at st; have b6 := KeepU.own own4 (grown_setCell w4 g4 M (.int .u8 1)) _ _ _ _ b5 (by decide); have x6 := own_base own4 (grown_setCell w4 g4 M (.int .u8 1)) x5 (Nat.le_refl _); have hsl := part_sl (pre := [.string e.name, .bool e.folder]) (post := []) (by rw [List.append_nil]; exact b6) rfl hidl (by omega); have m0 : (0 : Int) ≤ (M : Int) := Int.natCast_nonneg _)
          | (at_builtin; refine wp_app tyB rfl _ _ rfl w1.heap.size _ (M + 1) _ st.1 (by rfl) _ 32 (e.id.map bc) hsl (by rfl) (bc_one _) (by omega) (by omega) x6.size ?_; intro v6 w6 own6 gr6))
        go_roundg (es.length - (i + 1))
        case measure => omega
        case rel =>
          refine ⟨i + 1, by omega, by omega, by go_num, ?_, own_base st.1 gr6 x6 (Nat.le_refl _)⟩
          rw [HP'.out, HN.out, encE_map P e 1 (by rw [hf]; rfl), List.length_append, encE_len hok]
          have e1 : P.length + (34 + e.name.size) = M + 1 + 32 := by omega
          rw [e1]
          exact own6
    · have hie : i = es.length := by omega
      subst hie
      go_wp2_with fail
      go_ret2
      refine ⟨_, by rw [HC.out]; rfl, ?_, X1.trans xr⟩
      rw [HE.out]
      exact ownsRow_base own X1.size
end Go.Proofs.YtpadfabjihaapaaGreatDoor
