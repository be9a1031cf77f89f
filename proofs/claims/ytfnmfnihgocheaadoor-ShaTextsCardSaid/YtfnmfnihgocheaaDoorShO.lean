/- The walks of the reference's Parse and Text. -/
import Derived.Test.YtfnmfnihgocheaaDoorShN
namespace Go.Proofs.YtfnmfnihgocheaaDoor
open Go.RowKit
set_option linter.unusedVariables false
set_option linter.unusedSimpArgs false

theorem digZ_N (c : Nat) : digZ c = if digN c < 16 then (digN c : Int) else -1 := by
  unfold digZ digN
  split <;> rename_i h
  · rw [if_pos (by omega)]; omega
  · split <;> rename_i h2
    · rw [if_pos (by omega)]; omega
    · rw [if_neg (by omega)]
theorem list_set_set {α : Type} (l : List α) (i : Nat) (x y : α) : (l.set i x).set i y = l.set i y := by
  rw [List.set_set]
theorem parL_zero (s : ByteArray) : ∀ i j, j < 32 → i ≤ 2 * j → (parL s i).getD j 0 = 0
  | 0, j, hj, _ => by
    unfold parL
    rw [List.getD_eq_getElem?_getD, List.getElem?_replicate, if_pos hj]
    rfl
  | i + 1, j, hj, h => by
    rw [parL, List.getD_eq_getElem?_getD, List.getElem?_set_ne (by omega), ← List.getD_eq_getElem?_getD]
    exact parL_zero s i j hj (by omega)
theorem parL_two (s : ByteArray) (i : Nat) (hi : i < 32) (ha : digN (chr s (2 * i)) < 16) (hb : digN (chr s (2 * i + 1)) < 16) :
    parL s (2 * (i + 1)) = (parL s (2 * i)).set i (UInt8.ofNat (16 * digN (chr s (2 * i)) + digN (chr s (2 * i + 1)))) := by
  rw [show 2 * (i + 1) = 2 * i + 1 + 1 from by omega, parL, parL, show (2 * i + 1) / 2 = i from by omega, show 2 * i / 2 = i from by omega, parL_zero s (2 * i) i hi (by omega), List.set_set]
  congr 2
  rw [List.getD_eq_getElem?_getD, List.getElem?_set_self (by rw [parL_len]; omega)]
  simp
  omega

set_option maxHeartbeats 4000000 in
set_option maxRecDepth 100000 in
theorem refParse (w : World) (s : ByteArray) (hs : s.size ≤ 9223372036854775807) :
    Calls Tryd.prog 26 #[.string s] w fun e w' => e = .returned (.tuple #[parseV (parseL s), .bool (parseL s).isSome]) ∧ Ext w w' := by
  have hl : z32.length = 32 := rfl
  by_cases h64 : s.size = 64
  · go_enter Tryd.func26, Tryd.ntmps26
    go_wp2_with fail
    have b0 := blk_old (o := .cells (z32.map bc).toArray 25) (heap_alloc_new w (.cells (z32.map bc).toArray 25))
    have b1 := blk_new (w := w.alloc (.cells (z32.map bc).toArray 25)) (b := w.heap.size + 1) (o := .cells (z32.map bc).toArray 25) (by simp)
    have X1 : Ext w ((w.alloc (.cells (z32.map bc).toArray 25)).alloc (.cells (z32.map bc).toArray 25)) := ((Ext.refl w).alloc _).alloc _
    generalize hG : w.heap.size = G at *
    go_loopg [5] 32 (fun g s5 wr => ∃ k : Nat, k ≤ 32 ∧ 32 - k ≤ g ∧ s5 = .int .i64 k ∧ digsTo s (2 * k) ∧ wr.heap[G]? = some (.cells (z32.map bc).toArray 25 (0, 0)) ∧ wr.heap[G + 1]? = some (.cells ((parL s (2 * k)).map bc).toArray 25 (0, 0)) ∧ Ext w wr)
    case atStart => exact ⟨0, Nat.zero_le _, by omega, rfl, fun j hj => absurd hj (by omega), b0, b1, X1⟩
    case round =>
      clear b0 b1 X1
      obtain ⟨i, hi, hg, rfl, hdig, b0, b1, xr⟩ := hrel
      by_cases hlt : i < 32
      · have hP := parL_two s i hlt
        have hc1 := chr_lt s (2 * i)
        have hix1 := fun w => run_index_str w s (2 * i) (by omega)
        have hc2 := chr_lt s (2 * i + 1)
        have hix2 := fun w => run_index_str w s (2 * i + 1) (by omega)
        have hz1 := digZ_N (chr s (2 * i))
        have hz2 := digZ_N (chr s (2 * i + 1))
        rw [show ((2 * i : Nat) : Int) = 2 * (i : Int) from by omega] at hix1
        rw [show ((2 * i + 1 : Nat) : Int) = 2 * (i : Int) + 1 from by omega] at hix2
        have hhd : digsTo s (2 * (i + 1)) ↔ digN (chr s (2 * i)) < 16 ∧ digN (chr s (2 * i + 1)) < 16 := by
          constructor
          · intro h; exact ⟨h _ (by omega), h _ (by omega)⟩
          · rintro ⟨h1, h2⟩ j hj
            by_cases e1 : j = 2 * i
            · subst e1; exact h1
            · by_cases e2 : j = 2 * i + 1
              · subst e2; exact h2
              · exact hdig j (by omega)
        generalize chr s (2 * i) = c1 at *
        generalize chr s (2 * i + 1) = c2 at *
        generalize hd1 : digN c1 = d1 at *
        generalize hd2 : digN c2 = d2 at *
        clear hd1 hd2
        have hcell : wr.cell? ⟨G + 1, i, none⟩ = some (.int .u8 (((parL s (2 * i)).getD i 0).toNat : Int)) := by rw [block_cell b1]; exact bc_getD _ _ (by rw [parL_len]; omega)
        have hfree := block_free b1 i
        have HB0 := Lib.hid b0
        have HB1 := Lib.hid b1
        have H64 := Lib.hid h64
        have HG := Lib.hid hG
        have HHD := Lib.hid hhd
        have HP := Lib.hid hP
        have hw1 : IntKind.i64.wrap (2 * (i : Int)) = 2 * (i : Int) := IntWalk.i64_in _ (by omega)
        have hw2 : IntKind.i64.wrap (2 * (i : Int) + 1) = 2 * (i : Int) + 1 := IntWalk.i64_in _ (by omega)
        by_cases hboth : d1 < 16 ∧ d2 < 16
        · have hst := HHD.out.2 hboth
          have HPP := Lib.hid (hP hboth.1 hboth.2)
          have HST := Lib.hid hst
          obtain ⟨hd1, hd2⟩ := hboth
          rw [if_pos hd1] at hz1
          rw [if_pos hd2] at hz2
          clear hP HP b0 b1 hhd h64 hG hst hdig
          go_wp2_with fail
          go_quiet ((go_at_call 41; exact Calls.quiet_of_same (refDigit _ _ (by assumption))))
          go_wp2_with fail
          go_roundg (32 - (i + 1))
          case measure => omega
          case rel =>
            have hG := HG.out
            have hb1 := block_setCell (((Ext.refl wr).drewN nq).keeps HB1.out) (i := i) (bc (UInt8.ofNat (16 * d1 + d2)))
            rw [map_set, ← HPP.out] at hb1
            refine ⟨i + 1, by omega, by omega, by go_num, HST.out, set_other (((Ext.refl wr).drewN nq).keeps HB0.out) (by omega), ?_, (xr.drewN nq).setCell (p := ⟨_, _, none⟩) (by simp only; omega) _⟩
            rw [← hb1, bc_ofNat]
            congr 4
            omega
        · have hnn := parse_no (s := s) (fun h => by
            have h1 := hhd.1 (fun j hj => h.2 j (by omega))
            exact hboth h1)
          have HNN := Lib.hid hnn
          have hzz : (digZ c1 : Int) < 0 ∨ ¬ (digZ c1 : Int) < 0 ∧ digZ c2 < 0 := by
            by_cases h1 : d1 < 16
            · right
              have h2 : ¬ d2 < 16 := fun h => hboth ⟨h1, h⟩
              rw [if_pos h1] at hz1
              rw [if_neg h2] at hz2
              omega
            · left
              rw [if_neg h1] at hz1
              omega
          clear hP HP b0 b1 hhd h64 hG hdig hnn hz1 hz2 hboth
          rcases hzz with hn1 | ⟨hn1, hn2⟩
          · have hd1 : decide (digZ c1 < 0) = true := by simpa using hn1
            go_wp2_with fail
            go_quiet ((go_at_call 41; exact Calls.quiet_of_same (refDigit _ _ (by assumption))))
            go_wp2_with (refine wpList_store_row rfl 25 (.tmp 2) (.tmp 33) rfl G (z32.map bc).toArray (by rfl) (by rfl) 25 _ (((Ext.refl _).drewN _).keeps HB0.out) (id_size hl) (id_same rfl hl) (id_one _) ?_)
            have hG := HG.out
            have hfin : ((wr.drewN nq).setRow G (z32.map bc).toArray).heap[G]? = some (.cells (z32.map bc).toArray 25 (0, 0)) := setRow_heap _ _ _ _ _ _ (((Ext.refl _).drewN _).keeps HB0.out)
            have xfin : Ext w ((wr.drewN nq).setRow G (z32.map bc).toArray) := (xr.drewN _).grown grown_setRow (fun k hk => by cases hk; omega)
            exact bodyPost_ret (results_cell_tmp rfl _ _ G _ _ _ _ (by rfl) hfin Tryd.underlying25 rfl (id_size hl)) rfl ⟨by rw [HNN.out]; rfl, xfin⟩
          · have hd1 : decide (digZ c1 < 0) = false := by simpa using hn1
            have hd2 : decide (digZ c2 < 0) = true := by simpa using hn2
            go_wp2_with fail
            go_quiet ((go_at_call 41; exact Calls.quiet_of_same (refDigit _ _ (by assumption))))
            go_wp2_with (refine wpList_store_row rfl 25 (.tmp 2) (.tmp 33) rfl G (z32.map bc).toArray (by rfl) (by rfl) 25 _ (((Ext.refl _).drewN _).keeps HB0.out) (id_size hl) (id_same rfl hl) (id_one _) ?_)
            have hG := HG.out
            have hfin : ((wr.drewN nq).setRow G (z32.map bc).toArray).heap[G]? = some (.cells (z32.map bc).toArray 25 (0, 0)) := setRow_heap _ _ _ _ _ _ (((Ext.refl _).drewN _).keeps HB0.out)
            have xfin : Ext w ((wr.drewN nq).setRow G (z32.map bc).toArray) := (xr.drewN _).grown grown_setRow (fun k hk => by cases hk; omega)
            exact bodyPost_ret (results_cell_tmp rfl _ _ G _ _ _ _ (by rfl) hfin Tryd.underlying25 rfl (id_size hl)) rfl ⟨by rw [HNN.out]; rfl, xfin⟩
      · obtain rfl : i = 32 := by omega
        have hy := parse_yes h64 hdig
        have HY := Lib.hid hy
        have hlR := parL_len s 64
        rw [show 2 * 32 = 64 from rfl] at b1
        generalize parL s 64 = R at *
        have HG := Lib.hid hG
        clear hy h64 hdig hG
        go_wp2_with (first
          | (refine wpList_load_row rfl 25 (.tmp 4) rfl (G + 1) (by rfl) 25 (R.map bc).toArray (0, 0) _ b1 Tryd.underlying25 rfl (id_size hlR) ?_)
          | (refine wpList_store_row rfl 25 (.tmp 2) (.tmp 41) rfl G (R.map bc).toArray (by rfl) (by rfl) 25 _ b0 (id_size hlR) (id_same rfl hlR) (id_one _) ?_))
        have hfin : (wr.setRow G (R.map bc).toArray).heap[G]? = some (.cells (R.map bc).toArray 25 (0, 0)) := setRow_heap _ _ _ _ _ _ b0
        have hG := HG.out
        have xfin : Ext w (wr.setRow G (R.map bc).toArray) := xr.grown grown_setRow (fun k hk => by cases hk; omega)
        refine bodyPost_ret (results_cell_tmp rfl _ _ G _ _ _ _ (by rfl) hfin Tryd.underlying25 rfl (id_size hlR)) rfl ⟨?_, xfin⟩
        rw [HY.out]
        rfl
  · have hn := parse_no (s := s) (fun h => h64 h.1)
    rw [hn]
    have hne : ((s.size : Int) != 64) = true := by rw [bne_iff_ne]; omega
    go_enter Tryd.func26, Tryd.ntmps26
    go_wp2_with (first
      | (refine wpList_load_row rfl 25 (.tmp 4) rfl (w.heap.size + 1) (by rfl) 25 (z32.map bc).toArray (0, 0) _ (blk_new (by simp)) Tryd.underlying25 rfl (id_size hl) ?_)
      | (refine wpList_store_row rfl 25 (.tmp 2) (.tmp 11) rfl w.heap.size (z32.map bc).toArray (by rfl) (by rfl) 25 _ (blk_old (heap_alloc_new w (.cells (z32.map bc).toArray 25))) (id_size hl) (id_same hl hl) (id_one _) ?_))
    have hfin := setRow_heap _ w.heap.size (z32.map bc).toArray (z32.map bc).toArray 25 (0, 0) (blk_old (o := .cells (z32.map bc).toArray 25) (heap_alloc_new w (.cells (z32.map bc).toArray 25)))
    exact bodyPost_ret (results_cell_tmp rfl _ _ w.heap.size _ _ _ _ (by rfl) hfin Tryd.underlying25 rfl (id_size hl)) rfl ⟨rfl, (((Ext.refl w).alloc _).alloc _).grown grown_setRow (fun k hk => by cases hk; omega)⟩

theorem dig_cut : ∀ k : Nat, k < 16 → (⟨#[48, 49, 50, 51, 52, 53, 54, 55, 56, 57, 97, 98, 99, 100, 101, 102]⟩ : ByteArray).extract k (k + 1) = ⟨#[digS.getD k 0]⟩ := by
  intro k hk
  have h : ∀ k : Nat, k < 16 → ((⟨#[48, 49, 50, 51, 52, 53, 54, 55, 56, 57, 97, 98, 99, 100, 101, 102]⟩ : ByteArray).extract k (k + 1)).data.toList = [digS.getD k 0] := by decide +kernel
  have h2 := h k hk
  generalize (⟨#[48, 49, 50, 51, 52, 53, 54, 55, 56, 57, 97, 98, 99, 100, 101, 102]⟩ : ByteArray).extract k (k + 1) = x at *
  obtain ⟨⟨x⟩⟩ := x
  simp at h2
  subst h2
  rfl
theorem run_slice_dig (w : World) (k : Nat) (hk : k < 16) :
    (Instr.slice 9 (.string ⟨#[48, 49, 50, 51, 52, 53, 54, 55, 56, 57, 97, 98, 99, 100, 101, 102]⟩) (some (.int .i64 (k : Int))) (some (.int .i64 ((k : Int) + 1))) none).run Tryd.prog w = .ok (.string ⟨#[digS.getD k 0]⟩) w := by
  have e : ((⟨#[48, 49, 50, 51, 52, 53, 54, 55, 56, 57, 97, 98, 99, 100, 101, 102]⟩ : ByteArray).size) = 16 := rfl
  have h := run_slice_string (P := Tryd.prog) w 9 ⟨#[48, 49, 50, 51, 52, 53, 54, 55, 56, 57, 97, 98, 99, 100, 101, 102]⟩ .i64 .i64 (k : Int) ((k : Int) + 1) Tryd.underlying9 (by omega) (by omega) (by omega)
  rw [h]
  congr 2
  exact dig_cut k hk
theorem textL_len (l : List UInt8) : (textL l).length = 2 * l.length := by
  induction l with
  | nil => rfl
  | cons c l ih => simp only [textL, List.flatMap_cons, List.length_append] at ih ⊢; simp only [hexB, List.length_cons, List.length_nil]; omega
theorem str_app (a b : List UInt8) : (⟨a.toArray⟩ : ByteArray) ++ ⟨b.toArray⟩ = ⟨(a ++ b).toArray⟩ := by
  apply ByteArray.ext
  simp [ByteArray.data_append]

set_option maxHeartbeats 4000000 in
set_option maxRecDepth 100000 in
theorem refText (w : World) (l : List UInt8) (hl : l.length = 32) :
    Calls Tryd.prog 27 #[.agg (l.map bc).toArray] w fun e w' => e = .returned (.string ⟨(textL l).toArray⟩) ∧ Ext w w' := by
  have hQi : ∀ i (hi : i < l.length), (l.map bc).toArray[i]? = some (.int .u8 (l[i].toNat : Int)) := by
    intro i hi
    simp [bc, hi]
  generalize (l.map bc).toArray = QA at *
  go_enter Tryd.func27, Tryd.ntmps27
  go_wp2_with fail
  have b0 := heap_alloc_new w (.cells QA 25)
  have X1 : Ext w (w.alloc (.cells QA 25)) := (Ext.refl w).alloc _
  generalize hG : w.heap.size = G at *
  go_loopg [3, 4] 32 (fun g s3 s4 wr => ∃ i : Nat, i ≤ 32 ∧ 32 - i ≤ g ∧ s4 = .int .i64 i ∧ s3 = .string ⟨(textL (l.take i)).toArray⟩ ∧ wr.heap[G]? = some (.cells QA 25 (0, 0)) ∧ Ext w wr)
  case atStart => exact ⟨0, Nat.zero_le _, by omega, rfl, rfl, b0, X1⟩
  case round =>
    clear b0 X1
    obtain ⟨r, hi, hg, rfl, rfl, b0, xr⟩ := hrel
    by_cases hlt : r < 32
    · have hcell : wr.cell? ⟨G, r, none⟩ = some (.int .u8 (l[r].toNat : Int)) := by rw [block_cell b0]; exact hQi r (by omega)
      have hstep : textL (l.take (r + 1)) = textL (l.take r) ++ hexB l[r] := by
        unfold textL
        rw [List.take_add_one, List.getElem?_eq_getElem (by omega), List.flatMap_append]
        simp
      obtain ⟨c, hc⟩ : ∃ c : Nat, l[r].toNat = c := ⟨_, rfl⟩
      have hc2 : c < 256 := by rw [← hc]; exact l[r].toNat_lt
      have hhex : hexB l[r] = [digS.getD (c / 16) 0, digS.getD (c % 16) 0] := by unfold hexB; rw [hc]
      rw [hhex] at hstep
      rw [hc] at hcell
      have HS := Lib.hid hstep
      have HB0 := Lib.hid b0
      have HG := Lib.hid hG
      have hQi' := Lib.hid hQi
      clear hstep hhex hc b0 hG hQi
      have hT : (textL (l.take r)).length ≤ 64 := by rw [textL_len, List.length_take]; omega
      generalize textL (l.take r) = T at *
      have hT1 : T.length + 1 ≤ 9223372036854775807 := by omega
      have hT2 : T.length + 1 + 1 ≤ 9223372036854775807 := by omega
      obtain ⟨a, ha⟩ : ∃ a : Nat, c / 16 = a := ⟨_, rfl⟩
      obtain ⟨b, hb⟩ : ∃ b : Nat, c % 16 = b := ⟨_, rfl⟩
      rw [ha, hb] at HS
      have e1 : ((c : Int)).tdiv 16 = (a : Int) := by rw [Int.tdiv_eq_ediv_of_nonneg (by omega)]; omega
      have e2 : ((c : Int)) / 16 = (a : Int) := by omega
      have e3 : ((c : Int)).tmod 16 = (b : Int) := by rw [Int.tmod_eq_emod_of_nonneg (by omega)]; omega
      have e4 : ((c : Int)) % 16 = (b : Int) := by omega
      have a1 : (a : Int) < 16 := by omega
      have b1 : (b : Int) < 16 := by omega
      have w1 : IntKind.i64.wrap ((a : Int) + 1) = (a : Int) + 1 := IntWalk.i64_in _ (by omega)
      have w2 : IntKind.i64.wrap ((b : Int) + 1) = (b : Int) + 1 := IntWalk.i64_in _ (by omega)
      have t1 : ((a : Int) + 1).toNat = a + 1 := by omega
      have t2 : ((b : Int) + 1).toNat = b + 1 := by omega
      have s1 := fun w => run_slice_dig w a (by omega)
      have s2 := fun w => run_slice_dig w b (by omega)
      clear ha hb
      go_wp2_with fail
      go_quiet (fail)
      go_wp2_with fail
      go_roundg (32 - (r + 1))
      case measure => omega
      case rel =>
        refine ⟨r + 1, by omega, by omega, by go_num, ?_, ((Ext.refl wr).drewN nq).keeps HB0.out, xr.drewN nq⟩
        rw [HS.out]
        simp only [List.getD_eq_getElem?_getD]
        congr 1
        rw [show (⟨#[digS[a]?.getD 0]⟩ : ByteArray) = ⟨[digS[a]?.getD 0].toArray⟩ from rfl, show (⟨#[digS[b]?.getD 0]⟩ : ByteArray) = ⟨[digS[b]?.getD 0].toArray⟩ from rfl, str_app, str_app, List.append_assoc]
        rfl
    · obtain rfl : r = 32 := by omega
      rw [List.take_of_length_le (by omega)]
      go_wp2
      go_ret
      exact ⟨rfl, xr⟩
end Go.Proofs.YtfnmfnihgocheaaDoor
