/- Backup: the document's notes: RightNote, SameNote, Bytes. -/
import Derived.Test.YtkcddcomjbihgaaDoorBkV
import Derived.Test.YtkcddcomjbihgaaDoorShF
import Derived.Test.YtkcddcomjbihgaaDoorOctF
namespace Go.Proofs.YtkcddcomjbihgaaDoor
open Go.RowKit
set_option linter.unusedVariables false
set_option linter.unusedSimpArgs false

set_option maxHeartbeats 2000000 in
theorem rbNoted (w : World) (vb : Value) (n : Nt) (h : IsB w vb n.bytes) :
    Calls Tryd.prog 11 #[.agg #[.int .i64 n.kind, .int .u32 (n.view : Int), .int .u32 (n.mark.1 : Int), .int .u32 (n.mark.2 : Int), .int .u32 (n.prev.1 : Int), .int .u32 (n.prev.2 : Int), vb]] w fun e w' => e = .returned (.bool (notedB n)) ∧ Ext w w' := by
  obtain ⟨ao, cap, rfl, b1, m1, z1, -⟩ := h.opened
  generalize hR : notedB n = R
  have HR := Lib.hid hR
  clear hR z1 h
  have heq := mkEql
  have heq0 := mkEql0
  go_enter Tryd.func11, Tryd.ntmps11
  go_wp2_with fail
  all_goals clear heq heq0
  all_goals
    go_ret
    refine ⟨ret_bool ?_, ((Ext.refl w).alloc _).alloc _⟩
    rw [← HR.out]
    first
      | (simp [notedB, plainB, *]; done)
      | (have q3 : n.kind = 3 := by simpa using ‹(n.kind == 3) = true›
         rw [Bool.eq_iff_iff]
         simp [notedB, plainB, q3]
         omega)
      | (have q4 : n.kind = 4 := by simpa using ‹(n.kind == 4) = true›
         have qm := ‹meq n.prev m0 = true›
         rw [Bool.eq_iff_iff]
         simp [notedB, plainB, q4, qm]
         omega)
      | (simp [notedB, plainB, *]; omega)
def sameN (a b : Nt) : Bool := a.kind == b.kind && (((a.view : Int) == (b.view : Int)) && (meq a.mark b.mark && (meq a.prev b.prev && a.bytes == b.bytes)))
set_option maxHeartbeats 2000000 in
set_option maxRecDepth 100000 in
theorem rbSameNote (w : World) (va vb : Value) (a b : Nt) (ha : IsB w va a.bytes) (hb : IsB w vb b.bytes) :
    Calls Tryd.prog 16 #[.agg #[.int .i64 a.kind, .int .u32 (a.view : Int), .int .u32 (a.mark.1 : Int), .int .u32 (a.mark.2 : Int), .int .u32 (a.prev.1 : Int), .int .u32 (a.prev.2 : Int), va], .agg #[.int .i64 b.kind, .int .u32 (b.view : Int), .int .u32 (b.mark.1 : Int), .int .u32 (b.mark.2 : Int), .int .u32 (b.prev.1 : Int), .int .u32 (b.prev.2 : Int), vb]] w fun e w' => e = .returned (.bool (sameN a b)) ∧ Ext w w' := by
  have X := ((Ext.refl w).alloc (.cells #[.int .i64 a.kind, .int .u32 (a.view : Int), .int .u32 (a.mark.1 : Int), .int .u32 (a.mark.2 : Int), .int .u32 (a.prev.1 : Int), .int .u32 (a.prev.2 : Int), va] 30)).alloc (.cells #[.int .i64 b.kind, .int .u32 (b.view : Int), .int .u32 (b.mark.1 : Int), .int .u32 (b.mark.2 : Int), .int .u32 (b.prev.1 : Int), .int .u32 (b.prev.2 : Int), vb] 30)
  have c1 := conv_str (P := Tryd.prog) (ha.ext X) 28 9 5 Tryd.underlying28 Tryd.underlying5 Tryd.underlying9
  have c2 := conv_str (P := Tryd.prog) (hb.ext X) 28 9 5 Tryd.underlying28 Tryd.underlying5 Tryd.underlying9
  obtain ⟨a1, k1, rfl, -⟩ := ha.opened
  obtain ⟨a2, k2, rfl, -⟩ := hb.opened
  generalize hR : sameN a b = R
  have HR := Lib.hid hR
  clear hR ha hb
  have HX := Lib.hid X
  clear X
  have heq := mkEql
  go_enter Tryd.func16, Tryd.ntmps16
  go_upto_region 1 with fail
  refine wp_forget (fun W => Ext w W ∧ W.heap[w.heap.size]? = some (.cells #[.int .i64 a.kind, .int .u32 (a.view : Int), .int .u32 (a.mark.1 : Int), .int .u32 (a.mark.2 : Int), .int .u32 (a.prev.1 : Int), .int .u32 (a.prev.2 : Int), (.slice a1 a.bytes.length k1)] 30 (0, 0)) ∧ W.heap[w.heap.size + 1]? = some (.cells #[.int .i64 b.kind, .int .u32 (b.view : Int), .int .u32 (b.mark.1 : Int), .int .u32 (b.mark.2 : Int), .int .u32 (b.prev.1 : Int), .int .u32 (b.prev.2 : Int), (.slice a2 b.bytes.length k2)] 30 (0, 0)) ∧ (convert 28 9 (.slice a1 a.bytes.length k1)).run Tryd.prog W = .ok (.string ⟨a.bytes.toArray⟩) W ∧ (convert 28 9 (.slice a2 b.bytes.length k2)).run Tryd.prog W = .ok (.string ⟨b.bytes.toArray⟩) W) ⟨HX.out, blk_old (heap_alloc_new w _), blk_new (by simp), c1, c2⟩ ?_
  rintro W ⟨X, bA, bB, c1, c2⟩
  have HX := Lib.hid X
  have k1 := block_all bA
  have k2 := block_all bB
  clear X bA bB
  cases q1 : (a.kind == b.kind) with
  | false =>
    go_wp2_with fail
    go_ret
    exact ⟨ret_bool (by rw [← HR.out]; simp only [sameN, q1, Bool.false_and]), HX.out⟩
  | true =>
    cases q2 : ((a.view : Int) == (b.view : Int)) with
    | false =>
      go_wp2_with fail
      go_ret
      exact ⟨ret_bool (by rw [← HR.out]; simp only [sameN, q1, q2, Bool.false_and, Bool.true_and]), HX.out⟩
    | true =>
      cases q3 : meq a.mark b.mark with
      | false =>
        go_wp2_with fail
        go_ret
        exact ⟨ret_bool (by rw [← HR.out]; simp only [sameN, q1, q2, q3, Bool.false_and, Bool.true_and]), HX.out⟩
      | true =>
        cases q4 : meq a.prev b.prev with
        | false =>
          go_wp2_with fail
          go_ret
          exact ⟨ret_bool (by rw [← HR.out]; simp only [sameN, q1, q2, q3, q4, Bool.false_and, Bool.true_and]), HX.out⟩
        | true =>
          go_wp2_with fail
          go_ret
          exact ⟨ret_bool (by rw [← HR.out]; simp [sameN, q1, q2, q3, q4]), HX.out⟩
set_option maxHeartbeats 2000000 in
set_option maxRecDepth 100000 in
theorem rbBytes (w : World) (vb : Value) (n : Nt) (h : IsB w vb n.bytes) (ho : NtOk n) (hb : n.bytes.length ≤ 50000) :
    Calls Tryd.prog 13 #[.agg #[.int .i64 n.kind, .int .u32 (n.view : Int), .int .u32 (n.mark.1 : Int), .int .u32 (n.mark.2 : Int), .int .u32 (n.prev.1 : Int), .int .u32 (n.prev.2 : Int), vb]] w fun e w' => ∃ v', e = .returned v' ∧ OwnB w' w.heap.size v' (encN n) ∧ Ext w w' := by
  obtain ⟨ao, cap, rfl, b1, m1, z1, -⟩ := h.opened
  obtain ⟨k, hk⟩ : ∃ k : Nat, n.kind % 256 = (k : Int) := ⟨(n.kind % 256).toNat, by omega⟩
  have H := Lib.hid h
  clear z1 h
  go_enter Tryd.func13, Tryd.ntmps13
  go_upto_region 3 with fail
  refine wp_forget (fun W => Ext w W ∧ W.heap[w.heap.size]? = some (.cells #[.int .i64 n.kind, .int .u32 (n.view : Int), .int .u32 (n.mark.1 : Int), .int .u32 (n.mark.2 : Int), .int .u32 (n.prev.1 : Int), .int .u32 (n.prev.2 : Int), (.slice ao n.bytes.length cap)] 30 (0, 0)) ∧ W.ownsRow w.heap.size 5 1 (.slice (some ⟨w.heap.size + 1, 0, none⟩) 1 1) 1 (([UInt8.ofNat (n.kind % 256).toNat]).map bc) ∧ W.heap[w.heap.size + 2]? = some (.cells #[.int .u32 (n.view : Int), .int .u32 (n.mark.1 : Int), .int .u32 (n.mark.2 : Int), .int .u32 (n.prev.1 : Int), .int .u32 (n.prev.2 : Int), .int .u32 (n.bytes.length : Int)] 25 (0, 0))) ⟨?_, ?_, ?_, ?_⟩ ?_
  · exact (((Ext.refl w).alloc _).alloc _).alloc _
  · exact blk_old (blk_old (heap_alloc_new w _))
  · refine ownsRow_ext (?_ : (((w.alloc (.cells #[.int .i64 n.kind, .int .u32 (n.view : Int), .int .u32 (n.mark.1 : Int), .int .u32 (n.mark.2 : Int), .int .u32 (n.prev.1 : Int), .int .u32 (n.prev.2 : Int), (.slice ao n.bytes.length cap)] 30)).alloc (.cells #[.int .u8 (k : Int)] 5))).ownsRow _ _ _ _ _ _) ((Ext.refl _).alloc _)
    have := own_new (w.alloc (.cells #[.int .i64 n.kind, .int .u32 (n.view : Int), .int .u32 (n.mark.1 : Int), .int .u32 (n.mark.2 : Int), .int .u32 (n.prev.1 : Int), .int .u32 (n.prev.2 : Int), (.slice ao n.bytes.length cap)] 30)) [.int .u8 (k : Int)] 1 1 w.heap.size 5 (by simp) rfl (by decide)
    rw [show ([UInt8.ofNat (n.kind % 256).toNat]).map bc = [.int .u8 (k : Int)] from by simp [hk, bc_ofNat]; omega]
    simpa using this
  · exact blk_new (by simp)
  rintro W ⟨X, bN, own, bL⟩
  have HX := Lib.hid X
  have hl : ∀ x ∈ [n.view, n.mark.1, n.mark.2, n.prev.1, n.prev.2, n.bytes.length], x < 4294967296 := by
    have h1 := ho.view; have h2 := ho.mark; have h3 := ho.prev
    unfold mkOk at h2 h3
    intro x hx
    simp only [List.mem_cons, List.not_mem_nil, or_false] at hx
    rcases hx with rfl | rfl | rfl | rfl | rfl | rfl <;> omega
  have bL : W.heap[w.heap.size + 2]? = some (.cells ([n.view, n.mark.1, n.mark.2, n.prev.1, n.prev.2, n.bytes.length].map u4).toArray 25 (0, 0)) := bL
  obtain ⟨L, hL⟩ : ∃ L, [n.view, n.mark.1, n.mark.2, n.prev.1, n.prev.2, n.bytes.length] = L := ⟨_, rfl⟩
  have hLl : L.length = 6 := by rw [← hL]; rfl
  obtain ⟨B, hB⟩ : ∃ B, [UInt8.ofNat (n.kind % 256).toNat] = B := ⟨_, rfl⟩
  have hBl : B.length = 1 := by rw [← hB]; rfl
  have HBody := Lib.hid (show ntBody n = B ++ L.flatMap (fun x => be x 4) ++ n.bytes by unfold ntBody; rw [hB, hL])
  have HEnc := Lib.hid (show encN n = ntBody n ++ shaL (ntBody n) from rfl)
  rw [hL] at hl bL
  rw [hB] at own
  have HBL := Lib.hid bL
  have HBN := Lib.hid bN
  have HLl := Lib.hid hLl
  have HBl := Lib.hid hBl
  clear hL hB X hLl hBl hk HBL HBN
  go_loopg [3, 5, 31] 6 (fun g s3 s5 s31 wr => ∃ k : Nat, k ≤ 6 ∧ 6 - k ≤ g ∧ s31 = .int .i64 (k : Int) ∧ wr.ownsRow w.heap.size 5 1 s3 (1 + 4 * k) ((B ++ (L.take k).flatMap (fun x => be x 4)).map bc) ∧ Ext w wr ∧ wr.heap[w.heap.size]? = some (.cells #[.int .i64 n.kind, .int .u32 (n.view : Int), .int .u32 (n.mark.1 : Int), .int .u32 (n.mark.2 : Int), .int .u32 (n.prev.1 : Int), .int .u32 (n.prev.2 : Int), (.slice ao n.bytes.length cap)] 30 (0, 0)) ∧ wr.heap[w.heap.size + 2]? = some (.cells (L.map u4).toArray 25 (0, 0)))
  case atStart => exact ⟨0, by omega, by omega, rfl, by simpa using own, HX.out, bN, bL⟩
  case round =>
    clear bN bL own
    obtain ⟨k, hk, hg, rfl, own, xr, bN, bL⟩ := hrel
    have HBL := Lib.hid bL
    have HBN := Lib.hid bN
    by_cases hlt : k < 6
    · have e0 : wr.cell? ⟨w.heap.size + 2, k, none⟩ = some (.int .u32 ((L[k]'(by rw [HLl.out]; exact hlt)) : Int)) := by
        rw [block_all bL]
        simp [u4, HLl.out, hlt]
      have hst : (L.take (k + 1)).flatMap (fun x => be x 4) = (L.take k).flatMap (fun x => be x 4) ++ be (L[k]'(by rw [HLl.out]; exact hlt)) 4 := by
        rw [List.take_succ_eq_append_getElem (by rw [HLl.out]; exact hlt), List.flatMap_append]; simp
      have hx := hl _ (List.getElem_mem (by rw [HLl.out]; exact hlt))
      have HST := Lib.hid hst
      have hbz : w.heap.size ≤ wr.heap.size := xr.size
      obtain ⟨a1, c1, rfl⟩ := own_shape own
      clear hst bN bL
      generalize (L.take k).flatMap (fun x => be x 4) = T at *
      generalize L[k]'(by rw [HLl.out]; exact hlt) = x at *
      have HOwn := Lib.hid own
      clear own
      go_wp2_with fail
      refine (refHigh _ x 4 (by omega) (by omega)).mono ?_
      rintro e w2 ⟨v2, rfl, own2, x2⟩
      have own := ownsRow_ext HOwn.out x2
      have is2 := IsSl.of_owns own2
      obtain ⟨a2, c2, rfl⟩ := own_shape own2
      have hz2 : w.heap.size ≤ w2.heap.size := Nat.le_trans hbz x2.size
      clear own2 e0
      go_wp2_with (at_builtin; go_must (refine wp_app tyB rfl _ _ rfl w.heap.size _ (1 + 4 * k) _ own (by rfl) _ 4 ((be x 4).map bc) is2 (by rfl) (bc_one _) (by omega) (by omega) hz2 ?_); intro v3 w3 own3 gr3)
      have x3 := own_base own gr3 (xr.trans x2) (Nat.le_refl _)
      go_roundg (6 - (k + 1))
      case measure => omega
      case rel =>
        refine ⟨k + 1, by omega, by omega, by go_num, ?_, x3, grown_keep gr3 (x2.keeps HBN.out) (own_neT own (x2.keeps HBN.out) (by decide)), grown_keep gr3 (x2.keeps HBL.out) (own_neT own (x2.keeps HBL.out) (by decide))⟩
        rw [HST.out, ← List.append_assoc, List.map_append, show 1 + 4 * (k + 1) = 1 + 4 * k + 4 from by omega]
        exact own3
    · obtain rfl : k = 6 := by omega
      rw [List.take_of_length_le (by rw [HLl.out]; exact Nat.le_refl _)] at own
      have hLf : (L.flatMap (fun x => be x 4)).length = 24 := by
        rw [flat_lenU (fun x => be x 4) 4 _ (fun _ _ => be_length _ _), HLl.out]
      have hBB := HBody.out
      obtain ⟨Q, hQ⟩ : ∃ Q, B ++ L.flatMap (fun x => be x 4) = Q := ⟨_, rfl⟩
      have hQl : Q.length = 25 := by rw [← hQ, List.length_append, HBl.out, hLf]
      rw [hQ] at own hBB
      have HBB := Lib.hid hBB
      clear hQ hBB hLf bL
      have hcN := block_all bN
      obtain ⟨a1, c1, rfl⟩ := own_shape own
      have hxb := H.out.ext xr
      have own : wr.ownsRow w.heap.size 5 1 (.slice a1 25 c1) 25 (Q.map bc) := own
      clear HBL HBN
      go_wp2_with (at_builtin; go_must (refine wp_app tyB rfl _ _ rfl w.heap.size _ 25 _ own (by rfl) _ n.bytes.length (n.bytes.map bc) hxb (by rfl) (bc_one _) (by omega) (by omega) xr.size ?_); intro v2 w2 own2 gr2)
      have x2 := own_base own gr2 xr (Nat.le_refl _)
      have own2 : w2.ownsRow w.heap.size 5 1 v2 (25 + n.bytes.length) ((Q ++ n.bytes).map bc) := by rw [List.map_append]; exact own2
      have hLq : (Q ++ n.bytes).length = 25 + n.bytes.length := by simp [hQl]
      have hBB := HBB.out
      generalize Q ++ n.bytes = D at *
      have HEncD := Lib.hid (show encN n = D ++ shaL D by rw [HEnc.out, hBB])
      clear own gr2 hcN hxb hQl hBB HBody HEnc HBB bN
      obtain ⟨a2, c2, rfl⟩ := own_shape own2
      refine (refSum _ _ D (IsB.of_owns own2) (by omega)).mono ?_
      rintro e w3 ⟨rfl, x3⟩
      have hSl := shaL_len D
      have own3 := ownsRow_ext own2 x3
      have X3 := x2.trans x3
      generalize shaL D = S at *
      have hfit : (Tryd.prog.info? 98).map (·.size) = some (S.map bc).toArray.size := by rw [List.size_toArray, List.length_map, hSl]; kernel_rfl
      have hone := id_oneE S
      have bz := heap_alloc_new w3 (.cells #[.int .u8 0, .int .u8 0, .int .u8 0, .int .u8 0, .int .u8 0, .int .u8 0, .int .u8 0, .int .u8 0, .int .u8 0, .int .u8 0, .int .u8 0, .int .u8 0, .int .u8 0, .int .u8 0, .int .u8 0, .int .u8 0, .int .u8 0, .int .u8 0, .int .u8 0, .int .u8 0, .int .u8 0, .int .u8 0, .int .u8 0, .int .u8 0, .int .u8 0, .int .u8 0, .int .u8 0, .int .u8 0, .int .u8 0, .int .u8 0, .int .u8 0, .int .u8 0] 98)
      have xz := (Ext.refl w3).alloc (.cells #[.int .u8 0, .int .u8 0, .int .u8 0, .int .u8 0, .int .u8 0, .int .u8 0, .int .u8 0, .int .u8 0, .int .u8 0, .int .u8 0, .int .u8 0, .int .u8 0, .int .u8 0, .int .u8 0, .int .u8 0, .int .u8 0, .int .u8 0, .int .u8 0, .int .u8 0, .int .u8 0, .int .u8 0, .int .u8 0, .int .u8 0, .int .u8 0, .int .u8 0, .int .u8 0, .int .u8 0, .int .u8 0, .int .u8 0, .int .u8 0, .int .u8 0, .int .u8 0] 98)
      have own4 := ownsRow_grown (ownsRow_ext own3 xz) (grown_setRow (w := w3.alloc (.cells #[.int .u8 0, .int .u8 0, .int .u8 0, .int .u8 0, .int .u8 0, .int .u8 0, .int .u8 0, .int .u8 0, .int .u8 0, .int .u8 0, .int .u8 0, .int .u8 0, .int .u8 0, .int .u8 0, .int .u8 0, .int .u8 0, .int .u8 0, .int .u8 0, .int .u8 0, .int .u8 0, .int .u8 0, .int .u8 0, .int .u8 0, .int .u8 0, .int .u8 0, .int .u8 0, .int .u8 0, .int .u8 0, .int .u8 0, .int .u8 0, .int .u8 0, .int .u8 0] 98)) (g := w3.heap.size) (c := (S.map bc).toArray)) (own_ne own3 (.inr (Nat.le_refl _)))
      have bz2 := setRow_heap _ _ _ (S.map bc).toArray _ _ bz
      have hs4 := sl_blk bz2 (S.map bc) (n := 32) (by simp [hSl]) (by simp) (by omega)
      have X4 := (X3.trans xz).grown (grown_setRow (g := w3.heap.size) (c := (S.map bc).toArray)) (fun k hk => by cases hk; exact X3.size)
      clear own2 own3 x2 x3 xz bz2
      go_wp2_with (first
        | ((with_reducible refine at_store 98 (.tmp 6) (.tmp 46) ?_); go_must (refine wpl_store rfl 98 (.tmp 6) (.tmp 46) rfl w3.heap.size (S.map bc).toArray (by rfl) (by rfl) 98 _ bz hfit (by simp [hSl]) hone ?_))
        | (at_builtin; go_must (refine wp_app tyB rfl _ _ rfl w.heap.size _ (25 + n.bytes.length) _ own4 (by rfl) _ 32 (S.map bc) hs4 (by rfl) (bc_one _) (by omega) (by omega) X4.size ?_); intro v5 w5 own5 gr5))
      go_ret
      refine ⟨v5, rfl, ?_, own_base own4 gr5 X4 (Nat.le_refl _)⟩
      unfold OwnB
      rw [HEncD.out, List.map_append, List.length_append, hLq, hSl]
      exact own5
end Go.Proofs.YtkcddcomjbihgaaDoor

namespace Go.Proofs.YtkcddcomjbihgaaDoor
open Go.RowKit
set_option linter.unusedVariables false
set_option linter.unusedSimpArgs false

/-- A note as the document reads it first. -/
def decQ (b : List UInt8) : Nt := ⟨(kF b : Int), nF b 1, (nF b 5, nF b 9), (nF b 13, nF b 17), (b.drop 25).take (nF b 21)⟩
theorem decQ_ok (b : List UInt8) : NtOk (decQ b) := ⟨(decN_ok b).kind, (decN_ok b).view, (decN_ok b).mark, (decN_ok b).prev⟩
theorem decQ_eq {b : List UInt8} (h57 : 57 ≤ b.length) (hc : b.length - 57 = nF b 21) : decQ b = decN b := by
  unfold decQ decN
  rw [List.drop_take, ← hc, show b.length - 32 - 25 = b.length - 57 from by omega]
/-- What the document's last test says. -/
theorem decQ_test {b : List UInt8} (h57 : 57 ≤ b.length) (hc : ¬ b.length - 57 < nF b 21) (hs : (shaL (b.take (b.length - 32)) == b.drop (b.length - 32)) = true) :
    (notedB (decQ b) && encN (decQ b) == b) = true ↔ decErr b = 0 := by
  rw [Bool.and_eq_true, beq_iff_eq]
  constructor
  · rintro ⟨h1, h2⟩
    have hl := encN_len (decQ b)
    have hq : (decQ b).bytes.length = nF b 21 := by
      show ((b.drop 25).take (nF b 21)).length = _
      rw [List.length_take, List.length_drop]
      omega
    rw [h2, hq] at hl
    have hc2 : b.length - 57 = nF b 21 := by omega
    rw [decQ_eq h57 hc2] at h1
    unfold decErr
    rw [if_neg (by omega), if_neg (by omega), if_neg (by rw [hs]; decide), if_neg]
    rintro (h | h)
    · exact h hc2
    · rw [h1] at h
      exact absurd h (by decide)
  · intro h
    have hn := noted_dec h
    have he := enc_dec0 h
    have hc2 : b.length - 57 = nF b 21 := by
      unfold decErr at h
      rw [if_neg (by omega), if_neg (by omega), if_neg (by rw [hs]; decide)] at h
      by_cases hq : b.length - 57 = nF b 21
      · exact hq
      · rw [if_pos (Or.inl hq)] at h
        omega
    rw [decQ_eq h57 hc2]
    exact ⟨hn, he⟩
theorem decQ_err {b : List UInt8} (h57 : 57 ≤ b.length) (hc : ¬ b.length - 57 < nF b 21) (hs : (shaL (b.take (b.length - 32)) == b.drop (b.length - 32)) = true) : decErr b = if (notedB (decQ b) && encN (decQ b) == b) = true then 0 else 363 := by
  split
  · rename_i h
    exact (decQ_test h57 hc hs).1 h
  · rename_i h
    have h0 : decErr b ≠ 0 := fun e => h ((decQ_test h57 hc hs).2 e)
    unfold decErr at h0 ⊢
    rw [if_neg (by omega), if_neg (by omega), if_neg (by rw [hs]; decide)] at h0 ⊢
    by_cases hq : b.length - 57 ≠ nF b 21 ∨ notedB (decN b) = false
    · rw [if_pos hq]
    · rw [if_neg hq] at h0
      exact absurd rfl h0
theorem decQ_len {b : List UInt8} (h : decErr b = 0) : decQ b = decN b := by
  have hh := h
  unfold decErr at h
  split at h
  · omega
  · split at h
    · omega
    · split at h
      · omega
      · rename_i h1 h2 h3
        split at h
        · omega
        · rename_i h4
          refine decQ_eq (by omega) ?_
          by_cases hq : b.length - 57 = nF b 21
          · exact hq
          · exact absurd (Or.inl hq) h4
structure OwnR (w : World) (base : Nat) (v : Value) (l : List UInt8) : Prop where
  own : OwnB w base v l
theorem OwnR.ext {w w' : World} {base : Nat} {v : Value} {l : List UInt8} (h : OwnR w base v l) (x : Ext w w') : OwnR w' base v l := ⟨ownsRow_ext h.own x⟩
/-- The numbers read so far. -/
def xsN (b : List UInt8) (k : Nat) : List Nat := (List.range 6).map fun i => if i < k then nF b (1 + 4 * i) else 0
theorem xsN_set (b : List UInt8) (k : Nat) (hk : k < 6) : ((xsN b k).map u4).toArray.setIfInBounds k (u4 (nF b (1 + 4 * k))) = ((xsN b (k + 1)).map u4).toArray := by
  have : k = 0 ∨ k = 1 ∨ k = 2 ∨ k = 3 ∨ k = 4 ∨ k = 5 := by omega
  rcases this with rfl | rfl | rfl | rfl | rfl | rfl <;> simp [xsN, List.range_succ]
theorem xsN_six (b : List UInt8) : xsN b 6 = [nF b 1, nF b 5, nF b 9, nF b 13, nF b 17, nF b 21] := by simp [xsN, List.range_succ]
/-- What the document's Decode gives. -/
def RDecPost (w : World) (b : List UInt8) (e : Ending) (w' : World) : Prop :=
  Ext w w' ∧ ((decErr b ≠ 0 ∧ e = .returned (.tuple #[.agg #[.int .i64 n0.kind, .int .u32 (n0.view : Int), .int .u32 (n0.mark.1 : Int), .int .u32 (n0.mark.2 : Int), .int .u32 (n0.prev.1 : Int), .int .u32 (n0.prev.2 : Int), (.slice none 0 0)], .int .i64 (decErr b)]))
    ∨ (decErr b = 0 ∧ ∃ vb, e = .returned (.tuple #[.agg #[.int .i64 (decN b).kind, .int .u32 ((decN b).view : Int), .int .u32 ((decN b).mark.1 : Int), .int .u32 ((decN b).mark.2 : Int), .int .u32 ((decN b).prev.1 : Int), .int .u32 ((decN b).prev.2 : Int), vb], .int .i64 0]) ∧ OwnB w' w.heap.size vb (decN b).bytes))
theorem rdec_err {w : World} {b : List UInt8} {z : Int} (h : decErr b = z) (hz : z ≠ 0) {w' : World} (x : Ext w w') : RDecPost w b (.returned (.tuple #[.agg #[.int .i64 n0.kind, .int .u32 (n0.view : Int), .int .u32 (n0.mark.1 : Int), .int .u32 (n0.mark.2 : Int), .int .u32 (n0.prev.1 : Int), .int .u32 (n0.prev.2 : Int), (.slice none 0 0)], .int .i64 z])) w' :=
  ⟨x, .inl ⟨by rw [h]; exact hz, by rw [h]⟩⟩
end Go.Proofs.YtkcddcomjbihgaaDoor

namespace Go.Proofs.YtkcddcomjbihgaaDoor
open Go.RowKit
set_option linter.unusedVariables false
set_option linter.unusedSimpArgs false
set_option maxHeartbeats 4000000 in
set_option maxRecDepth 100000 in
theorem rbDecode (w : World) (v : Value) (b : List UInt8) (h : IsB w v b) (hb : b.length ≤ 1000000) :
    Calls Tryd.prog 15 #[v] w (RDecPost w b) := by
  have bZ := heap_alloc_new w (.cells #[.int .i64 n0.kind, .int .u32 (n0.view : Int), .int .u32 (n0.mark.1 : Int), .int .u32 (n0.mark.2 : Int), .int .u32 (n0.prev.1 : Int), .int .u32 (n0.prev.2 : Int), (.slice none 0 0)] 30)
  have X := (Ext.refl w).alloc (.cells #[.int .i64 n0.kind, .int .u32 (n0.view : Int), .int .u32 (n0.mark.1 : Int), .int .u32 (n0.mark.2 : Int), .int .u32 (n0.prev.1 : Int), .int .u32 (n0.prev.2 : Int), (.slice none 0 0)] 30)
  obtain ⟨ao, cap, rfl, b1, m1, z1, g1⟩ := h.opened
  have HX := Lib.hid X
  have H0 := Lib.hid h
  clear X h
  by_cases h57 : b.length < 57
  · clear g1
    have HE := Lib.hid (show decErr b = 7 by unfold decErr; rw [if_pos h57])
    have q : (b.length : Int) < 57 := by omega
    clear h57
    go_enter Tryd.func15, Tryd.ntmps15
    go_wp2_with (((with_reducible refine at_store 30 (.tmp 2) (.tmp 12) ?_); go_must (refine wpl_store rfl 30 (.tmp 2) (.tmp 12) rfl w.heap.size #[.int .i64 n0.kind, .int .u32 (n0.view : Int), .int .u32 (n0.mark.1 : Int), .int .u32 (n0.mark.2 : Int), .int .u32 (n0.prev.1 : Int), .int .u32 (n0.prev.2 : Int), (.slice none 0 0)] (by rfl) (by rfl) 30 _ bZ (by kernel_rfl) rfl (nt_one _ _ _ _) ?_); rw [setRow_self _ w.heap.size _ _ _ bZ]))
    exact bodyPost_ret (results_cell_tmp (p := 2) (q := 3) rfl _ _ w.heap.size _ _ _ _ (by rfl) bZ Tryd.underlying30 rfl (by kernel_rfl)) rfl (rdec_err HE.out (by omega) HX.out)
  · obtain ⟨k0, hk0⟩ : ∃ k, b.length = k + 32 := ⟨b.length - 32, by omega⟩
    have q : ¬ (b.length : Int) < 57 := by omega
    have HK57 := Lib.hid h57
    have hn57 : 57 ≤ b.length := by omega
    have HKK := Lib.hid hk0
    obtain ⟨pb, po, rfl, -⟩ := g1 0 (by omega)
    clear g1 h57 hk0
    go_enter Tryd.func15, Tryd.ntmps15
    go_upto_region 5 with fail
    refine wp_forget (fun W => Ext w W ∧ W.heap[w.heap.size]? = some (.cells #[.int .i64 n0.kind, .int .u32 (n0.view : Int), .int .u32 (n0.mark.1 : Int), .int .u32 (n0.mark.2 : Int), .int .u32 (n0.prev.1 : Int), .int .u32 (n0.prev.2 : Int), (.slice none 0 0)] 30 (0, 0)) ∧ W.heap[w.heap.size + 1]? = some (.cells ((xsN b 0).map u4).toArray 105 (0, 0))) ⟨HX.out.alloc _, blk_old bZ, ?_⟩ ?_
    · have : (w.alloc (.cells #[.int .i64 n0.kind, .int .u32 (n0.view : Int), .int .u32 (n0.mark.1 : Int), .int .u32 (n0.mark.2 : Int), .int .u32 (n0.prev.1 : Int), .int .u32 (n0.prev.2 : Int), (.slice none 0 0)] 30)).heap.size = w.heap.size + 1 := by simp
      have e0 : ((xsN b 0).map u4).toArray = #[.int .u32 0, .int .u32 0, .int .u32 0, .int .u32 0, .int .u32 0, .int .u32 0] := by simp [xsN, List.range_succ, u4]
      rw [e0]
      exact blk_new (by simp)
    rintro W ⟨X, bZ, b4⟩
    have HX := Lib.hid X
    clear X
    have hz4 := block_lt b4
    go_loopg [5, 13] 6 (fun g s5 s13 wr => ∃ k : Nat, k ≤ 6 ∧ 6 - k ≤ g ∧ s13 = .int .i64 (k : Int) ∧ Ext w wr ∧ wr.heap[w.heap.size]? = some (.cells #[.int .i64 n0.kind, .int .u32 (n0.view : Int), .int .u32 (n0.mark.1 : Int), .int .u32 (n0.mark.2 : Int), .int .u32 (n0.prev.1 : Int), .int .u32 (n0.prev.2 : Int), (.slice none 0 0)] 30 (0, 0)) ∧ wr.heap[w.heap.size + 1]? = some (.cells ((xsN b k).map u4).toArray 105 (0, 0)))
    case atStart => exact ⟨0, by omega, by omega, rfl, HX.out, bZ, b4⟩
    case round =>
      clear bZ b4 hz4 HX
      obtain ⟨k, hk, hg, rfl, xr, bZ, b4⟩ := hrel
      have HX := Lib.hid xr
      clear xr
      by_cases hlt : k < 6
      · have hbk : IsB w (.slice (some ⟨pb, po + (1 + 4 * k), none⟩) 4 (cap - (1 + 4 * k))) ((b.drop (1 + 4 * k)).take 4) := by
          have := H0.out.cut (1 + 4 * k) (5 + 4 * k) (by omega) (by omega)
          rw [if_neg (by omega)] at this
          simpa [Addr.add_lit, show 5 + 4 * k - (1 + 4 * k) = 4 from by omega] using this
        have s1 : (0 : Int) ≤ 1 + 4 * (k : Int) := by omega
        have s2 : 1 + 4 * (k : Int) ≤ 5 + 4 * (k : Int) := by omega
        have s3 : 5 + 4 * (k : Int) ≤ (cap : Int) := by omega
        have s4 : (1 + 4 * (k : Int)).toNat = 1 + 4 * k := by omega
        have s5 : (5 + 4 * (k : Int)).toNat = 5 + 4 * k := by omega
        have s6 : ¬ cap = 1 + 4 * k := by omega
        have s7 : 5 + 4 * k - (1 + 4 * k) = 4 := by omega
        have hx := nF_lt b (1 + 4 * k)
        have hset := xsN_set b k hlt
        clear hx

        have HBK := Lib.hid hbk
        have HSET := Lib.hid hset
        clear hbk hset

        have hlen4 : ((b.drop (1 + 4 * k)).take 4).length ≤ 140737488355328 := by simp; omega
        have C : Calls Tryd.prog 53 #[.slice (some ⟨pb, po + (1 + 4 * k), none⟩) 4 (cap - (1 + 4 * k))] wr (fun e w' => e = .returned (.int .u64 (nF b (1 + 4 * k) : Int)) ∧ wr = w') := refNumber _ _ _ (HBK.out.ext HX.out) hlen4
        have HC := Lib.hid C
        obtain ⟨Y, hY⟩ : ∃ Y, nF b (1 + 4 * k) = Y := ⟨_, rfl⟩
        have hS := HSET.out
        rw [hY] at hS
        have HS := Lib.hid hS
        have HY := Lib.hid hY
        clear C hlen4 hS hY
        go_wp2_with fail
        refine HC.out.mono ?_
        rintro e w2 ⟨rfl, rfl⟩
        rw [HY.out]
        have hxl : (Y : Int) < 4294967296 := by have := nF_lt b (1 + 4 * k); have := HY.out; omega
        have hcell : wr.cell? ⟨w.heap.size + 1, k, none⟩ = some (u4 ((xsN b k).getD k 0)) := by
          rw [block_all b4]
          simp [xsN, hlt]
        obtain ⟨u, hu⟩ : ∃ u, u4 ((xsN b k).getD k 0) = u := ⟨_, rfl⟩
        rw [hu] at hcell
        have hfree := block_free b4 k
        clear s1 s2 s3 s4 s5 s6 s7 hu
        go_wp2_with fail
        have gr := grown_setCell wr (w.heap.size + 1) k (.int .u32 (Y : Int))
        go_roundg (6 - (k + 1))
        case measure => omega
        case rel =>
          refine ⟨k + 1, by omega, by omega, by go_num, HX.out.grown gr (fun q hq => by cases hq; omega), grown_other gr bZ (by omega), ?_⟩
          have := block_setCell b4 (i := k) (.int .u32 (Y : Int))
          rw [← HS.out]
          exact this
      · obtain rfl : k = 6 := by omega
        have hk := HKK.out
        obtain ⟨k, rfl⟩ : ∃ k, k = k0 := ⟨_, rfl⟩
        rw [xsN_six] at b4
        have l21 : (nF b 21 : Int) < 4294967296 := by have := nF_lt b 21; omega
        have b4 : wr.heap[w.heap.size + 1]? = some (.cells #[.int .u32 (nF b 1 : Int), .int .u32 (nF b 5 : Int), .int .u32 (nF b 9 : Int), .int .u32 (nF b 13 : Int), .int .u32 (nF b 17 : Int), .int .u32 (nF b 21 : Int)] 105 (0, 0)) := b4
        have c4 := block_all b4
        have hE2 : b.length - 57 = k - 25 := by omega
        have hE1 : b.length - 32 = k := by omega
        by_cases c1 : b.length - 57 < nF b 21
        · have HE := Lib.hid (show decErr b = 7 by unfold decErr; rw [if_neg HK57.out, if_pos c1])
          have c2 : (b.length : Int) < 57 + (nF b 21 : Int) := by omega
          clear c1 hk hE1 hE2 q
          go_wp2_with (((with_reducible refine at_store 30 (.tmp 2) (.tmp 37) ?_); go_must (refine wpl_store rfl 30 (.tmp 2) (.tmp 37) rfl w.heap.size #[.int .i64 n0.kind, .int .u32 (n0.view : Int), .int .u32 (n0.mark.1 : Int), .int .u32 (n0.mark.2 : Int), .int .u32 (n0.prev.1 : Int), .int .u32 (n0.prev.2 : Int), (.slice none 0 0)] (by rfl) (by rfl) 30 _ bZ (by kernel_rfl) rfl (nt_one _ _ _ _) ?_); rw [setRow_self _ w.heap.size _ _ _ bZ]))
          exact bodyPost_ret (results_cell_tmp (p := 2) (q := 3) rfl _ _ w.heap.size _ _ _ _ (by rfl) bZ Tryd.underlying30 rfl (by kernel_rfl)) rfl (rdec_err HE.out (by omega) HX.out)
        · have c2 : ¬ (b.length : Int) < 57 + (nF b 21 : Int) := by omega
          have HC1 := Lib.hid c1
          have hbody : IsB w (.slice (some ⟨pb, po, none⟩) k cap) (b.take k) := by
            have := H0.out.cut 0 k (by omega) (by omega)
            rw [if_neg (by omega)] at this
            simpa [Addr.add_lit] using this
          have hend : IsB w (.slice (some ⟨pb, po + k, none⟩) 32 (cap - k)) (b.drop k) := by
            have := H0.out.cut k b.length (by omega) (by omega)
            rw [if_neg (by omega), List.take_of_length_le (by simp), show b.length - k = 32 by omega] at this
            simpa [Addr.add_lit] using this
          have htail : IsB w (.slice (some ⟨pb, po + 25, none⟩) (nF b 21) (cap - 25)) ((b.drop 25).take (nF b 21)) := by
            have := H0.out.cut 25 (25 + nF b 21) (by omega) (by omega)
            rw [if_neg (by omega)] at this
            simpa [Addr.add_lit] using this
          have HBody := Lib.hid hbody
          have HEnd := Lib.hid hend
          have HTail := Lib.hid htail
          have hbk : (b.take k).length = k := by simp; omega
          have HDE := Lib.hid (show (shaL (b.take k) == b.drop k) = false → decErr b = 364 from fun hh => by unfold decErr; rw [if_neg HK57.out, if_neg c1, hE1, if_pos hh])
          have HDT := Lib.hid (show (shaL (b.take k) == b.drop k) = true → decErr b = if (notedB (decQ b) && encN (decQ b) == b) = true then 0 else 363 from fun hh => decQ_err hn57 c1 (by rw [hE1]; exact hh))
          have e1 : (b.length : Int) - 32 = (k : Int) := by omega
          have e2 : b.length - k = 32 := by omega
          have e3 : ¬ cap = k := by omega
          have e4 : (0 : Int) ≤ (k : Int) := by omega
          have e5 : k ≤ cap := by omega
          have e6 : k ≤ b.length := by omega
          have e7 : IntKind.i64.wrap (k : Int) = (k : Int) := IntWalk.i64_in _ (by omega)
          have e8 : (k : Int) ≤ (cap : Int) := by omega
          have e9 : (k : Int) ≤ (b.length : Int) := by omega
          have HE1 := Lib.hid (show e1 = e1 from rfl)
          clear c1 hbody hend htail hE1 hE2 hk
          go_wp2_with fail
          refine (refSum _ _ _ (HBody.out.ext HX.out) (by rw [hbk]; omega)).mono ?_
          rintro e w10 ⟨rfl, x10⟩
          have hSl := shaL_len (b.take k)
          obtain ⟨S, hS⟩ : ∃ S, shaL (b.take k) = S := ⟨_, rfl⟩
          obtain ⟨tail, hT⟩ : ∃ S, b.drop k = S := ⟨_, rfl⟩
          rw [hS, hT] at HDE HDT
          rw [hS] at hSl ⊢
          rw [hT] at HEnd
          have bZ := x10.keeps bZ
          have b4 := x10.keeps b4
          have HX := Lib.hid (HX.out.trans x10)
          have hX10 := HX.out.size
          have hz10 := block_lt bZ
          have h410 := block_lt b4
          have HBK := Lib.hid hbk
          clear x10 hbk c4 hS hT
          have hfit : (Tryd.prog.info? 98).map (·.size) = some (S.map bc).toArray.size := by rw [List.size_toArray, List.length_map, hSl]; kernel_rfl
          have hone := id_oneE S
          have bz := heap_alloc_new w10 (.cells #[.int .u8 0, .int .u8 0, .int .u8 0, .int .u8 0, .int .u8 0, .int .u8 0, .int .u8 0, .int .u8 0, .int .u8 0, .int .u8 0, .int .u8 0, .int .u8 0, .int .u8 0, .int .u8 0, .int .u8 0, .int .u8 0, .int .u8 0, .int .u8 0, .int .u8 0, .int .u8 0, .int .u8 0, .int .u8 0, .int .u8 0, .int .u8 0, .int .u8 0, .int .u8 0, .int .u8 0, .int .u8 0, .int .u8 0, .int .u8 0, .int .u8 0, .int .u8 0] 98)
          go_upto_region 13 with (((with_reducible refine at_store 98 (.tmp 7) (.tmp 44) ?_); go_must (refine wpl_store rfl 98 (.tmp 7) (.tmp 44) rfl w10.heap.size (S.map bc).toArray (by rfl) (by rfl) 98 _ bz hfit (by simp [hSl]) hone ?_)))
          refine wp_forget (fun W => Ext w W ∧ W.heap[w.heap.size]? = some (.cells #[.int .i64 n0.kind, .int .u32 (n0.view : Int), .int .u32 (n0.mark.1 : Int), .int .u32 (n0.mark.2 : Int), .int .u32 (n0.prev.1 : Int), .int .u32 (n0.prev.2 : Int), (.slice none 0 0)] 30 (0, 0)) ∧ W.heap[w.heap.size + 1]? = some (.cells #[.int .u32 (nF b 1 : Int), .int .u32 (nF b 5 : Int), .int .u32 (nF b 9 : Int), .int .u32 (nF b 13 : Int), .int .u32 (nF b 17 : Int), .int .u32 (nF b 21 : Int)] 105 (0, 0)) ∧ W.heap[w10.heap.size]? = some (.cells (S.map bc).toArray 98 (0, 0))) ⟨(HX.out.alloc _).grown grown_setRow (fun k hk => by cases hk; exact hX10), grown_other grown_setRow (blk_old bZ) (by omega), grown_other grown_setRow (blk_old b4) (by omega), setRow_heap _ _ _ _ _ _ bz⟩ ?_
          rintro W3 ⟨X, bZ, b4, bS⟩
          obtain ⟨BS, hBS⟩ : ∃ x, x = w10.heap.size := ⟨_, rfl⟩
          rw [← hBS] at bS hX10
          rw [← hBS]
          clear hBS HX bz hfit hone
          have HX := Lib.hid X
          have hsS := sl_blk bS (S.map bc) (n := 32) (by simp [hSl]) (by simp) (by omega)
          have hs : IsB W3 (.slice (some ⟨BS, 0, none⟩) 32 32) S := by unfold IsB; rw [hSl]; exact hsS
          have KC := fun v (h : Ext W3 v) => conv_str (P := Tryd.prog) (hs.ext h) 28 9 5 Tryd.underlying28 Tryd.underlying5 Tryd.underlying9
          have KD := fun v (h : Ext W3 v) => conv_str (P := Tryd.prog) ((HEnd.out.ext HX.out).ext h) 28 9 5 Tryd.underlying28 Tryd.underlying5 Tryd.underlying9
          have BZ := Lib.hid bZ
          have B4 := Lib.hid b4
          clear X hsS hs bS bZ b4
          refine wp_region_G 8 (fun v => Ext W3 v) (by kernel_rfl) fun wd hqd hHeld => ?_
          refine G_pure (i := 0) (u := ?va0) rfl (by kernel_rfl) (by kernel_rfl) (by kernel_rfl) (fun _ _ _ h => h) (by decide) (Or.inl ⟨by rfl, ?hya0⟩) hHeld ?_
          case hya0 => (intro w hSw; go_simp; try with_reducible rfl)
          simp only [Act.put, List.setIfInBounds_toArray, List.set_cons_zero, List.set_cons_succ, List.getElem_toArray, List.getElem_cons_zero, List.getElem_cons_succ]
          refine G_take (i := 1) (u := ?va1) rfl (by kernel_rfl) (by kernel_rfl) (by kernel_rfl) (fun _ _ _ h => h) rfl (by kernel_rfl) (by decide) (by rfl) (Or.inl ⟨by rfl, ?hya1⟩) hHeld ?_
          case hya1 => (intro w hSw; have kk := KC _ hSw; go_simp; try with_reducible rfl)
          simp only [Act.put, List.setIfInBounds_toArray, List.set_cons_zero, List.set_cons_succ, List.getElem_toArray, List.getElem_cons_zero, List.getElem_cons_succ]
          refine G_pure (i := 2) (u := ?va2) rfl (by kernel_rfl) (by kernel_rfl) (by kernel_rfl) (fun _ _ _ h => h) (by decide) (Or.inl ⟨by rfl, ?hya2⟩) hHeld ?_
          case hya2 => (intro w hSw; go_simp; try with_reducible rfl)
          simp only [Act.put, List.setIfInBounds_toArray, List.set_cons_zero, List.set_cons_succ, List.getElem_toArray, List.getElem_cons_zero, List.getElem_cons_succ]
          refine G_pure (i := 3) (u := ?va3) rfl (by kernel_rfl) (by kernel_rfl) (by kernel_rfl) (fun _ _ _ h => h) (by decide) (Or.inl ⟨by rfl, ?hya3⟩) hHeld ?_
          case hya3 => (intro w hSw; go_simp; try with_reducible rfl)
          simp only [Act.put, List.setIfInBounds_toArray, List.set_cons_zero, List.set_cons_succ, List.getElem_toArray, List.getElem_cons_zero, List.getElem_cons_succ]
          refine C_take (i := 4) (u := ?va4) [5, 6, 7, 8] rfl (by kernel_rfl) (by kernel_rfl) (by kernel_rfl) (fun _ _ _ h => h) (by kernel_rfl) (by kernel_rfl) (by kernel_rfl) (by kernel_rfl) (Or.inl ⟨by rfl, ?hya4⟩) hHeld ?_
          case hya4 => (intro w hSw; go_simp; try with_reducible rfl)
          simp only [Act.put, List.setIfInBounds_toArray, List.set_cons_zero, List.set_cons_succ, List.getElem_toArray, List.getElem_cons_zero, List.getElem_cons_succ]
          refine G_pure (i := 5) (u := ?va5) rfl (by kernel_rfl) (by kernel_rfl) (by kernel_rfl) (fun _ _ _ h => h) (by decide) (Or.inl ⟨by rfl, ?hya5⟩) hHeld ?_
          case hya5 => (intro w hSw; go_simp; try with_reducible rfl)
          simp only [Act.put, List.setIfInBounds_toArray, List.set_cons_zero, List.set_cons_succ, List.getElem_toArray, List.getElem_cons_zero, List.getElem_cons_succ]
          refine G_pure (i := 6) (u := ?va6) rfl (by kernel_rfl) (by kernel_rfl) (by kernel_rfl) (fun _ _ _ h => h) (by decide) (Or.inl ⟨by rfl, ?hya6⟩) hHeld ?_
          case hya6 => (intro w hSw; go_simp; try with_reducible rfl)
          simp only [Act.put, List.setIfInBounds_toArray, List.set_cons_zero, List.set_cons_succ, List.getElem_toArray, List.getElem_cons_zero, List.getElem_cons_succ]
          refine G_take (i := 7) (u := ?va7) rfl (by kernel_rfl) (by kernel_rfl) (by kernel_rfl) (fun _ _ _ h => h) rfl (by kernel_rfl) (by decide) (by rfl) (Or.inl ⟨by rfl, ?hya7⟩) hHeld ?_
          case hya7 => (intro w hSw; have kk := KD _ hSw; go_simp; try with_reducible rfl)
          simp only [Act.put, List.setIfInBounds_toArray, List.set_cons_zero, List.set_cons_succ, List.getElem_toArray, List.getElem_cons_zero, List.getElem_cons_succ]
          refine G_all (rs := [8]) (by kernel_rfl) (by simp) ?_
          intro i hi; obtain rfl : i = 8 := by simpa using hi
          refine wpOp_run rfl (by rfl) ?_
          go_simp
          try refine ⟨fun e => absurd e (by decide), ?_⟩
          refine G_free _ _ _ _ (by kernel_rfl) ?_
          try simp only [Act.put, List.setIfInBounds_toArray, List.set_cons_zero, List.set_cons_succ, List.getElem_toArray, List.getElem_cons_zero, List.getElem_cons_succ]
          refine wpAny_done (by kernel_rfl) ?_ _
          refine NoPanic.normal ?_
          have HX := Lib.hid (HX.out.trans hHeld)
          have bZ := hHeld.keeps BZ.out
          have b4 := hHeld.keeps B4.out
          clear hHeld KC KD BZ B4
          obtain ⟨W5, rfl⟩ : ∃ x, x = wd := ⟨_, rfl⟩
          have HN57 := Lib.hid hn57
          clear e1 e2 e3 e4 e5 e6 e7 e8 e9 c2 q hn57 l21
          cases c3 : (S == tail) with
          | false =>
            have HE := Lib.hid (show decErr b = 364 from HDE.out c3)
            go_wp2_with (((with_reducible refine at_store 30 (.tmp 2) (.tmp 54) ?_); go_must (refine wpl_store rfl 30 (.tmp 2) (.tmp 54) rfl w.heap.size #[.int .i64 n0.kind, .int .u32 (n0.view : Int), .int .u32 (n0.mark.1 : Int), .int .u32 (n0.mark.2 : Int), .int .u32 (n0.prev.1 : Int), .int .u32 (n0.prev.2 : Int), (.slice none 0 0)] (by rfl) (by rfl) 30 _ bZ (by kernel_rfl) rfl (nt_one _ _ _ _) ?_); rw [setRow_self _ w.heap.size _ _ _ bZ]))
            exact bodyPost_ret (results_cell_tmp (p := 2) (q := 3) rfl _ _ w.heap.size _ _ _ _ (by rfl) bZ Tryd.underlying30 rfl (by kernel_rfl)) rfl (rdec_err HE.out (by omega) HX.out)
          | true =>
            have HDT := Lib.hid (HDT.out c3)
            have hhz := HX.out.size
            have hk := HKK.out
            have hc1 := HC1.out
            have hn57 := HN57.out
            have hm1 : nF b 21 ≤ 1000000 := by omega
            have hTl : ((b.drop 25).take (nF b 21)).length = nF b 21 := by rw [List.length_take, List.length_drop]; omega
            have hcell0 : ∀ v, Ext W5 v → v.cell? ⟨pb, po, none⟩ = some (.int .u8 (kF b : Int)) := fun v hv => by
              obtain ⟨hl0, ao', cap', e, _, _, _, lies⟩ := H0.out
              simp only [Value.slice.injEq] at e
              obtain ⟨rfl, _, _⟩ := e
              obtain ⟨b2, o2, e2, c2⟩ := lies 0 (by simp; omega)
              simp only [Option.some.injEq, Addr.mk.injEq, and_true] at e2
              obtain ⟨rfl, rfl⟩ := e2
              rw [List.getElem?_map, List.getElem?_eq_getElem (by omega)] at c2
              have := (HX.out.trans hv).cell c2
              rw [Nat.add_zero] at this
              rw [this]
              have hkf : kF b = (b[0]'(by omega)).toNat := by
                unfold kF
                rw [List.drop_zero, show b.take 1 = [b[0]'(by omega)] from by rw [List.take_succ_eq_append_getElem (by omega)]; simp]
                have := (b[0]'(by omega)).toNat_lt
                simp [num]
              rw [hkf]
              rfl
            have HM1 := Lib.hid hm1
            have HTL := Lib.hid hTl
            clear hk hc1 hn57 hm1 hTl
            go_upto_region 15 with fail
            go_cut [8] from 55 to 79 (fun t8 wx => ∃ B8 a8 c8, t8 = .pointer (some ⟨B8, 0, none⟩) ∧ wx.heap[B8]? = some (.cells #[.int .i64 (decQ b).kind, .int .u32 ((decQ b).view : Int), .int .u32 ((decQ b).mark.1 : Int), .int .u32 ((decQ b).mark.2 : Int), .int .u32 ((decQ b).prev.1 : Int), .int .u32 ((decQ b).prev.2 : Int), (.slice a8 (nF b 21) c8)] 30 (0, 0)) ∧ w.heap.size ≤ B8 ∧ OwnB wx w.heap.size (.slice a8 (nF b 21) c8) (decQ b).bytes ∧ Ext W5 wx)
            case first =>
              have K4 := fun v (h : Ext W5 v) => block_all (h.keeps b4)
              clear bZ b4 c3
              have hk := HKK.out
              have hc1 := HC1.out
              have hn57 := HN57.out
              have hm1 := HM1.out
              have g1 : IntKind.i64.wrap (25 + (nF b 21 : Int)) = 25 + (nF b 21 : Int) := IntWalk.i64_in _ (by omega)
              have g2 : (25 : Int) ≤ 25 + (nF b 21 : Int) := by omega
              have g3 : 25 + (nF b 21 : Int) ≤ (cap : Int) := by omega
              have g4 : (25 + (nF b 21 : Int)).toNat = 25 + nF b 21 := by omega
              have g5 : ¬ cap = 25 := by omega
              have g6 : 25 + nF b 21 - 25 = nF b 21 := by omega
              have g7 : IntKind.i64.wrap (nF b 21 : Int) = (nF b 21 : Int) := IntWalk.i64_in _ (by omega)
              have g8 : IntKind.i64.wrap (kF b : Int) = (kF b : Int) := IntWalk.i64_in _ (by have := kF_lt b; omega)
              have HT := Lib.hid (show IsSl w (.slice (some ⟨pb, po + 25, none⟩) (nF b 21) (cap - 25)) 1 (nF b 21) (((b.drop 25).take (nF b 21)).map bc) by have := HTail.out; unfold IsB at this; rw [HTL.out] at this; exact this)
              have hpos : (0 : Int) < (b.length : Int) := by omega
              have hposn : 0 < b.length := by omega
              clear hk hc1 hn57 hm1
              refine wp_region_G 26 (fun v => Ext W5 v) (by kernel_rfl) fun wd hqd hHeld => ?_
              refine G_pure (i := 0) (u := ?vb1_0) rfl (by kernel_rfl) (by kernel_rfl) (by kernel_rfl) (fun _ _ _ h => h) (by decide) (Or.inl ⟨by rfl, ?hyb1_0⟩) hHeld ?_
              case hyb1_0 => (intro w hSw; go_simp; try with_reducible rfl)
              simp only [Act.put, List.setIfInBounds_toArray, List.set_cons_zero, List.set_cons_succ, List.getElem_toArray, List.getElem_cons_zero, List.getElem_cons_succ]
              refine G_pure (i := 1) (u := ?vb2_1) rfl (by kernel_rfl) (by kernel_rfl) (by kernel_rfl) (fun _ _ _ h => h) (by decide) (Or.inl ⟨by rfl, ?hyb2_1⟩) hHeld ?_
              case hyb2_1 => (intro w hSw; go_simp; try with_reducible rfl)
              simp only [Act.put, List.setIfInBounds_toArray, List.set_cons_zero, List.set_cons_succ, List.getElem_toArray, List.getElem_cons_zero, List.getElem_cons_succ]
              refine G_take (i := 2) (u := ?vb3_2) rfl (by kernel_rfl) (by kernel_rfl) (by kernel_rfl) (fun _ _ _ h => h) rfl (by kernel_rfl) (by decide) (by rfl) (Or.inl ⟨by rfl, ?hyb3_2⟩) hHeld ?_
              case hyb3_2 => (intro w hSw; have kk := hcell0 _ hSw; go_simp; try with_reducible rfl)
              simp only [Act.put, List.setIfInBounds_toArray, List.set_cons_zero, List.set_cons_succ, List.getElem_toArray, List.getElem_cons_zero, List.getElem_cons_succ]
              refine G_pure (i := 3) (u := ?vb4_3) rfl (by kernel_rfl) (by kernel_rfl) (by kernel_rfl) (fun _ _ _ h => h) (by decide) (Or.inl ⟨by rfl, ?hyb4_3⟩) hHeld ?_
              case hyb4_3 => (intro w hSw; go_simp; try with_reducible rfl)
              simp only [Act.put, List.setIfInBounds_toArray, List.set_cons_zero, List.set_cons_succ, List.getElem_toArray, List.getElem_cons_zero, List.getElem_cons_succ]
              refine G_pure (i := 4) (u := ?vb5_4) rfl (by kernel_rfl) (by kernel_rfl) (by kernel_rfl) (fun _ _ _ h => h) (by decide) (Or.inl ⟨by rfl, ?hyb5_4⟩) hHeld ?_
              case hyb5_4 => (intro w hSw; go_simp; try with_reducible rfl)
              simp only [Act.put, List.setIfInBounds_toArray, List.set_cons_zero, List.set_cons_succ, List.getElem_toArray, List.getElem_cons_zero, List.getElem_cons_succ]
              refine G_take (i := 5) (u := ?vb6_5) rfl (by kernel_rfl) (by kernel_rfl) (by kernel_rfl) (fun _ _ _ h => h) rfl (by kernel_rfl) (by decide) (by rfl) (Or.inl ⟨by rfl, ?hyb6_5⟩) hHeld ?_
              case hyb6_5 => (intro w hSw; have kk := K4 _ hSw; go_simp; try with_reducible rfl)
              simp only [Act.put, List.setIfInBounds_toArray, List.set_cons_zero, List.set_cons_succ, List.getElem_toArray, List.getElem_cons_zero, List.getElem_cons_succ]
              refine G_pure (i := 6) (u := ?vb7_6) rfl (by kernel_rfl) (by kernel_rfl) (by kernel_rfl) (fun _ _ _ h => h) (by decide) (Or.inl ⟨by rfl, ?hyb7_6⟩) hHeld ?_
              case hyb7_6 => (intro w hSw; go_simp; try with_reducible rfl)
              simp only [Act.put, List.setIfInBounds_toArray, List.set_cons_zero, List.set_cons_succ, List.getElem_toArray, List.getElem_cons_zero, List.getElem_cons_succ]
              refine G_take (i := 7) (u := ?vb8_7) rfl (by kernel_rfl) (by kernel_rfl) (by kernel_rfl) (fun _ _ _ h => h) rfl (by kernel_rfl) (by decide) (by rfl) (Or.inl ⟨by rfl, ?hyb8_7⟩) hHeld ?_
              case hyb8_7 => (intro w hSw; have kk := K4 _ hSw; go_simp; try with_reducible rfl)
              simp only [Act.put, List.setIfInBounds_toArray, List.set_cons_zero, List.set_cons_succ, List.getElem_toArray, List.getElem_cons_zero, List.getElem_cons_succ]
              refine G_pure (i := 8) (u := ?vb9_8) rfl (by kernel_rfl) (by kernel_rfl) (by kernel_rfl) (fun _ _ _ h => h) (by decide) (Or.inl ⟨by rfl, ?hyb9_8⟩) hHeld ?_
              case hyb9_8 => (intro w hSw; go_simp; try with_reducible rfl)
              simp only [Act.put, List.setIfInBounds_toArray, List.set_cons_zero, List.set_cons_succ, List.getElem_toArray, List.getElem_cons_zero, List.getElem_cons_succ]
              refine G_take (i := 9) (u := ?vb10_9) rfl (by kernel_rfl) (by kernel_rfl) (by kernel_rfl) (fun _ _ _ h => h) rfl (by kernel_rfl) (by decide) (by rfl) (Or.inl ⟨by rfl, ?hyb10_9⟩) hHeld ?_
              case hyb10_9 => (intro w hSw; have kk := K4 _ hSw; go_simp; try with_reducible rfl)
              simp only [Act.put, List.setIfInBounds_toArray, List.set_cons_zero, List.set_cons_succ, List.getElem_toArray, List.getElem_cons_zero, List.getElem_cons_succ]
              refine G_pure (i := 10) (u := ?vb11_10) rfl (by kernel_rfl) (by kernel_rfl) (by kernel_rfl) (fun _ _ _ h => h) (by decide) (Or.inl ⟨by rfl, ?hyb11_10⟩) hHeld ?_
              case hyb11_10 => (intro w hSw; go_simp; try with_reducible rfl)
              simp only [Act.put, List.setIfInBounds_toArray, List.set_cons_zero, List.set_cons_succ, List.getElem_toArray, List.getElem_cons_zero, List.getElem_cons_succ]
              refine G_pure (i := 11) (u := ?vb12_11) rfl (by kernel_rfl) (by kernel_rfl) (by kernel_rfl) (fun _ _ _ h => h) (by decide) (Or.inl ⟨by rfl, ?hyb12_11⟩) hHeld ?_
              case hyb12_11 => (intro w hSw; go_simp; try with_reducible rfl)
              simp only [Act.put, List.setIfInBounds_toArray, List.set_cons_zero, List.set_cons_succ, List.getElem_toArray, List.getElem_cons_zero, List.getElem_cons_succ]
              refine G_take (i := 12) (u := ?vb13_12) rfl (by kernel_rfl) (by kernel_rfl) (by kernel_rfl) (fun _ _ _ h => h) rfl (by kernel_rfl) (by decide) (by rfl) (Or.inl ⟨by rfl, ?hyb13_12⟩) hHeld ?_
              case hyb13_12 => (intro w hSw; have kk := K4 _ hSw; go_simp; try with_reducible rfl)
              simp only [Act.put, List.setIfInBounds_toArray, List.set_cons_zero, List.set_cons_succ, List.getElem_toArray, List.getElem_cons_zero, List.getElem_cons_succ]
              refine G_pure (i := 13) (u := ?vb14_13) rfl (by kernel_rfl) (by kernel_rfl) (by kernel_rfl) (fun _ _ _ h => h) (by decide) (Or.inl ⟨by rfl, ?hyb14_13⟩) hHeld ?_
              case hyb14_13 => (intro w hSw; go_simp; try with_reducible rfl)
              simp only [Act.put, List.setIfInBounds_toArray, List.set_cons_zero, List.set_cons_succ, List.getElem_toArray, List.getElem_cons_zero, List.getElem_cons_succ]
              refine G_take (i := 14) (u := ?vb15_14) rfl (by kernel_rfl) (by kernel_rfl) (by kernel_rfl) (fun _ _ _ h => h) rfl (by kernel_rfl) (by decide) (by rfl) (Or.inl ⟨by rfl, ?hyb15_14⟩) hHeld ?_
              case hyb15_14 => (intro w hSw; have kk := K4 _ hSw; go_simp; try with_reducible rfl)
              simp only [Act.put, List.setIfInBounds_toArray, List.set_cons_zero, List.set_cons_succ, List.getElem_toArray, List.getElem_cons_zero, List.getElem_cons_succ]
              refine G_pure (i := 15) (u := ?vb16_15) rfl (by kernel_rfl) (by kernel_rfl) (by kernel_rfl) (fun _ _ _ h => h) (by decide) (Or.inl ⟨by rfl, ?hyb16_15⟩) hHeld ?_
              case hyb16_15 => (intro w hSw; go_simp; try with_reducible rfl)
              simp only [Act.put, List.setIfInBounds_toArray, List.set_cons_zero, List.set_cons_succ, List.getElem_toArray, List.getElem_cons_zero, List.getElem_cons_succ]
              refine G_pure (i := 17) (u := ?vb17_17) rfl (by kernel_rfl) (by kernel_rfl) (by kernel_rfl) (fun _ _ _ h => h) (by decide) (Or.inl ⟨by rfl, ?hyb17_17⟩) hHeld ?_
              case hyb17_17 => (intro w hSw; go_simp; try with_reducible rfl)
              simp only [Act.put, List.setIfInBounds_toArray, List.set_cons_zero, List.set_cons_succ, List.getElem_toArray, List.getElem_cons_zero, List.getElem_cons_succ]
              refine G_pure (i := 18) (u := ?vb18_18) rfl (by kernel_rfl) (by kernel_rfl) (by kernel_rfl) (fun _ _ _ h => h) (by decide) (Or.inl ⟨by rfl, ?hyb18_18⟩) hHeld ?_
              case hyb18_18 => (intro w hSw; go_simp; try with_reducible rfl)
              simp only [Act.put, List.setIfInBounds_toArray, List.set_cons_zero, List.set_cons_succ, List.getElem_toArray, List.getElem_cons_zero, List.getElem_cons_succ]
              refine G_take (i := 19) (u := ?vb19_19) rfl (by kernel_rfl) (by kernel_rfl) (by kernel_rfl) (fun _ _ _ h => h) rfl (by kernel_rfl) (by decide) (by rfl) (Or.inl ⟨by rfl, ?hyb19_19⟩) hHeld ?_
              case hyb19_19 => (intro w hSw; have kk := K4 _ hSw; go_simp; try with_reducible rfl)
              simp only [Act.put, List.setIfInBounds_toArray, List.set_cons_zero, List.set_cons_succ, List.getElem_toArray, List.getElem_cons_zero, List.getElem_cons_succ]
              refine G_pure (i := 20) (u := ?vb20_20) rfl (by kernel_rfl) (by kernel_rfl) (by kernel_rfl) (fun _ _ _ h => h) (by decide) (Or.inl ⟨by rfl, ?hyb20_20⟩) hHeld ?_
              case hyb20_20 => (intro w hSw; go_simp; try with_reducible rfl)
              simp only [Act.put, List.setIfInBounds_toArray, List.set_cons_zero, List.set_cons_succ, List.getElem_toArray, List.getElem_cons_zero, List.getElem_cons_succ]
              refine G_pure (i := 21) (u := ?vb21_21) rfl (by kernel_rfl) (by kernel_rfl) (by kernel_rfl) (fun _ _ _ h => h) (by decide) (Or.inl ⟨by rfl, ?hyb21_21⟩) hHeld ?_
              case hyb21_21 => (intro w hSw; go_simp; try with_reducible rfl)
              simp only [Act.put, List.setIfInBounds_toArray, List.set_cons_zero, List.set_cons_succ, List.getElem_toArray, List.getElem_cons_zero, List.getElem_cons_succ]
              refine G_pure (i := 22) (u := ?vb22_22) rfl (by kernel_rfl) (by kernel_rfl) (by kernel_rfl) (fun _ _ _ h => h) (by decide) (Or.inl ⟨by rfl, ?hyb22_22⟩) hHeld ?_
              case hyb22_22 => (intro w hSw; go_simp; try with_reducible rfl)
              simp only [Act.put, List.setIfInBounds_toArray, List.set_cons_zero, List.set_cons_succ, List.getElem_toArray, List.getElem_cons_zero, List.getElem_cons_succ]
              refine G_all (rs := [16, 25]) (by kernel_rfl) (by simp) ?_
              intro i hi; have hi' : i = 16 ∨ i = 25 := by simpa using hi
              clear hi; rcases hi' with rfl | rfl
              · refine wpOp_run rfl (by rfl) ?_
                go_simp
                have i16 : OwnR (wd.alloc (.cells #[] 5)) W5.heap.size (.slice (some ⟨wd.heap.size, 0, none⟩) 0 0) [] := ⟨World.ownsRow_made (base := W5.heap.size) (e := 5) (size := 1) wd #[] 0 hHeld.size (by decide) rfl⟩
                have xa : Ext wd (wd.alloc (.cells #[] 5)) := (Ext.refl wd).alloc _
                have hHeld := hHeld.trans xa
                try have b25 := xa.keeps b25
                clear xa
                generalize wd.heap.size = B16 at *
                generalize wd.alloc (.cells #[] 5) = wn at *
                obtain ⟨wd, rfl⟩ : ∃ x, x = wn := ⟨_, rfl⟩
                first | refine ⟨fun _ => hHeld, ?_⟩ | refine ⟨hHeld, ?_⟩ | skip
                try simp only [Act.put, List.setIfInBounds_toArray, List.set_cons_zero, List.set_cons_succ, List.getElem_toArray, List.getElem_cons_zero, List.getElem_cons_succ]
                refine G_all (rs := [23, 25]) (by kernel_rfl) (by simp) ?_
                intro i hi; have hi' : i = 23 ∨ i = 25 := by simpa using hi
                clear hi; rcases hi' with rfl | rfl
                · refine wpOp_run rfl (by rfl) ?_
                  have hm1 := HM1.out
                  refine wp_appO tyB (.tmp 71) (.tmp 77) rfl W5.heap.size (.slice (some ⟨B16, 0, none⟩) 0 0) 0 [] i16.own (by rfl) _ (nF b 21) (((b.drop 25).take (nF b 21)).map bc) ((HT.out.ext HX.out).ext hHeld) (by rfl) (bc_one _) (by omega) (by omega) hHeld.size ?_
                  intro v23 wn own23 gr23
                  rw [Nat.zero_add, List.nil_append] at own23
                  obtain ⟨a23, c23, rfl⟩ := own_shape own23
                  try have b25 := grown_keep gr23 b25 (own_neT i16.own b25 (by decide))
                  have hHeld := own_base i16.own gr23 hHeld (Nat.le_refl _)
                  clear i16 gr23 hm1
                  have i23 : OwnR wn W5.heap.size (.slice a23 (nF b 21) c23) (decQ b).bytes := ⟨by show OwnB wn _ _ ((b.drop 25).take (nF b 21)); unfold OwnB; rw [HTL.out]; exact own23⟩
                  clear own23
                  obtain ⟨wd, rfl⟩ : ∃ x, x = wn := ⟨_, rfl⟩
                  first | refine ⟨fun _ => hHeld, ?_⟩ | refine ⟨hHeld, ?_⟩ | skip
                  try simp only [Act.put, List.setIfInBounds_toArray, List.set_cons_zero, List.set_cons_succ, List.getElem_toArray, List.getElem_cons_zero, List.getElem_cons_succ]
                  refine G_pure (i := 24) (u := ?vb23_24) rfl (by kernel_rfl) (by kernel_rfl) (by kernel_rfl) (fun _ _ _ h => h) (by decide) (Or.inl ⟨by rfl, ?hyb23_24⟩) hHeld ?_
                  case hyb23_24 => (intro w hSw; go_simp; try with_reducible rfl)
                  simp only [Act.put, List.setIfInBounds_toArray, List.set_cons_zero, List.set_cons_succ, List.getElem_toArray, List.getElem_cons_zero, List.getElem_cons_succ]
                  refine G_all (rs := [25]) (by kernel_rfl) (by simp) ?_
                  intro i hi; obtain rfl : i = 25 := by simpa using hi
                  refine wpOp_run rfl (by rfl) ?_
                  go_simp
                  have b25 := heap_alloc_new wd (.cells #[.int .i64 0, .int .u32 0, .int .u32 0, .int .u32 0, .int .u32 0, .int .u32 0, .slice none 0 0] 30)
                  have xa : Ext wd (wd.alloc (.cells #[.int .i64 0, .int .u32 0, .int .u32 0, .int .u32 0, .int .u32 0, .int .u32 0, .slice none 0 0] 30)) := (Ext.refl wd).alloc _
                  have nw25 : _ ≤ wd.heap.size := hHeld.size
                  have hHeld := hHeld.trans xa
                  first | refine ⟨fun _ => hHeld, ?_⟩ | refine ⟨hHeld, ?_⟩
                  try simp only [Act.put, List.setIfInBounds_toArray, List.set_cons_zero, List.set_cons_succ, List.getElem_toArray, List.getElem_cons_zero, List.getElem_cons_succ]
                  try have i16 := i16.ext xa
                  try have i23 := i23.ext xa
                  clear xa
                  generalize wd.heap.size = B25 at *
                  generalize wd.alloc (.cells #[.int .i64 0, .int .u32 0, .int .u32 0, .int .u32 0, .int .u32 0, .int .u32 0, .slice none 0 0] 30) = wn at *
                  obtain ⟨wd, rfl⟩ : ∃ x, x = wn := ⟨_, rfl⟩
                  refine G_all (rs := [26]) (by kernel_rfl) (by simp) ?_
                  intro i hi; obtain rfl : i = 26 := by simpa using hi
                  refine wpOp_run rfl (by rfl) ?_
                  refine wp_store_row 30 (.tmp 8) (.tmp 79) rfl B25 #[.int .i64 (decQ b).kind, .int .u32 ((decQ b).view : Int), .int .u32 ((decQ b).mark.1 : Int), .int .u32 ((decQ b).mark.2 : Int), .int .u32 ((decQ b).prev.1 : Int), .int .u32 ((decQ b).prev.2 : Int), (.slice a23 (nF b 21) c23)] (by rfl) (by rfl) 30 _ b25 (by kernel_rfl) rfl (nt_one _ _ _ _) ?_
                  try refine ⟨fun e => absurd e (by decide), ?_⟩
                  refine G_free _ _ _ _ (by kernel_rfl) ?_
                  try simp only [Act.put, List.setIfInBounds_toArray, List.set_cons_zero, List.set_cons_succ, List.getElem_toArray, List.getElem_cons_zero, List.getElem_cons_succ]
                  refine wpAny_done (by kernel_rfl) ?_ _
                  refine NoPanic.normal ?_
                  have g26 := grown_setRow (w := wd) (g := B25) (c := #[.int .i64 (decQ b).kind, .int .u32 ((decQ b).view : Int), .int .u32 ((decQ b).mark.1 : Int), .int .u32 ((decQ b).mark.2 : Int), .int .u32 ((decQ b).prev.1 : Int), .int .u32 ((decQ b).prev.2 : Int), (.slice a23 (nF b 21) c23)])
                  have b26 := setRow_heap _ B25 _ #[.int .i64 (decQ b).kind, .int .u32 ((decQ b).view : Int), .int .u32 ((decQ b).mark.1 : Int), .int .u32 ((decQ b).mark.2 : Int), .int .u32 ((decQ b).prev.1 : Int), .int .u32 ((decQ b).prev.2 : Int), (.slice a23 (nF b 21) c23)] _ _ b25
                  have o26 := ownsRow_base (ownsRow_grown i23.own g26 (own_neT i23.own b25 (by decide))) hhz
                  have x26 := hHeld.grown g26 (fun q hq => by cases hq; exact nw25)
                  go_wp2_with fail
                  go_meet
                  exact ⟨B25, a23, c23, rfl, b26, Nat.le_trans hhz nw25, o26, x26⟩
                · refine wpOp_run rfl (by rfl) ?_
                  go_simp
                  have b25 := heap_alloc_new wd (.cells #[.int .i64 0, .int .u32 0, .int .u32 0, .int .u32 0, .int .u32 0, .int .u32 0, .slice none 0 0] 30)
                  have xa : Ext wd (wd.alloc (.cells #[.int .i64 0, .int .u32 0, .int .u32 0, .int .u32 0, .int .u32 0, .int .u32 0, .slice none 0 0] 30)) := (Ext.refl wd).alloc _
                  have nw25 : _ ≤ wd.heap.size := hHeld.size
                  have hHeld := hHeld.trans xa
                  first | refine ⟨fun _ => hHeld, ?_⟩ | refine ⟨hHeld, ?_⟩
                  try simp only [Act.put, List.setIfInBounds_toArray, List.set_cons_zero, List.set_cons_succ, List.getElem_toArray, List.getElem_cons_zero, List.getElem_cons_succ]
                  try have i16 := i16.ext xa
                  try have i23 := i23.ext xa
                  clear xa
                  generalize wd.heap.size = B25 at *
                  generalize wd.alloc (.cells #[.int .i64 0, .int .u32 0, .int .u32 0, .int .u32 0, .int .u32 0, .int .u32 0, .slice none 0 0] 30) = wn at *
                  obtain ⟨wd, rfl⟩ : ∃ x, x = wn := ⟨_, rfl⟩
                  refine G_all (rs := [23]) (by kernel_rfl) (by simp) ?_
                  intro i hi; obtain rfl : i = 23 := by simpa using hi
                  refine wpOp_run rfl (by rfl) ?_
                  have hm1 := HM1.out
                  refine wp_appO tyB (.tmp 71) (.tmp 77) rfl W5.heap.size (.slice (some ⟨B16, 0, none⟩) 0 0) 0 [] i16.own (by rfl) _ (nF b 21) (((b.drop 25).take (nF b 21)).map bc) ((HT.out.ext HX.out).ext hHeld) (by rfl) (bc_one _) (by omega) (by omega) hHeld.size ?_
                  intro v23 wn own23 gr23
                  rw [Nat.zero_add, List.nil_append] at own23
                  obtain ⟨a23, c23, rfl⟩ := own_shape own23
                  try have b25 := grown_keep gr23 b25 (own_neT i16.own b25 (by decide))
                  have hHeld := own_base i16.own gr23 hHeld (Nat.le_refl _)
                  clear i16 gr23 hm1
                  have i23 : OwnR wn W5.heap.size (.slice a23 (nF b 21) c23) (decQ b).bytes := ⟨by show OwnB wn _ _ ((b.drop 25).take (nF b 21)); unfold OwnB; rw [HTL.out]; exact own23⟩
                  clear own23
                  obtain ⟨wd, rfl⟩ : ∃ x, x = wn := ⟨_, rfl⟩
                  first | refine ⟨fun _ => hHeld, ?_⟩ | refine ⟨hHeld, ?_⟩ | skip
                  try simp only [Act.put, List.setIfInBounds_toArray, List.set_cons_zero, List.set_cons_succ, List.getElem_toArray, List.getElem_cons_zero, List.getElem_cons_succ]
                  refine G_pure (i := 24) (u := ?vb24_24) rfl (by kernel_rfl) (by kernel_rfl) (by kernel_rfl) (fun _ _ _ h => h) (by decide) (Or.inl ⟨by rfl, ?hyb24_24⟩) hHeld ?_
                  case hyb24_24 => (intro w hSw; go_simp; try with_reducible rfl)
                  simp only [Act.put, List.setIfInBounds_toArray, List.set_cons_zero, List.set_cons_succ, List.getElem_toArray, List.getElem_cons_zero, List.getElem_cons_succ]
                  refine G_all (rs := [26]) (by kernel_rfl) (by simp) ?_
                  intro i hi; obtain rfl : i = 26 := by simpa using hi
                  refine wpOp_run rfl (by rfl) ?_
                  refine wp_store_row 30 (.tmp 8) (.tmp 79) rfl B25 #[.int .i64 (decQ b).kind, .int .u32 ((decQ b).view : Int), .int .u32 ((decQ b).mark.1 : Int), .int .u32 ((decQ b).mark.2 : Int), .int .u32 ((decQ b).prev.1 : Int), .int .u32 ((decQ b).prev.2 : Int), (.slice a23 (nF b 21) c23)] (by rfl) (by rfl) 30 _ b25 (by kernel_rfl) rfl (nt_one _ _ _ _) ?_
                  try refine ⟨fun e => absurd e (by decide), ?_⟩
                  refine G_free _ _ _ _ (by kernel_rfl) ?_
                  try simp only [Act.put, List.setIfInBounds_toArray, List.set_cons_zero, List.set_cons_succ, List.getElem_toArray, List.getElem_cons_zero, List.getElem_cons_succ]
                  refine wpAny_done (by kernel_rfl) ?_ _
                  refine NoPanic.normal ?_
                  have g26 := grown_setRow (w := wd) (g := B25) (c := #[.int .i64 (decQ b).kind, .int .u32 ((decQ b).view : Int), .int .u32 ((decQ b).mark.1 : Int), .int .u32 ((decQ b).mark.2 : Int), .int .u32 ((decQ b).prev.1 : Int), .int .u32 ((decQ b).prev.2 : Int), (.slice a23 (nF b 21) c23)])
                  have b26 := setRow_heap _ B25 _ #[.int .i64 (decQ b).kind, .int .u32 ((decQ b).view : Int), .int .u32 ((decQ b).mark.1 : Int), .int .u32 ((decQ b).mark.2 : Int), .int .u32 ((decQ b).prev.1 : Int), .int .u32 ((decQ b).prev.2 : Int), (.slice a23 (nF b 21) c23)] _ _ b25
                  have o26 := ownsRow_base (ownsRow_grown i23.own g26 (own_neT i23.own b25 (by decide))) hhz
                  have x26 := hHeld.grown g26 (fun q hq => by cases hq; exact nw25)
                  go_wp2_with fail
                  go_meet
                  exact ⟨B25, a23, c23, rfl, b26, Nat.le_trans hhz nw25, o26, x26⟩
              · refine wpOp_run rfl (by rfl) ?_
                go_simp
                have b25 := heap_alloc_new wd (.cells #[.int .i64 0, .int .u32 0, .int .u32 0, .int .u32 0, .int .u32 0, .int .u32 0, .slice none 0 0] 30)
                have xa : Ext wd (wd.alloc (.cells #[.int .i64 0, .int .u32 0, .int .u32 0, .int .u32 0, .int .u32 0, .int .u32 0, .slice none 0 0] 30)) := (Ext.refl wd).alloc _
                have nw25 : _ ≤ wd.heap.size := hHeld.size
                have hHeld := hHeld.trans xa
                first | refine ⟨fun _ => hHeld, ?_⟩ | refine ⟨hHeld, ?_⟩
                try simp only [Act.put, List.setIfInBounds_toArray, List.set_cons_zero, List.set_cons_succ, List.getElem_toArray, List.getElem_cons_zero, List.getElem_cons_succ]
                try have i16 := i16.ext xa
                try have i23 := i23.ext xa
                clear xa
                generalize wd.heap.size = B25 at *
                generalize wd.alloc (.cells #[.int .i64 0, .int .u32 0, .int .u32 0, .int .u32 0, .int .u32 0, .int .u32 0, .slice none 0 0] 30) = wn at *
                obtain ⟨wd, rfl⟩ : ∃ x, x = wn := ⟨_, rfl⟩
                refine G_all (rs := [16]) (by kernel_rfl) (by simp) ?_
                intro i hi; obtain rfl : i = 16 := by simpa using hi
                refine wpOp_run rfl (by rfl) ?_
                go_simp
                have i16 : OwnR (wd.alloc (.cells #[] 5)) W5.heap.size (.slice (some ⟨wd.heap.size, 0, none⟩) 0 0) [] := ⟨World.ownsRow_made (base := W5.heap.size) (e := 5) (size := 1) wd #[] 0 hHeld.size (by decide) rfl⟩
                have xa : Ext wd (wd.alloc (.cells #[] 5)) := (Ext.refl wd).alloc _
                have hHeld := hHeld.trans xa
                try have b25 := xa.keeps b25
                clear xa
                generalize wd.heap.size = B16 at *
                generalize wd.alloc (.cells #[] 5) = wn at *
                obtain ⟨wd, rfl⟩ : ∃ x, x = wn := ⟨_, rfl⟩
                first | refine ⟨fun _ => hHeld, ?_⟩ | refine ⟨hHeld, ?_⟩ | skip
                try simp only [Act.put, List.setIfInBounds_toArray, List.set_cons_zero, List.set_cons_succ, List.getElem_toArray, List.getElem_cons_zero, List.getElem_cons_succ]
                refine G_all (rs := [23]) (by kernel_rfl) (by simp) ?_
                intro i hi; obtain rfl : i = 23 := by simpa using hi
                refine wpOp_run rfl (by rfl) ?_
                have hm1 := HM1.out
                refine wp_appO tyB (.tmp 71) (.tmp 77) rfl W5.heap.size (.slice (some ⟨B16, 0, none⟩) 0 0) 0 [] i16.own (by rfl) _ (nF b 21) (((b.drop 25).take (nF b 21)).map bc) ((HT.out.ext HX.out).ext hHeld) (by rfl) (bc_one _) (by omega) (by omega) hHeld.size ?_
                intro v23 wn own23 gr23
                rw [Nat.zero_add, List.nil_append] at own23
                obtain ⟨a23, c23, rfl⟩ := own_shape own23
                try have b25 := grown_keep gr23 b25 (own_neT i16.own b25 (by decide))
                have hHeld := own_base i16.own gr23 hHeld (Nat.le_refl _)
                clear i16 gr23 hm1
                have i23 : OwnR wn W5.heap.size (.slice a23 (nF b 21) c23) (decQ b).bytes := ⟨by show OwnB wn _ _ ((b.drop 25).take (nF b 21)); unfold OwnB; rw [HTL.out]; exact own23⟩
                clear own23
                obtain ⟨wd, rfl⟩ : ∃ x, x = wn := ⟨_, rfl⟩
                first | refine ⟨fun _ => hHeld, ?_⟩ | refine ⟨hHeld, ?_⟩ | skip
                try simp only [Act.put, List.setIfInBounds_toArray, List.set_cons_zero, List.set_cons_succ, List.getElem_toArray, List.getElem_cons_zero, List.getElem_cons_succ]
                refine G_pure (i := 24) (u := ?vb25_24) rfl (by kernel_rfl) (by kernel_rfl) (by kernel_rfl) (fun _ _ _ h => h) (by decide) (Or.inl ⟨by rfl, ?hyb25_24⟩) hHeld ?_
                case hyb25_24 => (intro w hSw; go_simp; try with_reducible rfl)
                simp only [Act.put, List.setIfInBounds_toArray, List.set_cons_zero, List.set_cons_succ, List.getElem_toArray, List.getElem_cons_zero, List.getElem_cons_succ]
                refine G_all (rs := [26]) (by kernel_rfl) (by simp) ?_
                intro i hi; obtain rfl : i = 26 := by simpa using hi
                refine wpOp_run rfl (by rfl) ?_
                refine wp_store_row 30 (.tmp 8) (.tmp 79) rfl B25 #[.int .i64 (decQ b).kind, .int .u32 ((decQ b).view : Int), .int .u32 ((decQ b).mark.1 : Int), .int .u32 ((decQ b).mark.2 : Int), .int .u32 ((decQ b).prev.1 : Int), .int .u32 ((decQ b).prev.2 : Int), (.slice a23 (nF b 21) c23)] (by rfl) (by rfl) 30 _ b25 (by kernel_rfl) rfl (nt_one _ _ _ _) ?_
                try refine ⟨fun e => absurd e (by decide), ?_⟩
                refine G_free _ _ _ _ (by kernel_rfl) ?_
                try simp only [Act.put, List.setIfInBounds_toArray, List.set_cons_zero, List.set_cons_succ, List.getElem_toArray, List.getElem_cons_zero, List.getElem_cons_succ]
                refine wpAny_done (by kernel_rfl) ?_ _
                refine NoPanic.normal ?_
                have g26 := grown_setRow (w := wd) (g := B25) (c := #[.int .i64 (decQ b).kind, .int .u32 ((decQ b).view : Int), .int .u32 ((decQ b).mark.1 : Int), .int .u32 ((decQ b).mark.2 : Int), .int .u32 ((decQ b).prev.1 : Int), .int .u32 ((decQ b).prev.2 : Int), (.slice a23 (nF b 21) c23)])
                have b26 := setRow_heap _ B25 _ #[.int .i64 (decQ b).kind, .int .u32 ((decQ b).view : Int), .int .u32 ((decQ b).mark.1 : Int), .int .u32 ((decQ b).mark.2 : Int), .int .u32 ((decQ b).prev.1 : Int), .int .u32 ((decQ b).prev.2 : Int), (.slice a23 (nF b 21) c23)] _ _ b25
                have o26 := ownsRow_base (ownsRow_grown i23.own g26 (own_neT i23.own b25 (by decide))) hhz
                have x26 := hHeld.grown g26 (fun q hq => by cases hq; exact nw25)
                go_wp2_with fail
                go_meet
                exact ⟨B25, a23, c23, rfl, b26, Nat.le_trans hhz nw25, o26, x26⟩
            case rest =>
              obtain ⟨B8, a8, c8, rfl, b8, hB8, own8, y⟩ := hcut
              have bZ := y.keeps bZ
              have HX := Lib.hid (HX.out.trans y)
              clear y b4 c3 hcell0
              obtain ⟨W6, rfl⟩ : ∃ x, x = wc := ⟨_, rfl⟩
              have K8 := fun v (h : Ext W6 v) => block_all (h.keeps b8)
              have KB := fun v (h : Ext W6 v) => conv_str (P := Tryd.prog) ((H0.out.ext HX.out).ext h) 28 9 5 Tryd.underlying28 Tryd.underlying5 Tryd.underlying9
              have isQ : IsB W6 (.slice a8 (nF b 21) c8) (decQ b).bytes := IsB.of_owns own8
              have HIQ := Lib.hid isQ
              have BZ := Lib.hid bZ
              have B8H := Lib.hid b8
              clear isQ bZ b8
              cases hN : notedB (decQ b) with
              | false =>
                have HNQ := Lib.hid hN
                have HE := Lib.hid (show decErr b = 363 by rw [HDT.out, hN, Bool.false_and, if_neg (by decide)])
                clear hN
                go_upto_region 16 with fail
                refine wp_region_G 10 (fun v => Ext W6 v) (by kernel_rfl) fun wd hqd hHeld => ?_
                refine C_take (i := 0) (u := ?vc0) [1, 3, 10] rfl (by kernel_rfl) (by kernel_rfl) (by kernel_rfl) (fun _ _ _ h => h) (by kernel_rfl) (by kernel_rfl) (by kernel_rfl) (by kernel_rfl) (Or.inl ⟨by rfl, ?hyc0⟩) hHeld ?_
                case hyc0 => (intro w hSw; have kk := K8 _ hSw; go_simp; try with_reducible rfl)
                simp only [Act.put, List.setIfInBounds_toArray, List.set_cons_zero, List.set_cons_succ, List.getElem_toArray, List.getElem_cons_zero, List.getElem_cons_succ]
                refine G_all (rs := [1]) (by kernel_rfl) (by simp) ?_
                intro i hi; obtain rfl : i = 1 := by simpa using hi
                refine wpOp_run rfl (by rfl) ?_
                go_simp
                refine Calls.mono (rbNoted _ _ (decQ b) (HIQ.out.ext hHeld)) ?_
                rintro e w7 ⟨rfl, x7⟩
                rw [HNQ.out]
                have hHeld := hHeld.trans x7
                first | refine ⟨fun _ => hHeld, ?_⟩ | refine ⟨hHeld, ?_⟩
                try simp only [Act.put, List.setIfInBounds_toArray, List.set_cons_zero, List.set_cons_succ, List.getElem_toArray, List.getElem_cons_zero, List.getElem_cons_succ]
                refine G_pure (i := 2) (u := ?vc2) rfl (by kernel_rfl) (by kernel_rfl) (by kernel_rfl) (fun _ _ _ h => h) (by decide) (Or.inl ⟨by rfl, ?hyc2⟩) hHeld ?_
                case hyc2 => (intro w hSw; go_simp; try with_reducible rfl)
                simp only [Act.put, List.setIfInBounds_toArray, List.set_cons_zero, List.set_cons_succ, List.getElem_toArray, List.getElem_cons_zero, List.getElem_cons_succ]
                refine G_pure (i := 3) (u := ?vc3) rfl (by kernel_rfl) (by kernel_rfl) (by kernel_rfl) (fun _ _ _ h => h) (by decide) (Or.inl ⟨by rfl, ?hyc3⟩) hHeld ?_
                case hyc3 => (intro w hSw; go_simp; try with_reducible rfl)
                simp only [Act.put, List.setIfInBounds_toArray, List.set_cons_zero, List.set_cons_succ, List.getElem_toArray, List.getElem_cons_zero, List.getElem_cons_succ]
                refine C_take (i := 4) (u := undef) [5, 6, 9, 10] rfl (by kernel_rfl) (by kernel_rfl) (by kernel_rfl) (fun _ _ _ h => h) (by kernel_rfl) (by kernel_rfl) (by kernel_rfl) (by kernel_rfl) (Or.inr ⟨by rfl, rfl⟩) hHeld ?_
                simp only [Act.put, List.setIfInBounds_toArray, List.set_cons_zero, List.set_cons_succ, List.getElem_toArray, List.getElem_cons_zero, List.getElem_cons_succ]
                refine C_take (i := 5) (u := undef) [6, 9, 10] rfl (by kernel_rfl) (by kernel_rfl) (by kernel_rfl) (fun _ _ _ h => h) (by kernel_rfl) (by kernel_rfl) (by kernel_rfl) (by kernel_rfl) (Or.inr ⟨by rfl, rfl⟩) hHeld ?_
                simp only [Act.put, List.setIfInBounds_toArray, List.set_cons_zero, List.set_cons_succ, List.getElem_toArray, List.getElem_cons_zero, List.getElem_cons_succ]
                refine G_pure (i := 6) (u := undef) rfl (by kernel_rfl) (by kernel_rfl) (by kernel_rfl) (fun _ _ _ h => h) (by decide) (Or.inr ⟨by rfl, rfl⟩) hHeld ?_
                simp only [Act.put, List.setIfInBounds_toArray, List.set_cons_zero, List.set_cons_succ, List.getElem_toArray, List.getElem_cons_zero, List.getElem_cons_succ]
                refine G_pure (i := 7) (u := undef) rfl (by kernel_rfl) (by kernel_rfl) (by kernel_rfl) (fun _ _ _ h => h) (by decide) (Or.inr ⟨by rfl, rfl⟩) hHeld ?_
                simp only [Act.put, List.setIfInBounds_toArray, List.set_cons_zero, List.set_cons_succ, List.getElem_toArray, List.getElem_cons_zero, List.getElem_cons_succ]
                refine G_pure (i := 8) (u := undef) rfl (by kernel_rfl) (by kernel_rfl) (by kernel_rfl) (fun _ _ _ h => h) (by decide) (Or.inr ⟨by rfl, rfl⟩) hHeld ?_
                simp only [Act.put, List.setIfInBounds_toArray, List.set_cons_zero, List.set_cons_succ, List.getElem_toArray, List.getElem_cons_zero, List.getElem_cons_succ]
                refine G_pure (i := 9) (u := undef) rfl (by kernel_rfl) (by kernel_rfl) (by kernel_rfl) (fun _ _ _ h => h) (by decide) (Or.inr ⟨by rfl, rfl⟩) hHeld ?_
                simp only [Act.put, List.setIfInBounds_toArray, List.set_cons_zero, List.set_cons_succ, List.getElem_toArray, List.getElem_cons_zero, List.getElem_cons_succ]
                refine G_all (rs := [10]) (by kernel_rfl) (by simp) ?_
                intro i hi; obtain rfl : i = 10 := by simpa using hi
                refine wpOp_run rfl (by rfl) ?_
                go_simp
                try refine ⟨fun e => absurd e (by decide), ?_⟩
                refine G_free _ _ _ _ (by kernel_rfl) ?_
                try simp only [Act.put, List.setIfInBounds_toArray, List.set_cons_zero, List.set_cons_succ, List.getElem_toArray, List.getElem_cons_zero, List.getElem_cons_succ]
                refine wpAny_done (by kernel_rfl) ?_ _
                refine NoPanic.normal ?_
                have bZ := hHeld.keeps BZ.out
                have HX := Lib.hid (HX.out.trans hHeld)
                clear K8 KB hHeld x7
                go_wp2_with (((with_reducible refine at_store 30 (.tmp 2) (.tmp 91) ?_); go_must (refine wpl_store rfl 30 (.tmp 2) (.tmp 91) rfl w.heap.size #[.int .i64 n0.kind, .int .u32 (n0.view : Int), .int .u32 (n0.mark.1 : Int), .int .u32 (n0.mark.2 : Int), .int .u32 (n0.prev.1 : Int), .int .u32 (n0.prev.2 : Int), (.slice none 0 0)] (by rfl) (by rfl) 30 _ bZ (by kernel_rfl) rfl (nt_one _ _ _ _) ?_); rw [setRow_self _ w.heap.size _ _ _ bZ]))
                exact bodyPost_ret (results_cell_tmp (p := 2) (q := 3) rfl _ _ w.heap.size _ _ _ _ (by rfl) bZ Tryd.underlying30 rfl (by kernel_rfl)) rfl (rdec_err HE.out (by omega) HX.out)
              | true =>
                have HNQ := Lib.hid hN
                have hnl := noted_len hN
                have HNL := Lib.hid hnl
                cases c5 : (encN (decQ b) == b) with
                | false =>
                  have HE := Lib.hid (show decErr b = 363 by rw [HDT.out, hN, c5, Bool.and_false, if_neg (by decide)])
                  have HC5 := Lib.hid c5
                  clear hN hnl c5
                  go_upto_region 16 with fail
                  refine wp_region_G 10 (fun v => Ext W6 v) (by kernel_rfl) fun wd hqd hHeld => ?_
                  refine C_take (i := 0) (u := ?vd0) [1, 3, 10] rfl (by kernel_rfl) (by kernel_rfl) (by kernel_rfl) (fun _ _ _ h => h) (by kernel_rfl) (by kernel_rfl) (by kernel_rfl) (by kernel_rfl) (Or.inl ⟨by rfl, ?hyd0⟩) hHeld ?_
                  case hyd0 => (intro w hSw; have kk := K8 _ hSw; go_simp; try with_reducible rfl)
                  simp only [Act.put, List.setIfInBounds_toArray, List.set_cons_zero, List.set_cons_succ, List.getElem_toArray, List.getElem_cons_zero, List.getElem_cons_succ]
                  refine G_all (rs := [1]) (by kernel_rfl) (by simp) ?_
                  intro i hi; obtain rfl : i = 1 := by simpa using hi
                  refine wpOp_run rfl (by rfl) ?_
                  go_simp
                  refine Calls.mono (rbNoted _ _ (decQ b) (HIQ.out.ext hHeld)) ?_
                  rintro e w7 ⟨rfl, x7⟩
                  rw [HNQ.out]
                  have hHeld := hHeld.trans x7
                  first | refine ⟨fun _ => hHeld, ?_⟩ | refine ⟨hHeld, ?_⟩
                  try simp only [Act.put, List.setIfInBounds_toArray, List.set_cons_zero, List.set_cons_succ, List.getElem_toArray, List.getElem_cons_zero, List.getElem_cons_succ]
                  refine G_pure (i := 2) (u := ?vd2) rfl (by kernel_rfl) (by kernel_rfl) (by kernel_rfl) (fun _ _ _ h => h) (by decide) (Or.inl ⟨by rfl, ?hyd2⟩) hHeld ?_
                  case hyd2 => (intro w hSw; go_simp; try with_reducible rfl)
                  simp only [Act.put, List.setIfInBounds_toArray, List.set_cons_zero, List.set_cons_succ, List.getElem_toArray, List.getElem_cons_zero, List.getElem_cons_succ]
                  refine G_pure (i := 3) (u := ?vd3) rfl (by kernel_rfl) (by kernel_rfl) (by kernel_rfl) (fun _ _ _ h => h) (by decide) (Or.inl ⟨by rfl, ?hyd3⟩) hHeld ?_
                  case hyd3 => (intro w hSw; go_simp; try with_reducible rfl)
                  simp only [Act.put, List.setIfInBounds_toArray, List.set_cons_zero, List.set_cons_succ, List.getElem_toArray, List.getElem_cons_zero, List.getElem_cons_succ]
                  refine C_take (i := 4) (u := ?vd4) [5, 6, 9, 10] rfl (by kernel_rfl) (by kernel_rfl) (by kernel_rfl) (fun _ _ _ h => h) (by kernel_rfl) (by kernel_rfl) (by kernel_rfl) (by kernel_rfl) (Or.inl ⟨by rfl, ?hyd4⟩) hHeld ?_
                  case hyd4 => (intro w hSw; have kk := K8 _ hSw; go_simp; try with_reducible rfl)
                  simp only [Act.put, List.setIfInBounds_toArray, List.set_cons_zero, List.set_cons_succ, List.getElem_toArray, List.getElem_cons_zero, List.getElem_cons_succ]
                  refine G_pure (i := 7) (u := ?vd7) rfl (by kernel_rfl) (by kernel_rfl) (by kernel_rfl) (fun _ _ _ h => h) (by decide) (Or.inl ⟨by rfl, ?hyd7⟩) hHeld ?_
                  case hyd7 => (intro w hSw; go_simp; try with_reducible rfl)
                  simp only [Act.put, List.setIfInBounds_toArray, List.set_cons_zero, List.set_cons_succ, List.getElem_toArray, List.getElem_cons_zero, List.getElem_cons_succ]
                  refine C_take (i := 8) (u := ?vd8) [9, 10] rfl (by kernel_rfl) (by kernel_rfl) (by kernel_rfl) (fun _ _ _ h => h) (by kernel_rfl) (by kernel_rfl) (by kernel_rfl) (by kernel_rfl) (Or.inl ⟨by rfl, ?hyd8⟩) hHeld ?_
                  case hyd8 => (intro w hSw; have kk := KB _ hSw; go_simp; try with_reducible rfl)
                  simp only [Act.put, List.setIfInBounds_toArray, List.set_cons_zero, List.set_cons_succ, List.getElem_toArray, List.getElem_cons_zero, List.getElem_cons_succ]
                  refine G_all (rs := [5]) (by kernel_rfl) (by simp) ?_
                  intro i hi; obtain rfl : i = 5 := by simpa using hi
                  refine wpOp_run rfl (by rfl) ?_
                  go_simp
                  refine Calls.mono (rbBytes _ _ (decQ b) (HIQ.out.ext hHeld) (decQ_ok b) (by have := HNL.out; omega)) ?_
                  rintro e w8 ⟨v5, rfl, own5, x8⟩
                  obtain ⟨a5, c5, rfl⟩ := own_shape own5
                  have hHeld := hHeld.trans x8
                  first | refine ⟨fun _ => hHeld, ?_⟩ | refine ⟨hHeld, ?_⟩
                  try simp only [Act.put, List.setIfInBounds_toArray, List.set_cons_zero, List.set_cons_succ, List.getElem_toArray, List.getElem_cons_zero, List.getElem_cons_succ]
                  refine G_all (rs := [6]) (by kernel_rfl) (by simp) ?_
                  intro i hi; obtain rfl : i = 6 := by simpa using hi
                  refine wpOp_run rfl (by rfl) ?_
                  have c6 := conv_str (P := Tryd.prog) (IsB.of_owns own5) 28 9 5 Tryd.underlying28 Tryd.underlying5 Tryd.underlying9
                  go_simp
                  first | refine ⟨fun _ => hHeld, ?_⟩ | refine ⟨hHeld, ?_⟩ | skip
                  try simp only [Act.put, List.setIfInBounds_toArray, List.set_cons_zero, List.set_cons_succ, List.getElem_toArray, List.getElem_cons_zero, List.getElem_cons_succ]
                  refine G_pure (i := 9) (u := ?vd9) rfl (by kernel_rfl) (by kernel_rfl) (by kernel_rfl) (fun _ _ _ h => h) (by decide) (Or.inl ⟨by rfl, ?hyd9⟩) hHeld ?_
                  case hyd9 => (intro w hSw; go_simp; try with_reducible rfl)
                  simp only [Act.put, List.setIfInBounds_toArray, List.set_cons_zero, List.set_cons_succ, List.getElem_toArray, List.getElem_cons_zero, List.getElem_cons_succ]
                  refine G_all (rs := [10]) (by kernel_rfl) (by simp) ?_
                  intro i hi; obtain rfl : i = 10 := by simpa using hi
                  refine wpOp_run rfl (by rfl) ?_
                  go_simp
                  try refine ⟨fun e => absurd e (by decide), ?_⟩
                  refine G_free _ _ _ _ (by kernel_rfl) ?_
                  try simp only [Act.put, List.setIfInBounds_toArray, List.set_cons_zero, List.set_cons_succ, List.getElem_toArray, List.getElem_cons_zero, List.getElem_cons_succ]
                  refine wpAny_done (by kernel_rfl) ?_ _
                  refine NoPanic.normal ?_
                  have bZ := hHeld.keeps BZ.out
                  have HX := Lib.hid (HX.out.trans hHeld)
                  rw [HC5.out]
                  clear K8 KB hHeld x7 x8 c6
                  go_wp2_with (((with_reducible refine at_store 30 (.tmp 2) (.tmp 91) ?_); go_must (refine wpl_store rfl 30 (.tmp 2) (.tmp 91) rfl w.heap.size #[.int .i64 n0.kind, .int .u32 (n0.view : Int), .int .u32 (n0.mark.1 : Int), .int .u32 (n0.mark.2 : Int), .int .u32 (n0.prev.1 : Int), .int .u32 (n0.prev.2 : Int), (.slice none 0 0)] (by rfl) (by rfl) 30 _ bZ (by kernel_rfl) rfl (nt_one _ _ _ _) ?_); rw [setRow_self _ w.heap.size _ _ _ bZ]))
                  exact bodyPost_ret (results_cell_tmp (p := 2) (q := 3) rfl _ _ w.heap.size _ _ _ _ (by rfl) bZ Tryd.underlying30 rfl (by kernel_rfl)) rfl (rdec_err HE.out (by omega) HX.out)
                | true =>
                  have HE := Lib.hid (show decErr b = 0 by rw [HDT.out, hN, c5, Bool.and_true, if_pos rfl])
                  have HC5 := Lib.hid c5
                  clear hN hnl c5
                  go_upto_region 16 with fail
                  refine wp_region_G 10 (fun v => Ext W6 v) (by kernel_rfl) fun wd hqd hHeld => ?_
                  refine C_take (i := 0) (u := ?ve0) [1, 3, 10] rfl (by kernel_rfl) (by kernel_rfl) (by kernel_rfl) (fun _ _ _ h => h) (by kernel_rfl) (by kernel_rfl) (by kernel_rfl) (by kernel_rfl) (Or.inl ⟨by rfl, ?hye0⟩) hHeld ?_
                  case hye0 => (intro w hSw; have kk := K8 _ hSw; go_simp; try with_reducible rfl)
                  simp only [Act.put, List.setIfInBounds_toArray, List.set_cons_zero, List.set_cons_succ, List.getElem_toArray, List.getElem_cons_zero, List.getElem_cons_succ]
                  refine G_all (rs := [1]) (by kernel_rfl) (by simp) ?_
                  intro i hi; obtain rfl : i = 1 := by simpa using hi
                  refine wpOp_run rfl (by rfl) ?_
                  go_simp
                  refine Calls.mono (rbNoted _ _ (decQ b) (HIQ.out.ext hHeld)) ?_
                  rintro e w7 ⟨rfl, x7⟩
                  rw [HNQ.out]
                  have hHeld := hHeld.trans x7
                  first | refine ⟨fun _ => hHeld, ?_⟩ | refine ⟨hHeld, ?_⟩
                  try simp only [Act.put, List.setIfInBounds_toArray, List.set_cons_zero, List.set_cons_succ, List.getElem_toArray, List.getElem_cons_zero, List.getElem_cons_succ]
                  refine G_pure (i := 2) (u := ?ve2) rfl (by kernel_rfl) (by kernel_rfl) (by kernel_rfl) (fun _ _ _ h => h) (by decide) (Or.inl ⟨by rfl, ?hye2⟩) hHeld ?_
                  case hye2 => (intro w hSw; go_simp; try with_reducible rfl)
                  simp only [Act.put, List.setIfInBounds_toArray, List.set_cons_zero, List.set_cons_succ, List.getElem_toArray, List.getElem_cons_zero, List.getElem_cons_succ]
                  refine G_pure (i := 3) (u := ?ve3) rfl (by kernel_rfl) (by kernel_rfl) (by kernel_rfl) (fun _ _ _ h => h) (by decide) (Or.inl ⟨by rfl, ?hye3⟩) hHeld ?_
                  case hye3 => (intro w hSw; go_simp; try with_reducible rfl)
                  simp only [Act.put, List.setIfInBounds_toArray, List.set_cons_zero, List.set_cons_succ, List.getElem_toArray, List.getElem_cons_zero, List.getElem_cons_succ]
                  refine C_take (i := 4) (u := ?ve4) [5, 6, 9, 10] rfl (by kernel_rfl) (by kernel_rfl) (by kernel_rfl) (fun _ _ _ h => h) (by kernel_rfl) (by kernel_rfl) (by kernel_rfl) (by kernel_rfl) (Or.inl ⟨by rfl, ?hye4⟩) hHeld ?_
                  case hye4 => (intro w hSw; have kk := K8 _ hSw; go_simp; try with_reducible rfl)
                  simp only [Act.put, List.setIfInBounds_toArray, List.set_cons_zero, List.set_cons_succ, List.getElem_toArray, List.getElem_cons_zero, List.getElem_cons_succ]
                  refine G_pure (i := 7) (u := ?ve7) rfl (by kernel_rfl) (by kernel_rfl) (by kernel_rfl) (fun _ _ _ h => h) (by decide) (Or.inl ⟨by rfl, ?hye7⟩) hHeld ?_
                  case hye7 => (intro w hSw; go_simp; try with_reducible rfl)
                  simp only [Act.put, List.setIfInBounds_toArray, List.set_cons_zero, List.set_cons_succ, List.getElem_toArray, List.getElem_cons_zero, List.getElem_cons_succ]
                  refine C_take (i := 8) (u := ?ve8) [9, 10] rfl (by kernel_rfl) (by kernel_rfl) (by kernel_rfl) (fun _ _ _ h => h) (by kernel_rfl) (by kernel_rfl) (by kernel_rfl) (by kernel_rfl) (Or.inl ⟨by rfl, ?hye8⟩) hHeld ?_
                  case hye8 => (intro w hSw; have kk := KB _ hSw; go_simp; try with_reducible rfl)
                  simp only [Act.put, List.setIfInBounds_toArray, List.set_cons_zero, List.set_cons_succ, List.getElem_toArray, List.getElem_cons_zero, List.getElem_cons_succ]
                  refine G_all (rs := [5]) (by kernel_rfl) (by simp) ?_
                  intro i hi; obtain rfl : i = 5 := by simpa using hi
                  refine wpOp_run rfl (by rfl) ?_
                  go_simp
                  refine Calls.mono (rbBytes _ _ (decQ b) (HIQ.out.ext hHeld) (decQ_ok b) (by have := HNL.out; omega)) ?_
                  rintro e w8 ⟨v5, rfl, own5, x8⟩
                  obtain ⟨a5, c5, rfl⟩ := own_shape own5
                  have hHeld := hHeld.trans x8
                  first | refine ⟨fun _ => hHeld, ?_⟩ | refine ⟨hHeld, ?_⟩
                  try simp only [Act.put, List.setIfInBounds_toArray, List.set_cons_zero, List.set_cons_succ, List.getElem_toArray, List.getElem_cons_zero, List.getElem_cons_succ]
                  refine G_all (rs := [6]) (by kernel_rfl) (by simp) ?_
                  intro i hi; obtain rfl : i = 6 := by simpa using hi
                  refine wpOp_run rfl (by rfl) ?_
                  have c6 := conv_str (P := Tryd.prog) (IsB.of_owns own5) 28 9 5 Tryd.underlying28 Tryd.underlying5 Tryd.underlying9
                  go_simp
                  first | refine ⟨fun _ => hHeld, ?_⟩ | refine ⟨hHeld, ?_⟩ | skip
                  try simp only [Act.put, List.setIfInBounds_toArray, List.set_cons_zero, List.set_cons_succ, List.getElem_toArray, List.getElem_cons_zero, List.getElem_cons_succ]
                  refine G_pure (i := 9) (u := ?ve9) rfl (by kernel_rfl) (by kernel_rfl) (by kernel_rfl) (fun _ _ _ h => h) (by decide) (Or.inl ⟨by rfl, ?hye9⟩) hHeld ?_
                  case hye9 => (intro w hSw; go_simp; try with_reducible rfl)
                  simp only [Act.put, List.setIfInBounds_toArray, List.set_cons_zero, List.set_cons_succ, List.getElem_toArray, List.getElem_cons_zero, List.getElem_cons_succ]
                  refine G_all (rs := [10]) (by kernel_rfl) (by simp) ?_
                  intro i hi; obtain rfl : i = 10 := by simpa using hi
                  refine wpOp_run rfl (by rfl) ?_
                  go_simp
                  try refine ⟨fun e => absurd e (by decide), ?_⟩
                  refine G_free _ _ _ _ (by kernel_rfl) ?_
                  try simp only [Act.put, List.setIfInBounds_toArray, List.set_cons_zero, List.set_cons_succ, List.getElem_toArray, List.getElem_cons_zero, List.getElem_cons_succ]
                  refine wpAny_done (by kernel_rfl) ?_ _
                  refine NoPanic.normal ?_
                  have bZ := hHeld.keeps BZ.out
                  have b8 := hHeld.keeps B8H.out
                  have HX := Lib.hid (HX.out.trans hHeld)
                  have own8 := ownsRow_ext own8 hHeld
                  rw [HC5.out]
                  clear K8 KB hHeld x7 x8 c6
                  obtain ⟨W9, rfl⟩ : ∃ x, x = w8 := ⟨_, rfl⟩
                  have k8 := block_all b8
                  have b9 := setRow_heap _ w.heap.size _ #[.int .i64 (decQ b).kind, .int .u32 ((decQ b).view : Int), .int .u32 ((decQ b).mark.1 : Int), .int .u32 ((decQ b).mark.2 : Int), .int .u32 ((decQ b).prev.1 : Int), .int .u32 ((decQ b).prev.2 : Int), (.slice a8 (nF b 21) c8)] _ _ bZ
                  have g9 := grown_setRow (w := W9) (g := w.heap.size) (c := #[.int .i64 (decQ b).kind, .int .u32 ((decQ b).view : Int), .int .u32 ((decQ b).mark.1 : Int), .int .u32 ((decQ b).mark.2 : Int), .int .u32 ((decQ b).prev.1 : Int), .int .u32 ((decQ b).prev.2 : Int), (.slice a8 (nF b 21) c8)])
                  have own9 := ownsRow_grown own8 g9 (own_neT own8 bZ (by decide))
                  have ix := HX.out.grown g9 (fun k hk => by cases hk; omega)
                  have HO9 := Lib.hid own9
                  have HDQ := Lib.hid (decQ_len HE.out)
                  clear g9 own9 own8
                  go_wp2_with (((with_reducible refine at_store 30 (.tmp 2) (.tmp 92) ?_); go_must (refine wpl_store rfl 30 (.tmp 2) (.tmp 92) rfl w.heap.size #[.int .i64 (decQ b).kind, .int .u32 ((decQ b).view : Int), .int .u32 ((decQ b).mark.1 : Int), .int .u32 ((decQ b).mark.2 : Int), .int .u32 ((decQ b).prev.1 : Int), .int .u32 ((decQ b).prev.2 : Int), (.slice a8 (nF b 21) c8)] (by rfl) (by rfl) 30 _ bZ (by kernel_rfl) rfl (nt_one _ _ _ _) ?_)))
                  exact bodyPost_ret (results_cell_tmp (p := 2) (q := 3) rfl _ _ w.heap.size _ _ _ _ (by rfl) b9 Tryd.underlying30 rfl (by kernel_rfl)) rfl ⟨ix, .inr ⟨HE.out, .slice a8 (nF b 21) c8, by rw [← HDQ.out]; rfl, by rw [← HDQ.out]; exact HO9.out⟩⟩
end Go.Proofs.YtkcddcomjbihgaaDoor
