/- Backup: the document's notes: RightNote, SameNote, Bytes. -/
import Derived.Test.YtkcddcomjbihgaaDoorBkU
import Derived.Test.YtkcddcomjbihgaaDoorShF
import Derived.Test.YtkcddcomjbihgaaDoorOctF
namespace Go.Proofs.YtkcddcomjbihgaaDoor
open Go.RowKit
set_option linter.unusedVariables false
set_option linter.unusedSimpArgs false

set_option maxHeartbeats 2000000 in
theorem rbNoted (w : World) (vb : Value) (n : Nt) (h : IsB w vb n.bytes) :
    Calls Tryd.prog 11 #[.agg #[.int .i64 n.kind, .int .u32 (n.view : Int), .int .u32 (n.mark.1 : Int), .int .u32 (n.mark.2 : Int), .int .u32 (n.prev.1 : Int), .int .u32 (n.prev.2 : Int), vb]] w fun e w' => e = .returned (.bool (notedB n)) ∧ Ext w w' := by
  obtain ⟨ao, cap, rfl, b1, m1, z1, -⟩ := h.opened
  generalize hR : notedB n = R
  have HR := Lib.hid hR
  clear hR z1 h
  have heq := mkEql
  have heq0 := mkEql0
  go_enter Tryd.func11, Tryd.ntmps11
  go_wp2_with fail
  all_goals clear heq heq0
  all_goals
    go_ret
    refine ⟨ret_bool ?_, ((Ext.refl w).alloc _).alloc _⟩
    rw [← HR.out]
    first
      | (simp [notedB, plainB, *]; done)
      | (have q3 : n.kind = 3 := by simpa using ‹(n.kind == 3) = true›
         rw [Bool.eq_iff_iff]
         simp [notedB, plainB, q3]
         omega)
      | (have q4 : n.kind = 4 := by simpa using ‹(n.kind == 4) = true›
         have qm := ‹meq n.prev m0 = true›
         rw [Bool.eq_iff_iff]
         simp [notedB, plainB, q4, qm]
         omega)
      | (simp [notedB, plainB, *]; omega)
def sameN (a b : Nt) : Bool := a.kind == b.kind && (((a.view : Int) == (b.view : Int)) && (meq a.mark b.mark && (meq a.prev b.prev && a.bytes == b.bytes)))
set_option maxHeartbeats 2000000 in
set_option maxRecDepth 100000 in
theorem rbSameNote (w : World) (va vb : Value) (a b : Nt) (ha : IsB w va a.bytes) (hb : IsB w vb b.bytes) :
    Calls Tryd.prog 16 #[.agg #[.int .i64 a.kind, .int .u32 (a.view : Int), .int .u32 (a.mark.1 : Int), .int .u32 (a.mark.2 : Int), .int .u32 (a.prev.1 : Int), .int .u32 (a.prev.2 : Int), va], .agg #[.int .i64 b.kind, .int .u32 (b.view : Int), .int .u32 (b.mark.1 : Int), .int .u32 (b.mark.2 : Int), .int .u32 (b.prev.1 : Int), .int .u32 (b.prev.2 : Int), vb]] w fun e w' => e = .returned (.bool (sameN a b)) ∧ Ext w w' := by
  have X := ((Ext.refl w).alloc (.cells #[.int .i64 a.kind, .int .u32 (a.view : Int), .int .u32 (a.mark.1 : Int), .int .u32 (a.mark.2 : Int), .int .u32 (a.prev.1 : Int), .int .u32 (a.prev.2 : Int), va] 30)).alloc (.cells #[.int .i64 b.kind, .int .u32 (b.view : Int), .int .u32 (b.mark.1 : Int), .int .u32 (b.mark.2 : Int), .int .u32 (b.prev.1 : Int), .int .u32 (b.prev.2 : Int), vb] 30)
  have c1 := conv_str (P := Tryd.prog) (ha.ext X) 28 9 5 Tryd.underlying28 Tryd.underlying5 Tryd.underlying9
  have c2 := conv_str (P := Tryd.prog) (hb.ext X) 28 9 5 Tryd.underlying28 Tryd.underlying5 Tryd.underlying9
  obtain ⟨a1, k1, rfl, -⟩ := ha.opened
  obtain ⟨a2, k2, rfl, -⟩ := hb.opened
  generalize hR : sameN a b = R
  have HR := Lib.hid hR
  clear hR ha hb
  have HX := Lib.hid X
  clear X
  have heq := mkEql
  go_enter Tryd.func16, Tryd.ntmps16
  go_upto_region 1 with fail
  refine wp_forget (fun W => Ext w W ∧ W.heap[w.heap.size]? = some (.cells #[.int .i64 a.kind, .int .u32 (a.view : Int), .int .u32 (a.mark.1 : Int), .int .u32 (a.mark.2 : Int), .int .u32 (a.prev.1 : Int), .int .u32 (a.prev.2 : Int), (.slice a1 a.bytes.length k1)] 30 (0, 0)) ∧ W.heap[w.heap.size + 1]? = some (.cells #[.int .i64 b.kind, .int .u32 (b.view : Int), .int .u32 (b.mark.1 : Int), .int .u32 (b.mark.2 : Int), .int .u32 (b.prev.1 : Int), .int .u32 (b.prev.2 : Int), (.slice a2 b.bytes.length k2)] 30 (0, 0)) ∧ (convert 28 9 (.slice a1 a.bytes.length k1)).run Tryd.prog W = .ok (.string ⟨a.bytes.toArray⟩) W ∧ (convert 28 9 (.slice a2 b.bytes.length k2)).run Tryd.prog W = .ok (.string ⟨b.bytes.toArray⟩) W) ⟨HX.out, blk_old (heap_alloc_new w _), blk_new (by simp), c1, c2⟩ ?_
  rintro W ⟨X, bA, bB, c1, c2⟩
  have HX := Lib.hid X
  have k1 := block_all bA
  have k2 := block_all bB
  clear X bA bB
  cases q1 : (a.kind == b.kind) with
  | false =>
    go_wp2_with fail
    go_ret
    exact ⟨ret_bool (by rw [← HR.out]; simp only [sameN, q1, Bool.false_and]), HX.out⟩
  | true =>
    cases q2 : ((a.view : Int) == (b.view : Int)) with
    | false =>
      go_wp2_with fail
      go_ret
      exact ⟨ret_bool (by rw [← HR.out]; simp only [sameN, q1, q2, Bool.false_and, Bool.true_and]), HX.out⟩
    | true =>
      cases q3 : meq a.mark b.mark with
      | false =>
        go_wp2_with fail
        go_ret
        exact ⟨ret_bool (by rw [← HR.out]; simp only [sameN, q1, q2, q3, Bool.false_and, Bool.true_and]), HX.out⟩
      | true =>
        cases q4 : meq a.prev b.prev with
        | false =>
          go_wp2_with fail
          go_ret
          exact ⟨ret_bool (by rw [← HR.out]; simp only [sameN, q1, q2, q3, q4, Bool.false_and, Bool.true_and]), HX.out⟩
        | true =>
          go_wp2_with fail
          go_ret
          exact ⟨ret_bool (by rw [← HR.out]; simp [sameN, q1, q2, q3, q4]), HX.out⟩
set_option maxHeartbeats 2000000 in
set_option maxRecDepth 100000 in
theorem rbBytes (w : World) (vb : Value) (n : Nt) (h : IsB w vb n.bytes) (ho : NtOk n) (hb : n.bytes.length ≤ 50000) :
    Calls Tryd.prog 13 #[.agg #[.int .i64 n.kind, .int .u32 (n.view : Int), .int .u32 (n.mark.1 : Int), .int .u32 (n.mark.2 : Int), .int .u32 (n.prev.1 : Int), .int .u32 (n.prev.2 : Int), vb]] w fun e w' => ∃ v', e = .returned v' ∧ OwnB w' w.heap.size v' (encN n) ∧ Ext w w' := by
  obtain ⟨ao, cap, rfl, b1, m1, z1, -⟩ := h.opened
  obtain ⟨k, hk⟩ : ∃ k : Nat, n.kind % 256 = (k : Int) := ⟨(n.kind % 256).toNat, by omega⟩
  have H := Lib.hid h
  clear z1 h
  go_enter Tryd.func13, Tryd.ntmps13
  go_upto_region 3 with fail
  refine wp_forget (fun W => Ext w W ∧ W.heap[w.heap.size]? = some (.cells #[.int .i64 n.kind, .int .u32 (n.view : Int), .int .u32 (n.mark.1 : Int), .int .u32 (n.mark.2 : Int), .int .u32 (n.prev.1 : Int), .int .u32 (n.prev.2 : Int), (.slice ao n.bytes.length cap)] 30 (0, 0)) ∧ W.ownsRow w.heap.size 5 1 (.slice (some ⟨w.heap.size + 1, 0, none⟩) 1 1) 1 (([UInt8.ofNat (n.kind % 256).toNat]).map bc) ∧ W.heap[w.heap.size + 2]? = some (.cells #[.int .u32 (n.view : Int), .int .u32 (n.mark.1 : Int), .int .u32 (n.mark.2 : Int), .int .u32 (n.prev.1 : Int), .int .u32 (n.prev.2 : Int), .int .u32 (n.bytes.length : Int)] 25 (0, 0))) ⟨?_, ?_, ?_, ?_⟩ ?_
  · exact (((Ext.refl w).alloc _).alloc _).alloc _
  · exact blk_old (blk_old (heap_alloc_new w _))
  · refine ownsRow_ext (?_ : (((w.alloc (.cells #[.int .i64 n.kind, .int .u32 (n.view : Int), .int .u32 (n.mark.1 : Int), .int .u32 (n.mark.2 : Int), .int .u32 (n.prev.1 : Int), .int .u32 (n.prev.2 : Int), (.slice ao n.bytes.length cap)] 30)).alloc (.cells #[.int .u8 (k : Int)] 5))).ownsRow _ _ _ _ _ _) ((Ext.refl _).alloc _)
    have := own_new (w.alloc (.cells #[.int .i64 n.kind, .int .u32 (n.view : Int), .int .u32 (n.mark.1 : Int), .int .u32 (n.mark.2 : Int), .int .u32 (n.prev.1 : Int), .int .u32 (n.prev.2 : Int), (.slice ao n.bytes.length cap)] 30)) [.int .u8 (k : Int)] 1 1 w.heap.size 5 (by simp) rfl (by decide)
    rw [show ([UInt8.ofNat (n.kind % 256).toNat]).map bc = [.int .u8 (k : Int)] from by simp [hk, bc_ofNat]; omega]
    simpa using this
  · exact blk_new (by simp)
  rintro W ⟨X, bN, own, bL⟩
  have HX := Lib.hid X
  have hl : ∀ x ∈ [n.view, n.mark.1, n.mark.2, n.prev.1, n.prev.2, n.bytes.length], x < 4294967296 := by
    have h1 := ho.view; have h2 := ho.mark; have h3 := ho.prev
    unfold mkOk at h2 h3
    intro x hx
    simp only [List.mem_cons, List.not_mem_nil, or_false] at hx
    rcases hx with rfl | rfl | rfl | rfl | rfl | rfl <;> omega
  have bL : W.heap[w.heap.size + 2]? = some (.cells ([n.view, n.mark.1, n.mark.2, n.prev.1, n.prev.2, n.bytes.length].map u4).toArray 25 (0, 0)) := bL
  obtain ⟨L, hL⟩ : ∃ L, [n.view, n.mark.1, n.mark.2, n.prev.1, n.prev.2, n.bytes.length] = L := ⟨_, rfl⟩
  have hLl : L.length = 6 := by rw [← hL]; rfl
  obtain ⟨B, hB⟩ : ∃ B, [UInt8.ofNat (n.kind % 256).toNat] = B := ⟨_, rfl⟩
  have hBl : B.length = 1 := by rw [← hB]; rfl
  have HBody := Lib.hid (show ntBody n = B ++ L.flatMap (fun x => be x 4) ++ n.bytes by unfold ntBody; rw [hB, hL])
  have HEnc := Lib.hid (show encN n = ntBody n ++ shaL (ntBody n) from rfl)
  rw [hL] at hl bL
  rw [hB] at own
  have HBL := Lib.hid bL
  have HBN := Lib.hid bN
  have HLl := Lib.hid hLl
  have HBl := Lib.hid hBl
  clear hL hB X hLl hBl hk HBL HBN
  go_loopg [3, 5, 31] 6 (fun g s3 s5 s31 wr => ∃ k : Nat, k ≤ 6 ∧ 6 - k ≤ g ∧ s31 = .int .i64 (k : Int) ∧ wr.ownsRow w.heap.size 5 1 s3 (1 + 4 * k) ((B ++ (L.take k).flatMap (fun x => be x 4)).map bc) ∧ Ext w wr ∧ wr.heap[w.heap.size]? = some (.cells #[.int .i64 n.kind, .int .u32 (n.view : Int), .int .u32 (n.mark.1 : Int), .int .u32 (n.mark.2 : Int), .int .u32 (n.prev.1 : Int), .int .u32 (n.prev.2 : Int), (.slice ao n.bytes.length cap)] 30 (0, 0)) ∧ wr.heap[w.heap.size + 2]? = some (.cells (L.map u4).toArray 25 (0, 0)))
  case atStart => exact ⟨0, by omega, by omega, rfl, by simpa using own, HX.out, bN, bL⟩
  case round =>
    clear bN bL own
    obtain ⟨k, hk, hg, rfl, own, xr, bN, bL⟩ := hrel
    have HBL := Lib.hid bL
    have HBN := Lib.hid bN
    by_cases hlt : k < 6
    · have e0 : wr.cell? ⟨w.heap.size + 2, k, none⟩ = some (.int .u32 ((L[k]'(by rw [HLl.out]; exact hlt)) : Int)) := by
        rw [block_all bL]
        simp [u4, HLl.out, hlt]
      have hst : (L.take (k + 1)).flatMap (fun x => be x 4) = (L.take k).flatMap (fun x => be x 4) ++ be (L[k]'(by rw [HLl.out]; exact hlt)) 4 := by
        rw [List.take_succ_eq_append_getElem (by rw [HLl.out]; exact hlt), List.flatMap_append]; simp
      have hx := hl _ (List.getElem_mem (by rw [HLl.out]; exact hlt))
      have HST := Lib.hid hst
      have hbz : w.heap.size ≤ wr.heap.size := xr.size
      obtain ⟨a1, c1, rfl⟩ := own_shape own
      clear hst bN bL
      generalize (L.take k).flatMap (fun x => be x 4) = T at *
      generalize L[k]'(by rw [HLl.out]; exact hlt) = x at *
      have HOwn := Lib.hid own
      clear own
      go_wp2_with fail
      refine (refHigh _ x 4 (by omega) (by omega)).mono ?_
      rintro e w2 ⟨v2, rfl, own2, x2⟩
      have own := ownsRow_ext HOwn.out x2
      have is2 := IsSl.of_owns own2
      obtain ⟨a2, c2, rfl⟩ := own_shape own2
      have hz2 : w.heap.size ≤ w2.heap.size := Nat.le_trans hbz x2.size
      clear own2 e0
      go_wp2_with (at_builtin; go_must (refine wp_app tyB rfl _ _ rfl w.heap.size _ (1 + 4 * k) _ own (by rfl) _ 4 ((be x 4).map bc) is2 (by rfl) (bc_one _) (by omega) (by omega) hz2 ?_); intro v3 w3 own3 gr3)
      have x3 := own_base own gr3 (xr.trans x2) (Nat.le_refl _)
      go_roundg (6 - (k + 1))
      case measure => omega
      case rel =>
        refine ⟨k + 1, by omega, by omega, by go_num, ?_, x3, grown_keep gr3 (x2.keeps HBN.out) (own_neT own (x2.keeps HBN.out) (by decide)), grown_keep gr3 (x2.keeps HBL.out) (own_neT own (x2.keeps HBL.out) (by decide))⟩
        rw [HST.out, ← List.append_assoc, List.map_append, show 1 + 4 * (k + 1) = 1 + 4 * k + 4 from by omega]
        exact own3
    · obtain rfl : k = 6 := by omega
      rw [List.take_of_length_le (by rw [HLl.out]; exact Nat.le_refl _)] at own
      have hLf : (L.flatMap (fun x => be x 4)).length = 24 := by
        rw [flat_lenU (fun x => be x 4) 4 _ (fun _ _ => be_length _ _), HLl.out]
      have hBB := HBody.out
      obtain ⟨Q, hQ⟩ : ∃ Q, B ++ L.flatMap (fun x => be x 4) = Q := ⟨_, rfl⟩
      have hQl : Q.length = 25 := by rw [← hQ, List.length_append, HBl.out, hLf]
      rw [hQ] at own hBB
      have HBB := Lib.hid hBB
      clear hQ hBB hLf bL
      have hcN := block_all bN
      obtain ⟨a1, c1, rfl⟩ := own_shape own
      have hxb := H.out.ext xr
      have own : wr.ownsRow w.heap.size 5 1 (.slice a1 25 c1) 25 (Q.map bc) := own
      clear HBL HBN
      go_wp2_with (at_builtin; go_must (refine wp_app tyB rfl _ _ rfl w.heap.size _ 25 _ own (by rfl) _ n.bytes.length (n.bytes.map bc) hxb (by rfl) (bc_one _) (by omega) (by omega) xr.size ?_); intro v2 w2 own2 gr2)
      have x2 := own_base own gr2 xr (Nat.le_refl _)
      have own2 : w2.ownsRow w.heap.size 5 1 v2 (25 + n.bytes.length) ((Q ++ n.bytes).map bc) := by rw [List.map_append]; exact own2
      have hLq : (Q ++ n.bytes).length = 25 + n.bytes.length := by simp [hQl]
      have hBB := HBB.out
      generalize Q ++ n.bytes = D at *
      have HEncD := Lib.hid (show encN n = D ++ shaL D by rw [HEnc.out, hBB])
      clear own gr2 hcN hxb hQl hBB HBody HEnc HBB bN
      obtain ⟨a2, c2, rfl⟩ := own_shape own2
      refine (refSum _ _ D (IsB.of_owns own2) (by omega)).mono ?_
      rintro e w3 ⟨rfl, x3⟩
      have hSl := shaL_len D
      have own3 := ownsRow_ext own2 x3
      have X3 := x2.trans x3
      generalize shaL D = S at *
      have hfit : (Tryd.prog.info? 98).map (·.size) = some (S.map bc).toArray.size := by rw [List.size_toArray, List.length_map, hSl]; kernel_rfl
      have hone := id_oneE S
      have bz := heap_alloc_new w3 (.cells #[.int .u8 0, .int .u8 0, .int .u8 0, .int .u8 0, .int .u8 0, .int .u8 0, .int .u8 0, .int .u8 0, .int .u8 0, .int .u8 0, .int .u8 0, .int .u8 0, .int .u8 0, .int .u8 0, .int .u8 0, .int .u8 0, .int .u8 0, .int .u8 0, .int .u8 0, .int .u8 0, .int .u8 0, .int .u8 0, .int .u8 0, .int .u8 0, .int .u8 0, .int .u8 0, .int .u8 0, .int .u8 0, .int .u8 0, .int .u8 0, .int .u8 0, .int .u8 0] 98)
      have xz := (Ext.refl w3).alloc (.cells #[.int .u8 0, .int .u8 0, .int .u8 0, .int .u8 0, .int .u8 0, .int .u8 0, .int .u8 0, .int .u8 0, .int .u8 0, .int .u8 0, .int .u8 0, .int .u8 0, .int .u8 0, .int .u8 0, .int .u8 0, .int .u8 0, .int .u8 0, .int .u8 0, .int .u8 0, .int .u8 0, .int .u8 0, .int .u8 0, .int .u8 0, .int .u8 0, .int .u8 0, .int .u8 0, .int .u8 0, .int .u8 0, .int .u8 0, .int .u8 0, .int .u8 0, .int .u8 0] 98)
      have own4 := ownsRow_grown (ownsRow_ext own3 xz) (grown_setRow (w := w3.alloc (.cells #[.int .u8 0, .int .u8 0, .int .u8 0, .int .u8 0, .int .u8 0, .int .u8 0, .int .u8 0, .int .u8 0, .int .u8 0, .int .u8 0, .int .u8 0, .int .u8 0, .int .u8 0, .int .u8 0, .int .u8 0, .int .u8 0, .int .u8 0, .int .u8 0, .int .u8 0, .int .u8 0, .int .u8 0, .int .u8 0, .int .u8 0, .int .u8 0, .int .u8 0, .int .u8 0, .int .u8 0, .int .u8 0, .int .u8 0, .int .u8 0, .int .u8 0, .int .u8 0] 98)) (g := w3.heap.size) (c := (S.map bc).toArray)) (own_ne own3 (.inr (Nat.le_refl _)))
      have bz2 := setRow_heap _ _ _ (S.map bc).toArray _ _ bz
      have hs4 := sl_blk bz2 (S.map bc) (n := 32) (by simp [hSl]) (by simp) (by omega)
      have X4 := (X3.trans xz).grown (grown_setRow (g := w3.heap.size) (c := (S.map bc).toArray)) (fun k hk => by cases hk; exact X3.size)
      clear own2 own3 x2 x3 xz bz2
      go_wp2_with (first
        | ((with_reducible refine at_store 98 (.tmp 6) (.tmp 46) ?_); go_must (refine wpl_store rfl 98 (.tmp 6) (.tmp 46) rfl w3.heap.size (S.map bc).toArray (by rfl) (by rfl) 98 _ bz hfit (by simp [hSl]) hone ?_))
        | (at_builtin; go_must (refine wp_app tyB rfl _ _ rfl w.heap.size _ (25 + n.bytes.length) _ own4 (by rfl) _ 32 (S.map bc) hs4 (by rfl) (bc_one _) (by omega) (by omega) X4.size ?_); intro v5 w5 own5 gr5))
      go_ret
      refine ⟨v5, rfl, ?_, own_base own4 gr5 X4 (Nat.le_refl _)⟩
      unfold OwnB
      rw [HEncD.out, List.map_append, List.length_append, hLq, hSl]
      exact own5
end Go.Proofs.YtkcddcomjbihgaaDoor

namespace Go.Proofs.YtkcddcomjbihgaaDoor
open Go.RowKit
set_option linter.unusedVariables false
set_option linter.unusedSimpArgs false

/-- A note as the document reads it first. -/
def decQ (b : List UInt8) : Nt := ⟨(kF b : Int), nF b 1, (nF b 5, nF b 9), (nF b 13, nF b 17), (b.drop 25).take (nF b 21)⟩
theorem decQ_ok (b : List UInt8) : NtOk (decQ b) := ⟨(decN_ok b).kind, (decN_ok b).view, (decN_ok b).mark, (decN_ok b).prev⟩
theorem decQ_eq {b : List UInt8} (h57 : 57 ≤ b.length) (hc : b.length - 57 = nF b 21) : decQ b = decN b := by
  unfold decQ decN
  rw [List.drop_take, ← hc, show b.length - 32 - 25 = b.length - 57 from by omega]
/-- What the document's last test says. -/
theorem decQ_test {b : List UInt8} (h57 : 57 ≤ b.length) (hc : ¬ b.length - 57 < nF b 21) (hs : (shaL (b.take (b.length - 32)) == b.drop (b.length - 32)) = true) :
    (notedB (decQ b) && encN (decQ b) == b) = true ↔ decErr b = 0 := by
  rw [Bool.and_eq_true, beq_iff_eq]
  constructor
  · rintro ⟨h1, h2⟩
    have hl := encN_len (decQ b)
    have hq : (decQ b).bytes.length = nF b 21 := by
      show ((b.drop 25).take (nF b 21)).length = _
      rw [List.length_take, List.length_drop]
      omega
    rw [h2, hq] at hl
    have hc2 : b.length - 57 = nF b 21 := by omega
    rw [decQ_eq h57 hc2] at h1
    unfold decErr
    rw [if_neg (by omega), if_neg (by omega), if_neg (by rw [hs]; decide), if_neg]
    rintro (h | h)
    · exact h hc2
    · rw [h1] at h
      exact absurd h (by decide)
  · intro h
    have hn := noted_dec h
    have he := enc_dec0 h
    have hc2 : b.length - 57 = nF b 21 := by
      unfold decErr at h
      rw [if_neg (by omega), if_neg (by omega), if_neg (by rw [hs]; decide)] at h
      by_cases hq : b.length - 57 = nF b 21
      · exact hq
      · rw [if_pos (Or.inl hq)] at h
        omega
    rw [decQ_eq h57 hc2]
    exact ⟨hn, he⟩
theorem decQ_err {b : List UInt8} (h57 : 57 ≤ b.length) (hc : ¬ b.length - 57 < nF b 21) (hs : (shaL (b.take (b.length - 32)) == b.drop (b.length - 32)) = true) : decErr b = if (notedB (decQ b) && encN (decQ b) == b) = true then 0 else 363 := by
  split
  · rename_i h
    exact (decQ_test h57 hc hs).1 h
  · rename_i h
    have h0 : decErr b ≠ 0 := fun e => h ((decQ_test h57 hc hs).2 e)
    unfold decErr at h0 ⊢
    rw [if_neg (by omega), if_neg (by omega), if_neg (by rw [hs]; decide)] at h0 ⊢
    by_cases hq : b.length - 57 ≠ nF b 21 ∨ notedB (decN b) = false
    · rw [if_pos hq]
    · rw [if_neg hq] at h0
      exact absurd rfl h0
theorem decQ_len {b : List UInt8} (h : decErr b = 0) : decQ b = decN b := by
  have hh := h
  unfold decErr at h
  split at h
  · omega
  · split at h
    · omega
    · split at h
      · omega
      · rename_i h1 h2 h3
        split at h
        · omega
        · rename_i h4
          refine decQ_eq (by omega) ?_
          by_cases hq : b.length - 57 = nF b 21
          · exact hq
          · exact absurd (Or.inl hq) h4
structure OwnR (w : World) (base : Nat) (v : Value) (l : List UInt8) : Prop where
  own : OwnB w base v l
theorem OwnR.ext {w w' : World} {base : Nat} {v : Value} {l : List UInt8} (h : OwnR w base v l) (x : Ext w w') : OwnR w' base v l := ⟨ownsRow_ext h.own x⟩
/-- The numbers read so far. -/
def xsN (b : List UInt8) (k : Nat) : List Nat := (List.range 6).map fun i => if i < k then nF b (1 + 4 * i) else 0
theorem xsN_set (b : List UInt8) (k : Nat) (hk : k < 6) : ((xsN b k).map u4).toArray.setIfInBounds k (u4 (nF b (1 + 4 * k))) = ((xsN b (k + 1)).map u4).toArray := by
  have : k = 0 ∨ k = 1 ∨ k = 2 ∨ k = 3 ∨ k = 4 ∨ k = 5 := by omega
  rcases this with rfl | rfl | rfl | rfl | rfl | rfl <;> simp [xsN, List.range_succ]
theorem xsN_six (b : List UInt8) : xsN b 6 = [nF b 1, nF b 5, nF b 9, nF b 13, nF b 17, nF b 21] := by simp [xsN, List.range_succ]
/-- What the document's Decode gives. -/
def RDecPost (w : World) (b : List UInt8) (e : Ending) (w' : World) : Prop :=
  Ext w w' ∧ ((decErr b ≠ 0 ∧ e = .returned (.tuple #[.agg #[.int .i64 n0.kind, .int .u32 (n0.view : Int), .int .u32 (n0.mark.1 : Int), .int .u32 (n0.mark.2 : Int), .int .u32 (n0.prev.1 : Int), .int .u32 (n0.prev.2 : Int), (.slice none 0 0)], .int .i64 (decErr b)]))
    ∨ (decErr b = 0 ∧ ∃ vb, e = .returned (.tuple #[.agg #[.int .i64 (decN b).kind, .int .u32 ((decN b).view : Int), .int .u32 ((decN b).mark.1 : Int), .int .u32 ((decN b).mark.2 : Int), .int .u32 ((decN b).prev.1 : Int), .int .u32 ((decN b).prev.2 : Int), vb], .int .i64 0]) ∧ OwnB w' w.heap.size vb (decN b).bytes))
theorem rdec_err {w : World} {b : List UInt8} {z : Int} (h : decErr b = z) (hz : z ≠ 0) {w' : World} (x : Ext w w') : RDecPost w b (.returned (.tuple #[.agg #[.int .i64 n0.kind, .int .u32 (n0.view : Int), .int .u32 (n0.mark.1 : Int), .int .u32 (n0.mark.2 : Int), .int .u32 (n0.prev.1 : Int), .int .u32 (n0.prev.2 : Int), (.slice none 0 0)], .int .i64 z])) w' :=
  ⟨x, .inl ⟨by rw [h]; exact hz, by rw [h]⟩⟩
end Go.Proofs.YtkcddcomjbihgaaDoor
