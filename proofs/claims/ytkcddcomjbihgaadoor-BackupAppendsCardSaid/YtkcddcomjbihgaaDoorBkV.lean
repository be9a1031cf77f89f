/- Backup, plain: a note's bytes and the note of bytes lead back to one another. -/
import Derived.Test.YtkcddcomjbihgaaDoorBkS
import Derived.Lib.SmallJoins
namespace Go.Proofs.YtkcddcomjbihgaaDoor
open Go.RowKit
set_option linter.unusedVariables false
set_option linter.unusedSimpArgs false

theorem be4N (x : Nat) : be x 4 = [UInt8.ofNat (x / 16777216), UInt8.ofNat (x / 65536), UInt8.ofNat (x / 256), UInt8.ofNat x] := by simp [be, List.range_succ]
theorem num4N (a b c d : UInt8) : num [a, b, c, d] = ((a.toNat * 256 + b.toNat) * 256 + c.toNat) * 256 + d.toNat := by
  have := a.toNat_lt
  have := b.toNat_lt
  have := c.toNat_lt
  have := d.toNat_lt
  simp [num]
  omega
theorem num_be4N (x : Nat) (h : x < 4294967296) : num (be x 4) = x := by
  rw [be4N, num4N]
  simp only [UInt8.toNat_ofNat']
  omega
theorem u8_natN {c : UInt8} {x : Nat} (h : x % 256 = c.toNat) : UInt8.ofNat x = c := by
  apply UInt8.toNat_inj.1
  rw [UInt8.toNat_ofNat']
  exact h
theorem be_num4N (t : List UInt8) (h : t.length = 4) : be (num t) 4 = t := by
  match t, h with
  | [a, b, c, d], _ =>
    have := a.toNat_lt
    have := b.toNat_lt
    have := c.toNat_lt
    have := d.toNat_lt
    rw [num4N, be4N, u8_natN (c := a) (by omega), u8_natN (c := b) (by omega), u8_natN (c := c) (by omega), u8_natN (c := d) (by omega)]
theorem fldN (pre rest : List UInt8) (x i : Nat) (h : pre.length = i) (hx : x < 4294967296) : nF (pre ++ (be x 4 ++ rest)) i = x := by
  subst h
  unfold nF
  rw [List.drop_left, List.take_left' (be_length _ _), num_be4N x hx]
def knd (n : Nt) : UInt8 := UInt8.ofNat (n.kind % 256).toNat
theorem encN_eq (n : Nt) : encN n = [knd n] ++ (be n.view 4 ++ (be n.mark.1 4 ++ (be n.mark.2 4 ++ (be n.prev.1 4 ++ (be n.prev.2 4 ++ (be n.bytes.length 4 ++ (n.bytes ++ shaL (ntBody n)))))))) := by
  simp [encN, ntBody, knd]
theorem encN_len (n : Nt) : (encN n).length = 57 + n.bytes.length := by
  unfold encN
  rw [List.length_append, ntBody_len, shaL_len]
  omega
theorem noted_kind {n : Nt} (h : notedB n = true) : 1 ≤ n.kind ∧ n.kind ≤ 5 := by
  unfold notedB at h
  by_cases c1 : (n.kind == 1 || n.kind == 2 || n.kind == 5) = true
  · simp only [Bool.or_eq_true, beq_iff_eq] at c1
    omega
  · rw [if_neg c1] at h
    by_cases c2 : (n.kind == 4) = true
    · rw [beq_iff_eq] at c2
      omega
    · rw [if_neg c2] at h
      simp only [Bool.and_eq_true, beq_iff_eq] at h
      omega
theorem decN_enc {n : Nt} (ho : NtOk n) (hn : notedB n = true) : decN (encN n) = n := by
  have hk := noted_kind hn
  have hl := noted_len hn
  obtain ⟨_, hv, ⟨hm1, hm2⟩, ⟨hp1, hp2⟩⟩ := ho
  have e1 : nF (encN n) 1 = n.view := by rw [encN_eq]; exact fldN _ _ _ _ rfl hv
  have e5 : nF (encN n) 5 = n.mark.1 := by
    rw [show encN n = ([knd n] ++ be n.view 4) ++ (be n.mark.1 4 ++ _) from by rw [encN_eq]; simp only [List.append_assoc]; rfl]
    exact fldN _ _ _ _ (by simp [be_length]) hm1
  have e9 : nF (encN n) 9 = n.mark.2 := by
    rw [show encN n = ([knd n] ++ be n.view 4 ++ be n.mark.1 4) ++ (be n.mark.2 4 ++ _) from by rw [encN_eq]; simp only [List.append_assoc]; rfl]
    exact fldN _ _ _ _ (by simp [be_length]) hm2
  have e13 : nF (encN n) 13 = n.prev.1 := by
    rw [show encN n = ([knd n] ++ be n.view 4 ++ be n.mark.1 4 ++ be n.mark.2 4) ++ (be n.prev.1 4 ++ _) from by rw [encN_eq]; simp only [List.append_assoc]; rfl]
    exact fldN _ _ _ _ (by simp [be_length]) hp1
  have e17 : nF (encN n) 17 = n.prev.2 := by
    rw [show encN n = ([knd n] ++ be n.view 4 ++ be n.mark.1 4 ++ be n.mark.2 4 ++ be n.prev.1 4) ++ (be n.prev.2 4 ++ _) from by rw [encN_eq]; simp only [List.append_assoc]; rfl]
    exact fldN _ _ _ _ (by simp [be_length]) hp2
  have e0 : (kF (encN n) : Int) = n.kind := by
    unfold kF
    rw [encN_eq]
    simp only [List.drop_zero, List.cons_append, List.nil_append, List.take_succ_cons, List.take_zero]
    have : num [knd n] = (knd n).toNat := by
      have := (knd n).toNat_lt
      simp [num]
    rw [this]
    unfold knd
    rw [UInt8.toNat_ofNat']
    omega
  have eb : ((encN n).take ((encN n).length - 32)).drop 25 = n.bytes := by
    have h1 : (encN n).take ((encN n).length - 32) = ntBody n := by
      have := ntBody_len n
      rw [encN_len]
      unfold encN
      exact List.take_left' (by omega)
    rw [h1]
    unfold ntBody
    exact List.drop_left' (by simp [be_length])
  unfold decN
  rw [e0, e1, e5, e9, e13, e17, eb]
theorem decErr_enc {n : Nt} (ho : NtOk n) (hn : notedB n = true) : decErr (encN n) = 0 := by
  have hl := noted_len hn
  have h1 : (encN n).take ((encN n).length - 32) = ntBody n := by
    have := ntBody_len n
    rw [encN_len]
    unfold encN
    exact List.take_left' (by omega)
  have h2 : (encN n).drop ((encN n).length - 32) = shaL (ntBody n) := by
    have := ntBody_len n
    rw [encN_len]
    unfold encN
    exact List.drop_left' (by omega)
  have e21 : nF (encN n) 21 = n.bytes.length := by
    rw [show encN n = ([knd n] ++ be n.view 4 ++ be n.mark.1 4 ++ be n.mark.2 4 ++ be n.prev.1 4 ++ be n.prev.2 4) ++ (be n.bytes.length 4 ++ _) from by rw [encN_eq]; simp only [List.append_assoc]; rfl]
    exact fldN _ _ _ _ (by simp [be_length]) (by omega)
  unfold decErr
  rw [h1, h2, e21, encN_len, decN_enc ho hn, if_neg (by omega), if_neg (by omega), if_neg (by simp), if_neg]
  rintro (h | h)
  · omega
  · rw [hn] at h
    exact absurd h (by decide)
theorem short_take {b : List UInt8} {i j : Nat} : b.take (i + j) = b.take i ++ (b.drop i).take j := List.take_add
theorem enc_decN {b : List UInt8} (h57 : 57 ≤ b.length) (hc : b.length - 57 = nF b 21) (hs : (shaL (b.take (b.length - 32)) == b.drop (b.length - 32)) = true) : encN (decN b) = b := by
  have hs : shaL (b.take (b.length - 32)) = b.drop (b.length - 32) := by simpa using hs
  have f : ∀ i, i + 4 ≤ b.length → be (nF b i) 4 = (b.drop i).take 4 := fun i hi => be_num4N _ (by simp; omega)
  have f0 : [UInt8.ofNat ((decN b).kind % 256).toNat] = b.take 1 := by
    match b, h57 with
    | c :: l, _ =>
      have hn : num [c] = c.toNat := by
        have := c.toNat_lt
        simp [num]
      have : (decN (c :: l)).kind = (c.toNat : Int) := by
        show ((kF (c :: l) : Nat) : Int) = _
        unfold kF
        rw [List.drop_zero, List.take_succ_cons, List.take_zero, hn]
      rw [this, List.take_succ_cons, List.take_zero]
      congr 1
      apply u8_natN
      have := c.toNat_lt
      omega
  have hb : (decN b).bytes = (b.take (b.length - 32)).drop 25 := rfl
  have hbl : (decN b).bytes.length = nF b 21 := by rw [hb]; simp; omega
  have hbody : ntBody (decN b) = b.take (b.length - 32) := by
    unfold ntBody
    rw [f0, hbl, hb]
    show b.take 1 ++ [nF b 1, nF b 5, nF b 9, nF b 13, nF b 17, nF b 21].flatMap (fun x => be x 4) ++ _ = _
    simp only [List.flatMap_cons, List.flatMap_nil, List.append_nil]
    rw [f 1 (by omega), f 5 (by omega), f 9 (by omega), f 13 (by omega), f 17 (by omega), f 21 (by omega)]
    have h25 : b.take 25 = b.take 1 ++ ((b.drop 1).take 4 ++ ((b.drop 5).take 4 ++ ((b.drop 9).take 4 ++ ((b.drop 13).take 4 ++ ((b.drop 17).take 4 ++ (b.drop 21).take 4))))) := by
      rw [show b.take 25 = b.take 21 ++ (b.drop 21).take 4 from short_take (i := 21) (j := 4), show b.take 21 = b.take 17 ++ (b.drop 17).take 4 from short_take (i := 17) (j := 4), show b.take 17 = b.take 13 ++ (b.drop 13).take 4 from short_take (i := 13) (j := 4), show b.take 13 = b.take 9 ++ (b.drop 9).take 4 from short_take (i := 9) (j := 4), show b.take 9 = b.take 5 ++ (b.drop 5).take 4 from short_take (i := 5) (j := 4), show b.take 5 = b.take 1 ++ (b.drop 1).take 4 from short_take (i := 1) (j := 4)]
      simp only [List.append_assoc]
    rw [← h25]
    conv => rhs; rw [← List.take_append_drop 25 (b.take (b.length - 32))]
    rw [List.take_take, Nat.min_eq_left (by omega)]
  unfold encN
  rw [hbody, hs, List.take_append_drop]
theorem enc_dec0 {b : List UInt8} (h : decErr b = 0) : encN (decN b) = b := by
  unfold decErr at h
  split at h
  · omega
  · split at h
    · omega
    · split at h
      · omega
      · rename_i h1 h2 h3
        split at h
        · omega
        · rename_i h4
          have h5 : (shaL (b.take (b.length - 32)) == b.drop (b.length - 32)) = true := by
            cases hq : (shaL (b.take (b.length - 32)) == b.drop (b.length - 32)) with
            | true => rfl
            | false => exact absurd hq h3
          refine enc_decN (by omega) ?_ h5
          by_cases hq : b.length - 57 = nF b 21
          · exact hq
          · exact absurd (Or.inl hq) h4
end Go.Proofs.YtkcddcomjbihgaaDoor

namespace Go.Proofs.YtkcddcomjbihgaaDoor
open Go.RowKit
set_option linter.unusedVariables false
set_option linter.unusedSimpArgs false

def vK : Vw := ⟨1, 1, 2⟩
def pA1 : Pr := ⟨1, ⟨1, 1, 2⟩, (1, 0), [], false, false, false, 0⟩
def pB1 : Pr := ⟨2, ⟨1, 1, 2⟩, (0, 0), [], false, false, false, 0⟩
def pA2 : Pr := ⟨1, ⟨1, 1, 2⟩, (1, 0), [⟨(1, 1), [97]⟩], false, false, false, 0⟩
def pB2 : Pr := ⟨2, ⟨1, 1, 2⟩, (1, 1), [], false, true, true, 0⟩
def nH : Nt := ⟨1, 1, (0, 0), (0, 0), []⟩
def nW : Nt := ⟨4, 1, (1, 1), (0, 0), [87]⟩
theorem wkEntA : enterP (newP 1) vK = pA1 ∧ entErr (newP 1) vK = 0 := ⟨by kernel_rfl, by kernel_rfl⟩
theorem wkEntB : enterP (newP 2) vK = pB1 ∧ entErr (newP 2) vK = 0 := ⟨by kernel_rfl, by kernel_rfl⟩
theorem wkApp : keptP pA1 ⟨nextM pA1, [97]⟩ = pA2 ∧ appErr pA1 [97] = 0 ∧ nextM pA1 = (1, 1) := ⟨by kernel_rfl, by kernel_rfl, by kernel_rfl⟩
theorem wkTick : tickL pB1 [] = [⟨1, encN nH⟩] ∧ tickErr pB1 = 0 := ⟨by kernel_rfl, by kernel_rfl⟩
theorem nHok : NtOk nH := ⟨⟨by decide, by decide⟩, by decide, ⟨by decide, by decide⟩, ⟨by decide, by decide⟩⟩
theorem nWok : NtOk nW := ⟨⟨by decide, by decide⟩, by decide, ⟨by decide, by decide⟩, ⟨by decide, by decide⟩⟩
theorem nHn : notedB nH = true := by kernel_rfl
theorem nWn : notedB nW = true := by kernel_rfl
theorem wkT1 : takeErr pA2 2 (encN nH) = 0 ∧ takeP pA2 2 (decN (encN nH)) = pA2 ∧ takeL pA2 2 (decN (encN nH)) [87] = [⟨2, encN nW⟩] := by
  rw [decN_enc nHok nHn]
  refine ⟨?_, by kernel_rfl, by kernel_rfl⟩
  unfold takeErr
  rw [if_neg (show ¬ rightB pA2 = false by decide), if_neg (by decide), decErr_enc nHok nHn]
theorem wkT2 : takeErr pB1 1 (encN nW) = 0 ∧ takeP pB1 1 (decN (encN nW)) = pB2 ∧ takeW pB1 1 (decN (encN nW)) = [⟨true, [87]⟩] := by
  rw [decN_enc nWok nWn]
  refine ⟨?_, by kernel_rfl, by kernel_rfl⟩
  unfold takeErr
  rw [if_neg (show ¬ rightB pB1 = false by decide), if_neg (by decide), decErr_enc nWok nWn]
theorem wkReady : readyB pB2 = true := by kernel_rfl
theorem okA0 : PrOk (newP 1) := ⟨⟨by decide, by decide⟩, by decide, ⟨by decide, by decide⟩, ⟨by decide, by decide⟩, ⟨by decide, by decide⟩, by decide⟩
theorem okB0 : PrOk (newP 2) := ⟨⟨by decide, by decide⟩, by decide, ⟨by decide, by decide⟩, ⟨by decide, by decide⟩, ⟨by decide, by decide⟩, by decide⟩
theorem okA1 : PrOk pA1 := ⟨⟨by decide, by decide⟩, by decide, ⟨by decide, by decide⟩, ⟨by decide, by decide⟩, ⟨by decide, by decide⟩, by decide⟩
theorem okB1 : PrOk pB1 := ⟨⟨by decide, by decide⟩, by decide, ⟨by decide, by decide⟩, ⟨by decide, by decide⟩, ⟨by decide, by decide⟩, by decide⟩
theorem okA2 : PrOk pA2 := ⟨⟨by decide, by decide⟩, by decide, ⟨by decide, by decide⟩, ⟨by decide, by decide⟩, ⟨by decide, by decide⟩, by decide⟩
theorem okB2 : PrOk pB2 := ⟨⟨by decide, by decide⟩, by decide, ⟨by decide, by decide⟩, ⟨by decide, by decide⟩, ⟨by decide, by decide⟩, by decide⟩
theorem ext_new (w : World) (o : Obj) (c : Array Value) : Ext w ((w.alloc o).setRow w.heap.size c) := ((Ext.refl w).alloc o).grown grown_setRow (fun k hk => by cases hk; exact Nat.le_refl _)
theorem new_row (w : World) (c0 c : Array Value) (t : TypeId) : ((w.alloc (.cells c0 t)).setRow w.heap.size c).heap[w.heap.size]? = some (.cells c t (0, 0)) := setRow_heap _ _ _ _ _ _ (heap_alloc_new w _)
theorem lgNilU (w : World) (l : List LgE) (h : l = []) : IsLgU w (.slice none 0 0) l [] := by subst h; exact ⟨rfl, IsSl.nil w 3, fun i hi => absurd hi (Nat.not_lt_zero _)⟩
theorem lgNilF (w : World) (base : Nat) (l : List LgE) (h : l = []) : LgFr w base (.slice none 0 0) l [] := by subst h; exact LgFr.nil w base
def okLg (l : List LgE) : Prop := ∀ e ∈ l, lgOk e
theorem okLA2 : ∀ e ∈ pA2.log, lgOk e := by
  intro e he
  obtain rfl : e = ⟨(1, 1), [97]⟩ := by simpa [pA2] using he
  exact ⟨⟨by decide, by decide⟩, by decide⟩
theorem new_ok (i : Int) (h : serverB i = true) : serverB i = true := h
theorem IsB.newF {w : World} {e : TypeId} {c : Array Value} {n b : Nat} {f : Nat × Nat} (l : List UInt8) (hb : w.heap.size = b) (hn : l.length = n) (hc : c.toList = l.map bc) (hm : n ≤ 9223372036854775807) : IsB (w.alloc (.cells c e f)) (.slice (some ⟨b, 0, none⟩) n n) l := by
  subst hn
  subst hb
  refine ⟨by simp, _, _, rfl, Nat.le_refl _, hm, (fun h => by cases h), fun i hi => ⟨_, 0, rfl, ?_⟩⟩
  rw [Nat.zero_add, block_cell (heap_alloc_new w (.cells c e f)), ← hc, Array.getElem?_toList]
/-- One letter's cells. -/
theorem lt_cells {w : World} {base : Nat} {v : Value} {e : LtE} {us : List Hd} (h : LtOwn w base v [e] us) : ∃ g u cap, us = [u] ∧ v = .slice (some ⟨g, 0, none⟩) 1 cap ∧ w.cell? ⟨g, 0, none⟩ = some (.int .i64 e.who) ∧ w.cell? ⟨g, 1, none⟩ = some (.slice u.1 e.b.length u.2) ∧ OwnB w base (.slice u.1 e.b.length u.2) e.b := by
  obtain ⟨hl, ho, hb⟩ := h
  match us, hl with
  | [u], _ =>
    obtain ⟨g, cap, rfl, -⟩ := own_row ho (by simp)
    refine ⟨g, u, cap, rfl, rfl, ?_, ?_, hb 0 (by simp) u rfl⟩
    · exact ho.cellAt 0 (by simp [ltCs, ltV])
    · exact ho.cellAt 1 (by simp [ltCs, ltV])
theorem wk_cells {w : World} {base : Nat} {v : Value} {e : WkE} {us : List Hd} (h : WkOwn w base v [e] us) : ∃ g u cap, us = [u] ∧ v = .slice (some ⟨g, 0, none⟩) 1 cap ∧ w.cell? ⟨g, 0, none⟩ = some (.bool e.whole) ∧ w.cell? ⟨g, 1, none⟩ = some (.slice u.1 e.b.length u.2) ∧ OwnB w base (.slice u.1 e.b.length u.2) e.b := by
  obtain ⟨hl, ho, hb⟩ := h
  match us, hl with
  | [u], _ =>
    obtain ⟨g, cap, rfl, -⟩ := own_row ho (by simp)
    refine ⟨g, u, cap, rfl, rfl, ?_, ?_, hb 0 (by simp) u rfl⟩
    · exact ho.cellAt 0 (by simp [wkCs, wkV])
    · exact ho.cellAt 1 (by simp [wkCs, wkV])
end Go.Proofs.YtkcddcomjbihgaaDoor

namespace Go.Proofs.YtkcddcomjbihgaaDoor
open Go.RowKit
set_option linter.unusedVariables false
set_option linter.unusedSimpArgs false

set_option maxHeartbeats 2000000 in
set_option maxRecDepth 100000 in
theorem lawWakes (w : World) (hK : Tabs w) :
    Calls Tryd.prog 9 #[] w fun e w' => e = .returned (.bool true) ∧ Ext w w' := by
  go_enter Tryd.func9, Tryd.ntmps9
  have HX := Lib.hid (Ext.refl w)
  have HK := Lib.hid hK
  clear hK
  go_upto_region 2 with (((with_reducible refine at_store 44 (.tmp 1) (.tmp 11) ?_); go_must (refine wpl_store rfl 44 (.tmp 1) (.tmp 11) rfl w.heap.size #[.int .u32 (vK.n : Int), .int .i64 vK.p, .int .i64 vK.b] (by rfl) (by rfl) 44 _ (heap_alloc_new w _) (by kernel_rfl) rfl (by kernel_rfl) ?_)))
  have hsV := HX.out.size
  refine wp_forget (fun W => Ext w W ∧ W.heap[w.heap.size]? = some (.cells #[.int .u32 (vK.n : Int), .int .i64 vK.p, .int .i64 vK.b] 44 (0, 0))) ⟨ext_new _ _ _, new_row _ _ _ _⟩ ?_
  rintro W1 ⟨y, bV⟩
  obtain ⟨BV, hB⟩ : ∃ x, x = w.heap.size := ⟨_, rfl⟩
  rw [← hB] at bV hsV
  rw [← hB]
  clear hB
  have HX := Lib.hid (HX.out.trans y)
  clear y
  go_wp2_with fail
  refine (bkNewT _ 1 (by decide)).mono ?_
  rintro e wA ⟨rfl, y⟩
  have bV := y.keeps bV
  have HX := Lib.hid (HX.out.trans y)
  clear y
  go_upto_region 3 with (((with_reducible refine at_store 47 (.tmp 2) (.tmp 14) ?_); go_must (refine wpl_store rfl 47 (.tmp 2) (.tmp 14) rfl wA.heap.size #[.int .i64 (newP 1).me, .int .u32 ((newP 1).v.n : Int), .int .i64 (newP 1).v.p, .int .i64 (newP 1).v.b, .int .u32 ((newP 1).base.1 : Int), .int .u32 ((newP 1).base.2 : Int), (.slice none 0 0), .bool (newP 1).known, .bool (newP 1).joined, .bool (newP 1).instep, .int .u32 ((newP 1).acked : Int)] (by rfl) (by rfl) 47 _ (heap_alloc_new wA _) (by kernel_rfl) rfl (pr_one _ _ _ _) ?_)))
  have l_V_A := block_lt bV
  have hsA := HX.out.size
  refine wp_forget (fun W => Ext wA W ∧ W.heap[wA.heap.size]? = some (.cells #[.int .i64 (newP 1).me, .int .u32 ((newP 1).v.n : Int), .int .i64 (newP 1).v.p, .int .i64 (newP 1).v.b, .int .u32 ((newP 1).base.1 : Int), .int .u32 ((newP 1).base.2 : Int), (.slice none 0 0), .bool (newP 1).known, .bool (newP 1).joined, .bool (newP 1).instep, .int .u32 ((newP 1).acked : Int)] 47 (0, 0))) ⟨ext_new _ _ _, new_row _ _ _ _⟩ ?_
  rintro W2 ⟨y, bA⟩
  obtain ⟨BA, hB⟩ : ∃ x, x = wA.heap.size := ⟨_, rfl⟩
  rw [← hB] at bA hsA l_V_A
  rw [← hB]
  clear hB
  have bV := y.keeps bV
  have HX := Lib.hid (HX.out.trans y)
  clear y
  go_wp2_with fail
  refine (bkNewT _ 2 (by decide)).mono ?_
  rintro e wB ⟨rfl, y⟩
  have bV := y.keeps bV
  have bA := y.keeps bA
  have HX := Lib.hid (HX.out.trans y)
  clear y
  go_upto_region 4 with (((with_reducible refine at_store 47 (.tmp 4) (.tmp 18) ?_); go_must (refine wpl_store rfl 47 (.tmp 4) (.tmp 18) rfl wB.heap.size #[.int .i64 (newP 2).me, .int .u32 ((newP 2).v.n : Int), .int .i64 (newP 2).v.p, .int .i64 (newP 2).v.b, .int .u32 ((newP 2).base.1 : Int), .int .u32 ((newP 2).base.2 : Int), (.slice none 0 0), .bool (newP 2).known, .bool (newP 2).joined, .bool (newP 2).instep, .int .u32 ((newP 2).acked : Int)] (by rfl) (by rfl) 47 _ (heap_alloc_new wB _) (by kernel_rfl) rfl (pr_one _ _ _ _) ?_)))
  have l_V_B := block_lt bV
  have l_A_B := block_lt bA
  have hsB := HX.out.size
  refine wp_forget (fun W => Ext wB W ∧ W.heap[wB.heap.size]? = some (.cells #[.int .i64 (newP 2).me, .int .u32 ((newP 2).v.n : Int), .int .i64 (newP 2).v.p, .int .i64 (newP 2).v.b, .int .u32 ((newP 2).base.1 : Int), .int .u32 ((newP 2).base.2 : Int), (.slice none 0 0), .bool (newP 2).known, .bool (newP 2).joined, .bool (newP 2).instep, .int .u32 ((newP 2).acked : Int)] 47 (0, 0))) ⟨ext_new _ _ _, new_row _ _ _ _⟩ ?_
  rintro W3 ⟨y, bB⟩
  obtain ⟨BB, hB⟩ : ∃ x, x = wB.heap.size := ⟨_, rfl⟩
  rw [← hB] at bB hsB l_V_B l_A_B
  rw [← hB]
  clear hB
  have bV := y.keeps bV
  have bA := y.keeps bA
  have HX := Lib.hid (HX.out.trans y)
  clear y
  go_upto_region 6 with fail
  have cV := block_all bV
  have cA := block_all bA
  have hzA := HX.out.size
  go_wp2_with fail
  refine (bkEnter _ _ (newP 1) [] vK (fun e he => by simp [newP] at he) (lgNilU _ _ rfl) okA0 (by decide)).mono ?_
  rintro e wEA ⟨y, hpost⟩
  have bV := y.keeps bV
  have bA := y.keeps bA
  have bB := y.keeps bB
  have HX := Lib.hid (HX.out.trans y)
  clear y
  rcases hpost with ⟨hz, rfl⟩ | ⟨hz, vl, ul, rfl, ilA⟩
  · exact absurd wkEntA.2 hz
  obtain rfl : ul = [] := List.eq_nil_of_length_eq_zero ilA.len
  obtain ⟨aA, kA, rfl⟩ := ilA.shape
  have ilA := ilA.base hzA
  rw [wkEntA.1]
  clear hz
  clear cV cA
  go_upto_region 7 with (((with_reducible refine at_store 47 (.tmp 2) (.tmp 30) ?_); go_must (refine wpl_store rfl 47 (.tmp 2) (.tmp 30) rfl BA #[.int .i64 pA1.me, .int .u32 (pA1.v.n : Int), .int .i64 pA1.v.p, .int .i64 pA1.v.b, .int .u32 (pA1.base.1 : Int), .int .u32 (pA1.base.2 : Int), (.slice aA (newP 1).log.length kA), .bool pA1.known, .bool pA1.joined, .bool pA1.instep, .int .u32 (pA1.acked : Int)] (by rfl) (by rfl) 47 _ bA (by kernel_rfl) rfl (pr_one _ _ _ _) ?_)))
  have gr := grown_setRow (w := wEA) (g := BA) (c := #[.int .i64 pA1.me, .int .u32 (pA1.v.n : Int), .int .i64 pA1.v.p, .int .i64 pA1.v.b, .int .u32 (pA1.base.1 : Int), .int .u32 (pA1.base.2 : Int), (.slice aA (newP 1).log.length kA), .bool pA1.known, .bool pA1.joined, .bool pA1.instep, .int .u32 (pA1.acked : Int)])
  have bnew := setRow_heap _ BA _ #[.int .i64 pA1.me, .int .u32 (pA1.v.n : Int), .int .i64 pA1.v.p, .int .i64 pA1.v.b, .int .u32 (pA1.base.1 : Int), .int .u32 (pA1.base.2 : Int), (.slice aA (newP 1).log.length kA), .bool pA1.known, .bool pA1.joined, .bool pA1.instep, .int .u32 (pA1.acked : Int)] _ _ bA
  have bV := grown_other gr bV (by omega)
  have bB := grown_other gr bB (by omega)
  have ilA := ilA.grown gr bA (by decide) (by decide)
  have HX := Lib.hid (HX.out.grown gr (fun k hk => by cases hk; omega))
  clear gr bA
  generalize wEA.setRow BA #[.int .i64 pA1.me, .int .u32 (pA1.v.n : Int), .int .i64 pA1.v.p, .int .i64 pA1.v.b, .int .u32 (pA1.base.1 : Int), .int .u32 (pA1.base.2 : Int), (.slice aA (newP 1).log.length kA), .bool pA1.known, .bool pA1.joined, .bool pA1.instep, .int .u32 (pA1.acked : Int)] = W4 at *
  have bA := bnew
  clear bnew
  have cV := block_all bV
  have cB := block_all bB
  have hzB := HX.out.size
  go_wp2_with fail
  refine (bkEnter _ _ (newP 2) [] vK (fun e he => by simp [newP] at he) (lgNilU _ _ rfl) okB0 (by decide)).mono ?_
  rintro e wEB ⟨y, hpost⟩
  have bV := y.keeps bV
  have bA := y.keeps bA
  have bB := y.keeps bB
  have ilA := ilA.ext y
  have HX := Lib.hid (HX.out.trans y)
  clear y
  rcases hpost with ⟨hz, rfl⟩ | ⟨hz, vl, ul, rfl, ilB⟩
  · exact absurd wkEntB.2 hz
  obtain rfl : ul = [] := List.eq_nil_of_length_eq_zero ilB.len
  obtain ⟨aB, kB, rfl⟩ := ilB.shape
  have ilB := ilB.base hzB
  rw [wkEntB.1]
  clear hz
  clear cV cB
  go_upto_region 8 with (((with_reducible refine at_store 47 (.tmp 4) (.tmp 36) ?_); go_must (refine wpl_store rfl 47 (.tmp 4) (.tmp 36) rfl BB #[.int .i64 pB1.me, .int .u32 (pB1.v.n : Int), .int .i64 pB1.v.p, .int .i64 pB1.v.b, .int .u32 (pB1.base.1 : Int), .int .u32 (pB1.base.2 : Int), (.slice aB (newP 2).log.length kB), .bool pB1.known, .bool pB1.joined, .bool pB1.instep, .int .u32 (pB1.acked : Int)] (by rfl) (by rfl) 47 _ bB (by kernel_rfl) rfl (pr_one _ _ _ _) ?_)))
  have gr := grown_setRow (w := wEB) (g := BB) (c := #[.int .i64 pB1.me, .int .u32 (pB1.v.n : Int), .int .i64 pB1.v.p, .int .i64 pB1.v.b, .int .u32 (pB1.base.1 : Int), .int .u32 (pB1.base.2 : Int), (.slice aB (newP 2).log.length kB), .bool pB1.known, .bool pB1.joined, .bool pB1.instep, .int .u32 (pB1.acked : Int)])
  have bnew := setRow_heap _ BB _ #[.int .i64 pB1.me, .int .u32 (pB1.v.n : Int), .int .i64 pB1.v.p, .int .i64 pB1.v.b, .int .u32 (pB1.base.1 : Int), .int .u32 (pB1.base.2 : Int), (.slice aB (newP 2).log.length kB), .bool pB1.known, .bool pB1.joined, .bool pB1.instep, .int .u32 (pB1.acked : Int)] _ _ bB
  have bV := grown_other gr bV (by omega)
  have bA := grown_other gr bA (by omega)
  have ilA := ilA.grown gr bB (by decide) (by decide)
  have ilB := ilB.grown gr bB (by decide) (by decide)
  have HX := Lib.hid (HX.out.grown gr (fun k hk => by cases hk; omega))
  clear gr bB
  generalize wEB.setRow BB #[.int .i64 pB1.me, .int .u32 (pB1.v.n : Int), .int .i64 pB1.v.p, .int .i64 pB1.v.b, .int .u32 (pB1.base.1 : Int), .int .u32 (pB1.base.2 : Int), (.slice aB (newP 2).log.length kB), .bool pB1.known, .bool pB1.joined, .bool pB1.instep, .int .u32 (pB1.acked : Int)] = W5 at *
  have bB := bnew
  clear bnew
  go_upto_region 10 with fail
  have cA := block_all bA
  have hcv := Lib.run_convert_bytes_const (P := Tryd.prog) W5 28 5 #[.int .u8 97] 1 1 Tryd.underlying28 Tryd.underlying5
  go_wp2_with fail
  have xq := (Ext.refl W5).alloc (.cells #[.int .u8 97] 5 (1, 2))
  have hzP := (HX.out.trans xq).size
  refine (bkAppend _ _ _ pA1 [] [97] (fun e he => by simp [pA1] at he) (ilA.ext xq).u okA1 (IsB.newF [97] rfl rfl rfl (by decide)) (HK.out.ext (HX.out.trans xq))).mono ?_
  rintro e wP ⟨y, hpost⟩
  have y := xq.trans y
  clear hcv xq cA ilA
  have bV := y.keeps bV
  have bA := y.keeps bA
  have bB := y.keeps bB
  have ilB := ilB.ext y
  have HX := Lib.hid (HX.out.trans y)
  clear y
  rcases hpost with ⟨hz, rfl⟩ | ⟨hz, vl, ulA, vo, uo, rfl, ilA, lo⟩
  · exact absurd wkApp.2.1 hz
  rw [wkApp.1] at ilA
  obtain ⟨aA, kA, rfl⟩ := ilA.shape
  have ilA := ilA.base hzP
  rw [wkApp.1, wkApp.2.2]
  clear hz lo
  go_upto_region 11 with (first | ((with_reducible refine at_store 47 (.tmp 2) (.tmp 49) ?_); go_must (refine wpl_store rfl 47 (.tmp 2) (.tmp 49) rfl BA #[.int .i64 pA2.me, .int .u32 (pA2.v.n : Int), .int .i64 pA2.v.p, .int .i64 pA2.v.b, .int .u32 (pA2.base.1 : Int), .int .u32 (pA2.base.2 : Int), (.slice aA pA2.log.length kA), .bool pA2.known, .bool pA2.joined, .bool pA2.instep, .int .u32 (pA2.acked : Int)] (by rfl) (by rfl) 47 _ (blk_old bA) (by kernel_rfl) rfl (pr_one _ _ _ _) ?_)) | ((with_reducible refine at_store 27 (.tmp 7) (.tmp 51) ?_); go_must (refine wpl_store rfl 27 (.tmp 7) (.tmp 51) rfl wP.heap.size #[.int .u32 1, .int .u32 1] (by rfl) (by rfl) 27 _ (grown_other grown_setRow (heap_alloc_new wP _) (by have := block_lt bA; omega)) (by kernel_rfl) rfl (by kernel_rfl) ?_)))
  have l_V_M := block_lt bV
  have l_A_M := block_lt bA
  have l_B_M := block_lt bB
  have hsM := HX.out.size
  have y := (Ext.refl wP).alloc (.cells #[.int .u32 0, .int .u32 0] 27)
  have bM := heap_alloc_new wP (.cells #[.int .u32 0, .int .u32 0] 27)
  have bV := y.keeps bV
  have bA := y.keeps bA
  have bB := y.keeps bB
  have ilB := ilB.ext y
  have ilA := ilA.ext y
  have HX := Lib.hid (HX.out.trans y)
  clear y
  generalize wP.alloc (.cells #[.int .u32 0, .int .u32 0] 27) = W6 at *
  obtain ⟨BM, hB⟩ : ∃ x, x = wP.heap.size := ⟨_, rfl⟩
  rw [← hB] at bM hsM l_V_M l_A_M l_B_M
  rw [← hB]
  clear hB
  have gr := grown_setRow (w := W6) (g := BA) (c := #[.int .i64 pA2.me, .int .u32 (pA2.v.n : Int), .int .i64 pA2.v.p, .int .i64 pA2.v.b, .int .u32 (pA2.base.1 : Int), .int .u32 (pA2.base.2 : Int), (.slice aA pA2.log.length kA), .bool pA2.known, .bool pA2.joined, .bool pA2.instep, .int .u32 (pA2.acked : Int)])
  have bnew := setRow_heap _ BA _ #[.int .i64 pA2.me, .int .u32 (pA2.v.n : Int), .int .i64 pA2.v.p, .int .i64 pA2.v.b, .int .u32 (pA2.base.1 : Int), .int .u32 (pA2.base.2 : Int), (.slice aA pA2.log.length kA), .bool pA2.known, .bool pA2.joined, .bool pA2.instep, .int .u32 (pA2.acked : Int)] _ _ bA
  have bV := grown_other gr bV (by omega)
  have bB := grown_other gr bB (by omega)
  have bM := grown_other gr bM (by omega)
  have ilB := ilB.grown gr bA (by decide) (by decide)
  have ilA := ilA.grown gr bA (by decide) (by decide)
  have HX := Lib.hid (HX.out.grown gr (fun k hk => by cases hk; omega))
  clear gr bA
  generalize W6.setRow BA #[.int .i64 pA2.me, .int .u32 (pA2.v.n : Int), .int .i64 pA2.v.p, .int .i64 pA2.v.b, .int .u32 (pA2.base.1 : Int), .int .u32 (pA2.base.2 : Int), (.slice aA pA2.log.length kA), .bool pA2.known, .bool pA2.joined, .bool pA2.instep, .int .u32 (pA2.acked : Int)] = W7 at *
  have bA := bnew
  clear bnew
  have gr := grown_setRow (w := W7) (g := BM) (c := #[.int .u32 1, .int .u32 1])
  have bnew := setRow_heap _ BM _ #[.int .u32 1, .int .u32 1] _ _ bM
  have bV := grown_other gr bV (by omega)
  have bA := grown_other gr bA (by omega)
  have bB := grown_other gr bB (by omega)
  have ilB := ilB.grown gr bM (by decide) (by decide)
  have ilA := ilA.grown gr bM (by decide) (by decide)
  have HX := Lib.hid (HX.out.grown gr (fun k hk => by cases hk; omega))
  clear gr bM
  generalize W7.setRow BM #[.int .u32 1, .int .u32 1] = W8 at *
  have bM := bnew
  clear bnew
  have cB := block_all bB
  have hzT := HX.out.size
  go_wp2_with fail
  refine (bkTick _ _ pB1 [] (fun e he => by simp [pB1] at he) (fun e he => by simp [pB1] at he) ilB.u okB1 (HK.out.ext HX.out)).mono ?_
  rintro e wT ⟨vT, uT, rfl, loT, y⟩
  clear cB
  have bV := y.keeps bV
  have bA := y.keeps bA
  have bB := y.keeps bB
  have bM := y.keeps bM
  have ilB := ilB.ext y
  have ilA := ilA.ext y
  have HX := Lib.hid (HX.out.trans y)
  clear y
  rw [wkTick.1] at loT
  rw [wkTick.2]
  have loT := loT.base hzT
  obtain ⟨gT, uT, kT, rfl, rfl, hT0, hT1, oT⟩ := lt_cells loT
  have cM := block_all bM
  have hmn : ∀ w : World, (binOp .neq 27 (.agg #[.int .u32 1, .int .u32 1]) (.agg #[.int .u32 1, .int .u32 1])).run Tryd.prog w = .ok (.bool false) w := fun w => mkNeq w (1, 1) (1, 1)
  have hT0' : wT.cell? ⟨gT, 0, none⟩ = some (.int .i64 1) := hT0
  clear hT0
  go_upto_region 14 with fail
  clear hmn cM hT0'
  clear loT
  have hcv := fun w : World => Lib.run_convert_bytes_const (P := Tryd.prog) w 28 5 #[.int .u8 87] 1 1 Tryd.underlying28 Tryd.underlying5
  have KA := fun v (h : Ext wT v) => block_all (h.keeps bA)
  have KT := fun v (h : Ext wT v) => h.cell hT1
  have hzQ := HX.out.size
  have OT := Lib.hid oT
  clear oT hT1
  refine wp_region_G 14 (fun v => Ext wT v) (by kernel_rfl) fun wd hqd hHeld => ?_
  refine G_take (i := 0) (u := ?va0) rfl (by kernel_rfl) (by kernel_rfl) (by kernel_rfl) (fun _ _ _ h => h) rfl (by kernel_rfl) (by decide) (by rfl) (Or.inl ⟨by rfl, ?hya0⟩) hHeld ?_
  case hya0 => (intro w hSw; go_simp; try with_reducible rfl)
  simp only [Act.put, List.setIfInBounds_toArray, List.set_cons_zero, List.set_cons_succ, List.getElem_toArray, List.getElem_cons_zero, List.getElem_cons_succ]
  refine G_pure (i := 1) (u := ?va1) rfl (by kernel_rfl) (by kernel_rfl) (by kernel_rfl) (fun _ _ _ h => h) (by decide) (Or.inl ⟨by rfl, ?hya1⟩) hHeld ?_
  case hya1 => (intro w hSw; go_simp; try with_reducible rfl)
  simp only [Act.put, List.setIfInBounds_toArray, List.set_cons_zero, List.set_cons_succ, List.getElem_toArray, List.getElem_cons_zero, List.getElem_cons_succ]
  refine G_pure (i := 2) (u := ?va2) rfl (by kernel_rfl) (by kernel_rfl) (by kernel_rfl) (fun _ _ _ h => h) (by decide) (Or.inl ⟨by rfl, ?hya2⟩) hHeld ?_
  case hya2 => (intro w hSw; go_simp; try with_reducible rfl)
  simp only [Act.put, List.setIfInBounds_toArray, List.set_cons_zero, List.set_cons_succ, List.getElem_toArray, List.getElem_cons_zero, List.getElem_cons_succ]
  refine G_pure (i := 3) (u := ?va3) rfl (by kernel_rfl) (by kernel_rfl) (by kernel_rfl) (fun _ _ _ h => h) (by decide) (Or.inl ⟨by rfl, ?hya3⟩) hHeld ?_
  case hya3 => (intro w hSw; go_simp; try with_reducible rfl)
  simp only [Act.put, List.setIfInBounds_toArray, List.set_cons_zero, List.set_cons_succ, List.getElem_toArray, List.getElem_cons_zero, List.getElem_cons_succ]
  refine G_take (i := 4) (u := ?va4) rfl (by kernel_rfl) (by kernel_rfl) (by kernel_rfl) (fun _ _ _ h => h) rfl (by kernel_rfl) (by decide) (by rfl) (Or.inl ⟨by rfl, ?hya4⟩) hHeld ?_
  case hya4 => (intro w hSw; go_simp; try with_reducible rfl)
  simp only [Act.put, List.setIfInBounds_toArray, List.set_cons_zero, List.set_cons_succ, List.getElem_toArray, List.getElem_cons_zero, List.getElem_cons_succ]
  refine G_all (rs := [5]) (by kernel_rfl) (by simp) ?_
  intro i hi; obtain rfl : i = 5 := by simpa using hi
  refine wpOp_run rfl (by rfl) ?_
  go_simp
  have h5 := hHeld
  have hHeld := hHeld.alloc (.cells #[.int .u8 87] 5)
  first | refine ⟨fun _ => hHeld, ?_⟩ | refine ⟨hHeld, ?_⟩
  try simp only [Act.put, List.setIfInBounds_toArray, List.set_cons_zero, List.set_cons_succ, List.getElem_toArray, List.getElem_cons_zero, List.getElem_cons_succ]
  refine G_all (rs := [6]) (by kernel_rfl) (by simp) ?_
  intro i hi; obtain rfl : i = 6 := by simpa using hi
  refine wpOp_run rfl (by rfl) ?_
  have hcw := hcv wd
  go_simp
  have hHeld := h5.alloc (.cells #[.int .u8 87] 5 (1, 2))
  first | refine ⟨fun _ => hHeld, ?_⟩ | refine ⟨hHeld, ?_⟩
  try simp only [Act.put, List.setIfInBounds_toArray, List.set_cons_zero, List.set_cons_succ, List.getElem_toArray, List.getElem_cons_zero, List.getElem_cons_succ]
  refine G_all (rs := [7]) (by kernel_rfl) (by simp) ?_
  intro i hi; obtain rfl : i = 7 := by simpa using hi
  refine wpOp_run rfl (by rfl) ?_
  go_simp
  refine Calls.mono (bkTake _ _ _ _ pA2 ulA 2 (encN nH) [87] okLA2 (ilA.ext hHeld).u okA2 (IsB.of_owns (ownsRow_ext OT.out hHeld)) (by rw [encN_len]; decide) (IsB.newF [87] rfl rfl rfl (by decide)) (HK.out.ext (HX.out.trans hHeld))) ?_
  rintro e wQ ⟨yQ, hpost⟩
  rcases hpost with ⟨hz, rfl⟩ | ⟨hz, vl, ul, vo, uo, vw, uw, rfl, il, lo, wo⟩
  · exact absurd wkT1.1 hz
  rw [wkT1.2.2] at lo
  have lo := lo.base (show w.heap.size ≤ _ from Nat.le_trans hzQ hHeld.size)
  obtain ⟨gU, uU, kU, rfl, rfl, hU0, hU1, oU⟩ := lt_cells lo
  clear il wo lo
  have hHeld := hHeld.trans yQ
  first | refine ⟨fun _ => hHeld, ?_⟩ | refine ⟨hHeld, ?_⟩
  try simp only [Act.put, List.setIfInBounds_toArray, List.set_cons_zero, List.set_cons_succ, List.getElem_toArray, List.getElem_cons_zero, List.getElem_cons_succ]
  refine G_pure (i := 8) (u := ?va8) rfl (by kernel_rfl) (by kernel_rfl) (by kernel_rfl) (fun _ _ _ h => h) (by decide) (Or.inl ⟨by rfl, ?hya8⟩) hHeld ?_
  case hya8 => (intro w hSw; go_simp; try with_reducible rfl)
  simp only [Act.put, List.setIfInBounds_toArray, List.set_cons_zero, List.set_cons_succ, List.getElem_toArray, List.getElem_cons_zero, List.getElem_cons_succ]
  refine G_pure (i := 9) (u := ?va9) rfl (by kernel_rfl) (by kernel_rfl) (by kernel_rfl) (fun _ _ _ h => h) (by decide) (Or.inl ⟨by rfl, ?hya9⟩) hHeld ?_
  case hya9 => (intro w hSw; go_simp; try with_reducible rfl)
  simp only [Act.put, List.setIfInBounds_toArray, List.set_cons_zero, List.set_cons_succ, List.getElem_toArray, List.getElem_cons_zero, List.getElem_cons_succ]
  refine G_pure (i := 10) (u := ?va10) rfl (by kernel_rfl) (by kernel_rfl) (by kernel_rfl) (fun _ _ _ h => h) (by decide) (Or.inl ⟨by rfl, ?hya10⟩) hHeld ?_
  case hya10 => (intro w hSw; go_simp; try with_reducible rfl)
  simp only [Act.put, List.setIfInBounds_toArray, List.set_cons_zero, List.set_cons_succ, List.getElem_toArray, List.getElem_cons_zero, List.getElem_cons_succ]
  refine G_pure (i := 11) (u := ?va11) rfl (by kernel_rfl) (by kernel_rfl) (by kernel_rfl) (fun _ _ _ h => h) (by decide) (Or.inl ⟨by rfl, ?hya11⟩) hHeld ?_
  case hya11 => (intro w hSw; go_simp; try with_reducible rfl)
  simp only [Act.put, List.setIfInBounds_toArray, List.set_cons_zero, List.set_cons_succ, List.getElem_toArray, List.getElem_cons_zero, List.getElem_cons_succ]
  refine G_pure (i := 12) (u := ?va12) rfl (by kernel_rfl) (by kernel_rfl) (by kernel_rfl) (fun _ _ _ h => h) (by decide) (Or.inl ⟨by rfl, ?hya12⟩) hHeld ?_
  case hya12 => (intro w hSw; go_simp; try with_reducible rfl)
  simp only [Act.put, List.setIfInBounds_toArray, List.set_cons_zero, List.set_cons_succ, List.getElem_toArray, List.getElem_cons_zero, List.getElem_cons_succ]
  refine G_pure (i := 13) (u := ?va13) rfl (by kernel_rfl) (by kernel_rfl) (by kernel_rfl) (fun _ _ _ h => h) (by decide) (Or.inl ⟨by rfl, ?hya13⟩) hHeld ?_
  case hya13 => (intro w hSw; go_simp; try with_reducible rfl)
  simp only [Act.put, List.setIfInBounds_toArray, List.set_cons_zero, List.set_cons_succ, List.getElem_toArray, List.getElem_cons_zero, List.getElem_cons_succ]
  refine G_all (rs := [14]) (by kernel_rfl) (by simp) ?_
  intro i hi; obtain rfl : i = 14 := by simpa using hi
  refine wpOp_run rfl (by rfl) ?_
  go_simp
  try refine ⟨fun e => absurd e (by decide), ?_⟩
  refine G_free _ _ _ _ (by kernel_rfl) ?_
  try simp only [Act.put, List.setIfInBounds_toArray, List.set_cons_zero, List.set_cons_succ, List.getElem_toArray, List.getElem_cons_zero, List.getElem_cons_succ]
  refine wpAny_done (by kernel_rfl) ?_ _
  refine NoPanic.normal ?_
  clear KA KT hcv OT
  have bB := hHeld.keeps bB
  have bM := hHeld.keeps bM
  have ilB := ilB.ext hHeld
  have HX := Lib.hid (HX.out.trans hHeld)
  clear hHeld
  go_upto_region 17 with fail
  have KB := fun v (h : Ext wQ v) => block_all (h.keeps bB)
  have KU := fun v (h : Ext wQ v) => h.cell hU1
  have hzR := HX.out.size
  have OU := Lib.hid oU
  clear oU hU1 hU0
  refine wp_region_G 11 (fun v => Ext wQ v) (by kernel_rfl) fun wd hqd hHeld => ?_
  refine G_take (i := 0) (u := ?vb0) rfl (by kernel_rfl) (by kernel_rfl) (by kernel_rfl) (fun _ _ _ h => h) rfl (by kernel_rfl) (by decide) (by rfl) (Or.inl ⟨by rfl, ?hyb0⟩) hHeld ?_
  case hyb0 => (intro w hSw; go_simp; try with_reducible rfl)
  simp only [Act.put, List.setIfInBounds_toArray, List.set_cons_zero, List.set_cons_succ, List.getElem_toArray, List.getElem_cons_zero, List.getElem_cons_succ]
  refine G_pure (i := 1) (u := ?vb1) rfl (by kernel_rfl) (by kernel_rfl) (by kernel_rfl) (fun _ _ _ h => h) (by decide) (Or.inl ⟨by rfl, ?hyb1⟩) hHeld ?_
  case hyb1 => (intro w hSw; go_simp; try with_reducible rfl)
  simp only [Act.put, List.setIfInBounds_toArray, List.set_cons_zero, List.set_cons_succ, List.getElem_toArray, List.getElem_cons_zero, List.getElem_cons_succ]
  refine G_pure (i := 2) (u := ?vb2) rfl (by kernel_rfl) (by kernel_rfl) (by kernel_rfl) (fun _ _ _ h => h) (by decide) (Or.inl ⟨by rfl, ?hyb2⟩) hHeld ?_
  case hyb2 => (intro w hSw; go_simp; try with_reducible rfl)
  simp only [Act.put, List.setIfInBounds_toArray, List.set_cons_zero, List.set_cons_succ, List.getElem_toArray, List.getElem_cons_zero, List.getElem_cons_succ]
  refine G_pure (i := 3) (u := ?vb3) rfl (by kernel_rfl) (by kernel_rfl) (by kernel_rfl) (fun _ _ _ h => h) (by decide) (Or.inl ⟨by rfl, ?hyb3⟩) hHeld ?_
  case hyb3 => (intro w hSw; go_simp; try with_reducible rfl)
  simp only [Act.put, List.setIfInBounds_toArray, List.set_cons_zero, List.set_cons_succ, List.getElem_toArray, List.getElem_cons_zero, List.getElem_cons_succ]
  refine G_take (i := 4) (u := ?vb4) rfl (by kernel_rfl) (by kernel_rfl) (by kernel_rfl) (fun _ _ _ h => h) rfl (by kernel_rfl) (by decide) (by rfl) (Or.inl ⟨by rfl, ?hyb4⟩) hHeld ?_
  case hyb4 => (intro w hSw; go_simp; try with_reducible rfl)
  simp only [Act.put, List.setIfInBounds_toArray, List.set_cons_zero, List.set_cons_succ, List.getElem_toArray, List.getElem_cons_zero, List.getElem_cons_succ]
  refine G_all (rs := [5]) (by kernel_rfl) (by simp) ?_
  intro i hi; obtain rfl : i = 5 := by simpa using hi
  refine wpOp_run rfl (by rfl) ?_
  go_simp
  refine Calls.mono (bkTake _ _ _ (.slice none 0 0) pB1 [] 1 (encN nW) [] (fun e he => by simp [pB1] at he) (ilB.ext hHeld).u okB1 (IsB.of_owns (ownsRow_ext OU.out hHeld)) (by rw [encN_len]; decide) (IsB.nil _) (HK.out.ext (HX.out.trans hHeld))) ?_
  rintro e wR ⟨yR, hpost⟩
  rcases hpost with ⟨hz, rfl⟩ | ⟨hz, vl, ulB, vo, uo, vw, uw, rfl, il, lo, wo⟩
  · exact absurd wkT2.1 hz
  rw [wkT2.2.2] at wo
  rw [wkT2.2.1] at il
  rw [wkT2.2.1]
  have wo := wo.base (show w.heap.size ≤ _ from Nat.le_trans hzR hHeld.size)
  have il := il.base (show w.heap.size ≤ _ from Nat.le_trans hzR hHeld.size)
  obtain ⟨aC, kC, rfl⟩ := il.shape
  have hHeld := hHeld.trans yR
  first | refine ⟨fun _ => hHeld, ?_⟩ | refine ⟨hHeld, ?_⟩
  try simp only [Act.put, List.setIfInBounds_toArray, List.set_cons_zero, List.set_cons_succ, List.getElem_toArray, List.getElem_cons_zero, List.getElem_cons_succ]
  refine G_pure (i := 6) (u := ?vb6) rfl (by kernel_rfl) (by kernel_rfl) (by kernel_rfl) (fun _ _ _ h => h) (by decide) (Or.inl ⟨by rfl, ?hyb6⟩) hHeld ?_
  case hyb6 => (intro w hSw; go_simp; try with_reducible rfl)
  simp only [Act.put, List.setIfInBounds_toArray, List.set_cons_zero, List.set_cons_succ, List.getElem_toArray, List.getElem_cons_zero, List.getElem_cons_succ]
  refine G_pure (i := 7) (u := ?vb7) rfl (by kernel_rfl) (by kernel_rfl) (by kernel_rfl) (fun _ _ _ h => h) (by decide) (Or.inl ⟨by rfl, ?hyb7⟩) hHeld ?_
  case hyb7 => (intro w hSw; go_simp; try with_reducible rfl)
  simp only [Act.put, List.setIfInBounds_toArray, List.set_cons_zero, List.set_cons_succ, List.getElem_toArray, List.getElem_cons_zero, List.getElem_cons_succ]
  refine G_pure (i := 8) (u := ?vb8) rfl (by kernel_rfl) (by kernel_rfl) (by kernel_rfl) (fun _ _ _ h => h) (by decide) (Or.inl ⟨by rfl, ?hyb8⟩) hHeld ?_
  case hyb8 => (intro w hSw; go_simp; try with_reducible rfl)
  simp only [Act.put, List.setIfInBounds_toArray, List.set_cons_zero, List.set_cons_succ, List.getElem_toArray, List.getElem_cons_zero, List.getElem_cons_succ]
  refine G_pure (i := 9) (u := ?vb9) rfl (by kernel_rfl) (by kernel_rfl) (by kernel_rfl) (fun _ _ _ h => h) (by decide) (Or.inl ⟨by rfl, ?hyb9⟩) hHeld ?_
  case hyb9 => (intro w hSw; go_simp; try with_reducible rfl)
  simp only [Act.put, List.setIfInBounds_toArray, List.set_cons_zero, List.set_cons_succ, List.getElem_toArray, List.getElem_cons_zero, List.getElem_cons_succ]
  refine G_pure (i := 10) (u := ?vb10) rfl (by kernel_rfl) (by kernel_rfl) (by kernel_rfl) (fun _ _ _ h => h) (by decide) (Or.inl ⟨by rfl, ?hyb10⟩) hHeld ?_
  case hyb10 => (intro w hSw; go_simp; try with_reducible rfl)
  simp only [Act.put, List.setIfInBounds_toArray, List.set_cons_zero, List.set_cons_succ, List.getElem_toArray, List.getElem_cons_zero, List.getElem_cons_succ]
  refine G_all (rs := [11]) (by kernel_rfl) (by simp) ?_
  intro i hi; obtain rfl : i = 11 := by simpa using hi
  refine wpOp_run rfl (by rfl) ?_
  refine wp_store_row 47 (.tmp 4) (.tmp 108) rfl BB #[.int .i64 pB2.me, .int .u32 (pB2.v.n : Int), .int .i64 pB2.v.p, .int .i64 pB2.v.b, .int .u32 (pB2.base.1 : Int), .int .u32 (pB2.base.2 : Int), (.slice aC pB2.log.length kC), .bool pB2.known, .bool pB2.joined, .bool pB2.instep, .int .u32 (pB2.acked : Int)] (by rfl) (by rfl) 47 _ (hHeld.keeps bB) (by kernel_rfl) rfl (pr_one _ _ _ _) ?_
  try refine ⟨fun e => absurd e (by decide), ?_⟩
  refine G_free _ _ _ _ (by kernel_rfl) ?_
  try simp only [Act.put, List.setIfInBounds_toArray, List.set_cons_zero, List.set_cons_succ, List.getElem_toArray, List.getElem_cons_zero, List.getElem_cons_succ]
  refine wpAny_take (i := 12) (v := ?vb12) rfl (by kernel_rfl) (by kernel_rfl) (by kernel_rfl) (fun _ _ _ h => h) (Or.inl ⟨by rfl, ?hyb12⟩) ?_
  case hyb12 => (intro w ; go_simp; try with_reducible rfl)
  simp only [Act.put, List.setIfInBounds_toArray, List.set_cons_zero, List.set_cons_succ, List.getElem_toArray, List.getElem_cons_zero, List.getElem_cons_succ]
  refine wpAny_take (i := 13) (v := ?vb13) rfl (by kernel_rfl) (by kernel_rfl) (by kernel_rfl) (fun _ _ _ h => h) (Or.inl ⟨by rfl, ?hyb13⟩) ?_
  case hyb13 => (intro w ; go_simp; try with_reducible rfl)
  simp only [Act.put, List.setIfInBounds_toArray, List.set_cons_zero, List.set_cons_succ, List.getElem_toArray, List.getElem_cons_zero, List.getElem_cons_succ]
  refine wpAny_take (i := 14) (v := ?vb14) rfl (by kernel_rfl) (by kernel_rfl) (by kernel_rfl) (fun _ _ _ h => h) (Or.inl ⟨by rfl, ?hyb14⟩) ?_
  case hyb14 => (intro w ; go_simp; try with_reducible rfl)
  simp only [Act.put, List.setIfInBounds_toArray, List.set_cons_zero, List.set_cons_succ, List.getElem_toArray, List.getElem_cons_zero, List.getElem_cons_succ]
  refine wpAny_done (by kernel_rfl) ?_ _
  refine NoPanic.normal ?_
  clear KB KU OU ilB
  have bB := hHeld.keeps bB
  have HX := Lib.hid (HX.out.trans hHeld)
  clear hHeld bM bV bA ilA lo
  have gr := grown_setRow (w := wR) (g := BB) (c := #[.int .i64 pB2.me, .int .u32 (pB2.v.n : Int), .int .i64 pB2.v.p, .int .i64 pB2.v.b, .int .u32 (pB2.base.1 : Int), .int .u32 (pB2.base.2 : Int), (.slice aC pB2.log.length kC), .bool pB2.known, .bool pB2.joined, .bool pB2.instep, .int .u32 (pB2.acked : Int)])
  have bnew := setRow_heap _ BB _ #[.int .i64 pB2.me, .int .u32 (pB2.v.n : Int), .int .i64 pB2.v.p, .int .i64 pB2.v.b, .int .u32 (pB2.base.1 : Int), .int .u32 (pB2.base.2 : Int), (.slice aC pB2.log.length kC), .bool pB2.known, .bool pB2.joined, .bool pB2.instep, .int .u32 (pB2.acked : Int)] _ _ bB
  have il := il.grown gr bB (by decide) (by decide)
  have wo := wo.grownT gr bB (by decide) (by decide)
  have HX := Lib.hid (HX.out.grown gr (fun k hk => by cases hk; omega))
  clear gr bB
  generalize wR.setRow BB #[.int .i64 pB2.me, .int .u32 (pB2.v.n : Int), .int .i64 pB2.v.p, .int .i64 pB2.v.b, .int .u32 (pB2.base.1 : Int), .int .u32 (pB2.base.2 : Int), (.slice aC pB2.log.length kC), .bool pB2.known, .bool pB2.joined, .bool pB2.instep, .int .u32 (pB2.acked : Int)] = W9 at *
  have bB := bnew
  clear bnew
  obtain ⟨gW, uW, kW, rfl, rfl, hW0, hW1, oW⟩ := wk_cells wo
  have cB := block_all bB
  have hcv := conv_str (P := Tryd.prog) (IsB.of_owns oW) 28 9 5 Tryd.underlying28 Tryd.underlying5 Tryd.underlying9
  have hcv' : (convert 28 9 (.slice uW.1 1 uW.2)).run Tryd.prog W9 = .ok (.string ⟨#[87]⟩) W9 := hcv
  have hW1' : W9.cell? ⟨gW, 1, none⟩ = some (.slice uW.1 1 uW.2) := hW1
  clear hcv hW1 oW wo
  have hs : ((⟨#[87]⟩ : ByteArray) == ⟨#[87]⟩) = true := by decide +kernel
  have IL := Lib.hid il
  have okr : okLg pB2.log := by intro e he; simp [pB2] at he
  clear il
  go_wp2_with fail
  refine (bkReady _ _ pB2 ⟨okr, _, IL.out.u⟩ okB2).mono ?_
  rintro e wS ⟨rfl, y⟩
  rw [wkReady]
  go_wp2_with fail
  go_ret
  exact ⟨rfl, HX.out.trans y⟩
end Go.Proofs.YtkcddcomjbihgaaDoor
