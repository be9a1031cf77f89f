/- Backup, plain: a note's bytes and the note of bytes lead back to one another. -/
import Derived.Test.YtkcddcomjbihgaaDoorBkS
import Derived.Lib.SmallJoins
namespace Go.Proofs.YtkcddcomjbihgaaDoor
open Go.RowKit
set_option linter.unusedVariables false
set_option linter.unusedSimpArgs false

theorem be4N (x : Nat) : be x 4 = [UInt8.ofNat (x / 16777216), UInt8.ofNat (x / 65536), UInt8.ofNat (x / 256), UInt8.ofNat x] := by simp [be, List.range_succ]
theorem num4N (a b c d : UInt8) : num [a, b, c, d] = ((a.toNat * 256 + b.toNat) * 256 + c.toNat) * 256 + d.toNat := by
  have := a.toNat_lt
  have := b.toNat_lt
  have := c.toNat_lt
  have := d.toNat_lt
  simp [num]
  omega
theorem num_be4N (x : Nat) (h : x < 4294967296) : num (be x 4) = x := by
  rw [be4N, num4N]
  simp only [UInt8.toNat_ofNat']
  omega
theorem u8_natN {c : UInt8} {x : Nat} (h : x % 256 = c.toNat) : UInt8.ofNat x = c := by
  apply UInt8.toNat_inj.1
  rw [UInt8.toNat_ofNat']
  exact h
theorem be_num4N (t : List UInt8) (h : t.length = 4) : be (num t) 4 = t := by
  match t, h with
  | [a, b, c, d], _ =>
    have := a.toNat_lt
    have := b.toNat_lt
    have := c.toNat_lt
    have := d.toNat_lt
    rw [num4N, be4N, u8_natN (c := a) (by omega), u8_natN (c := b) (by omega), u8_natN (c := c) (by omega), u8_natN (c := d) (by omega)]
theorem fldN (pre rest : List UInt8) (x i : Nat) (h : pre.length = i) (hx : x < 4294967296) : nF (pre ++ (be x 4 ++ rest)) i = x := by
  subst h
  unfold nF
  rw [List.drop_left, List.take_left' (be_length _ _), num_be4N x hx]
def knd (n : Nt) : UInt8 := UInt8.ofNat (n.kind % 256).toNat
theorem encN_eq (n : Nt) : encN n = [knd n] ++ (be n.view 4 ++ (be n.mark.1 4 ++ (be n.mark.2 4 ++ (be n.prev.1 4 ++ (be n.prev.2 4 ++ (be n.bytes.length 4 ++ (n.bytes ++ shaL (ntBody n)))))))) := by
  simp [encN, ntBody, knd]
theorem encN_len (n : Nt) : (encN n).length = 57 + n.bytes.length := by
  unfold encN
  rw [List.length_append, ntBody_len, shaL_len]
  omega
theorem noted_kind {n : Nt} (h : notedB n = true) : 1 ≤ n.kind ∧ n.kind ≤ 5 := by
  unfold notedB at h
  by_cases c1 : (n.kind == 1 || n.kind == 2 || n.kind == 5) = true
  · simp only [Bool.or_eq_true, beq_iff_eq] at c1
    omega
  · rw [if_neg c1] at h
    by_cases c2 : (n.kind == 4) = true
    · rw [beq_iff_eq] at c2
      omega
    · rw [if_neg c2] at h
      simp only [Bool.and_eq_true, beq_iff_eq] at h
      omega
theorem decN_enc {n : Nt} (ho : NtOk n) (hn : notedB n = true) : decN (encN n) = n := by
  have hk := noted_kind hn
  have hl := noted_len hn
  obtain ⟨_, hv, ⟨hm1, hm2⟩, ⟨hp1, hp2⟩⟩ := ho
  have e1 : nF (encN n) 1 = n.view := by rw [encN_eq]; exact fldN _ _ _ _ rfl hv
  have e5 : nF (encN n) 5 = n.mark.1 := by
    rw [show encN n = ([knd n] ++ be n.view 4) ++ (be n.mark.1 4 ++ _) from by rw [encN_eq]; simp only [List.append_assoc]; rfl]
    exact fldN _ _ _ _ (by simp [be_length]) hm1
  have e9 : nF (encN n) 9 = n.mark.2 := by
    rw [show encN n = ([knd n] ++ be n.view 4 ++ be n.mark.1 4) ++ (be n.mark.2 4 ++ _) from by rw [encN_eq]; simp only [List.append_assoc]; rfl]
    exact fldN _ _ _ _ (by simp [be_length]) hm2
  have e13 : nF (encN n) 13 = n.prev.1 := by
    rw [show encN n = ([knd n] ++ be n.view 4 ++ be n.mark.1 4 ++ be n.mark.2 4) ++ (be n.prev.1 4 ++ _) from by rw [encN_eq]; simp only [List.append_assoc]; rfl]
    exact fldN _ _ _ _ (by simp [be_length]) hp1
  have e17 : nF (encN n) 17 = n.prev.2 := by
    rw [show encN n = ([knd n] ++ be n.view 4 ++ be n.mark.1 4 ++ be n.mark.2 4 ++ be n.prev.1 4) ++ (be n.prev.2 4 ++ _) from by rw [encN_eq]; simp only [List.append_assoc]; rfl]
    exact fldN _ _ _ _ (by simp [be_length]) hp2
  have e0 : (kF (encN n) : Int) = n.kind := by
    unfold kF
    rw [encN_eq]
    simp only [List.drop_zero, List.cons_append, List.nil_append, List.take_succ_cons, List.take_zero]
    have : num [knd n] = (knd n).toNat := by
      have := (knd n).toNat_lt
      simp [num]
    rw [this]
    unfold knd
    rw [UInt8.toNat_ofNat']
    omega
  have eb : ((encN n).take ((encN n).length - 32)).drop 25 = n.bytes := by
    have h1 : (encN n).take ((encN n).length - 32) = ntBody n := by
      have := ntBody_len n
      rw [encN_len]
      unfold encN
      exact List.take_left' (by omega)
    rw [h1]
    unfold ntBody
    exact List.drop_left' (by simp [be_length])
  unfold decN
  rw [e0, e1, e5, e9, e13, e17, eb]
theorem decErr_enc {n : Nt} (ho : NtOk n) (hn : notedB n = true) : decErr (encN n) = 0 := by
  have hl := noted_len hn
  have h1 : (encN n).take ((encN n).length - 32) = ntBody n := by
    have := ntBody_len n
    rw [encN_len]
    unfold encN
    exact List.take_left' (by omega)
  have h2 : (encN n).drop ((encN n).length - 32) = shaL (ntBody n) := by
    have := ntBody_len n
    rw [encN_len]
    unfold encN
    exact List.drop_left' (by omega)
  have e21 : nF (encN n) 21 = n.bytes.length := by
    rw [show encN n = ([knd n] ++ be n.view 4 ++ be n.mark.1 4 ++ be n.mark.2 4 ++ be n.prev.1 4 ++ be n.prev.2 4) ++ (be n.bytes.length 4 ++ _) from by rw [encN_eq]; simp only [List.append_assoc]; rfl]
    exact fldN _ _ _ _ (by simp [be_length]) (by omega)
  unfold decErr
  rw [h1, h2, e21, encN_len, decN_enc ho hn, if_neg (by omega), if_neg (by omega), if_neg (by simp), if_neg]
  rintro (h | h)
  · omega
  · rw [hn] at h
    exact absurd h (by decide)
theorem short_take {b : List UInt8} {i j : Nat} : b.take (i + j) = b.take i ++ (b.drop i).take j := List.take_add
theorem enc_decN {b : List UInt8} (h57 : 57 ≤ b.length) (hc : b.length - 57 = nF b 21) (hs : (shaL (b.take (b.length - 32)) == b.drop (b.length - 32)) = true) : encN (decN b) = b := by
  have hs : shaL (b.take (b.length - 32)) = b.drop (b.length - 32) := by simpa using hs
  have f : ∀ i, i + 4 ≤ b.length → be (nF b i) 4 = (b.drop i).take 4 := fun i hi => be_num4N _ (by simp; omega)
  have f0 : [UInt8.ofNat ((decN b).kind % 256).toNat] = b.take 1 := by
    match b, h57 with
    | c :: l, _ =>
      have hn : num [c] = c.toNat := by
        have := c.toNat_lt
        simp [num]
      have : (decN (c :: l)).kind = (c.toNat : Int) := by
        show ((kF (c :: l) : Nat) : Int) = _
        unfold kF
        rw [List.drop_zero, List.take_succ_cons, List.take_zero, hn]
      rw [this, List.take_succ_cons, List.take_zero]
      congr 1
      apply u8_natN
      have := c.toNat_lt
      omega
  have hb : (decN b).bytes = (b.take (b.length - 32)).drop 25 := rfl
  have hbl : (decN b).bytes.length = nF b 21 := by rw [hb]; simp; omega
  have hbody : ntBody (decN b) = b.take (b.length - 32) := by
    unfold ntBody
    rw [f0, hbl, hb]
    show b.take 1 ++ [nF b 1, nF b 5, nF b 9, nF b 13, nF b 17, nF b 21].flatMap (fun x => be x 4) ++ _ = _
    simp only [List.flatMap_cons, List.flatMap_nil, List.append_nil]
    rw [f 1 (by omega), f 5 (by omega), f 9 (by omega), f 13 (by omega), f 17 (by omega), f 21 (by omega)]
    have h25 : b.take 25 = b.take 1 ++ ((b.drop 1).take 4 ++ ((b.drop 5).take 4 ++ ((b.drop 9).take 4 ++ ((b.drop 13).take 4 ++ ((b.drop 17).take 4 ++ (b.drop 21).take 4))))) := by
      rw [show b.take 25 = b.take 21 ++ (b.drop 21).take 4 from short_take (i := 21) (j := 4), show b.take 21 = b.take 17 ++ (b.drop 17).take 4 from short_take (i := 17) (j := 4), show b.take 17 = b.take 13 ++ (b.drop 13).take 4 from short_take (i := 13) (j := 4), show b.take 13 = b.take 9 ++ (b.drop 9).take 4 from short_take (i := 9) (j := 4), show b.take 9 = b.take 5 ++ (b.drop 5).take 4 from short_take (i := 5) (j := 4), show b.take 5 = b.take 1 ++ (b.drop 1).take 4 from short_take (i := 1) (j := 4)]
      simp only [List.append_assoc]
    rw [← h25]
    conv => rhs; rw [← List.take_append_drop 25 (b.take (b.length - 32))]
    rw [List.take_take, Nat.min_eq_left (by omega)]
  unfold encN
  rw [hbody, hs, List.take_append_drop]
theorem enc_dec0 {b : List UInt8} (h : decErr b = 0) : encN (decN b) = b := by
  unfold decErr at h
  split at h
  · omega
  · split at h
    · omega
    · split at h
      · omega
      · rename_i h1 h2 h3
        split at h
        · omega
        · rename_i h4
          have h5 : (shaL (b.take (b.length - 32)) == b.drop (b.length - 32)) = true := by
            cases hq : (shaL (b.take (b.length - 32)) == b.drop (b.length - 32)) with
            | true => rfl
            | false => exact absurd hq h3
          refine enc_decN (by omega) ?_ h5
          by_cases hq : b.length - 57 = nF b 21
          · exact hq
          · exact absurd (Or.inl hq) h4
end Go.Proofs.YtkcddcomjbihgaaDoor

namespace Go.Proofs.YtkcddcomjbihgaaDoor
open Go.RowKit
set_option linter.unusedVariables false
set_option linter.unusedSimpArgs false

def vK : Vw := ⟨1, 1, 2⟩
def pA1 : Pr := ⟨1, ⟨1, 1, 2⟩, (1, 0), [], false, false, false, 0⟩
def pB1 : Pr := ⟨2, ⟨1, 1, 2⟩, (0, 0), [], false, false, false, 0⟩
def pA2 : Pr := ⟨1, ⟨1, 1, 2⟩, (1, 0), [⟨(1, 1), [97]⟩], false, false, false, 0⟩
def pB2 : Pr := ⟨2, ⟨1, 1, 2⟩, (1, 1), [], false, true, true, 0⟩
def nH : Nt := ⟨1, 1, (0, 0), (0, 0), []⟩
def nW : Nt := ⟨4, 1, (1, 1), (0, 0), [87]⟩
theorem wkEntA : enterP (newP 1) vK = pA1 ∧ entErr (newP 1) vK = 0 := ⟨by kernel_rfl, by kernel_rfl⟩
theorem wkEntB : enterP (newP 2) vK = pB1 ∧ entErr (newP 2) vK = 0 := ⟨by kernel_rfl, by kernel_rfl⟩
theorem wkApp : keptP pA1 ⟨nextM pA1, [97]⟩ = pA2 ∧ appErr pA1 [97] = 0 ∧ nextM pA1 = (1, 1) := ⟨by kernel_rfl, by kernel_rfl, by kernel_rfl⟩
theorem wkTick : tickL pB1 [] = [⟨1, encN nH⟩] ∧ tickErr pB1 = 0 := ⟨by kernel_rfl, by kernel_rfl⟩
theorem nHok : NtOk nH := ⟨⟨by decide, by decide⟩, by decide, ⟨by decide, by decide⟩, ⟨by decide, by decide⟩⟩
theorem nWok : NtOk nW := ⟨⟨by decide, by decide⟩, by decide, ⟨by decide, by decide⟩, ⟨by decide, by decide⟩⟩
theorem nHn : notedB nH = true := by kernel_rfl
theorem nWn : notedB nW = true := by kernel_rfl
theorem wkT1 : takeErr pA2 2 (encN nH) = 0 ∧ takeP pA2 2 (decN (encN nH)) = pA2 ∧ takeL pA2 2 (decN (encN nH)) [87] = [⟨2, encN nW⟩] := by
  rw [decN_enc nHok nHn]
  refine ⟨?_, by kernel_rfl, by kernel_rfl⟩
  unfold takeErr
  rw [if_neg (show ¬ rightB pA2 = false by decide), if_neg (by decide), decErr_enc nHok nHn]
theorem wkT2 : takeErr pB1 1 (encN nW) = 0 ∧ takeP pB1 1 (decN (encN nW)) = pB2 ∧ takeW pB1 1 (decN (encN nW)) = [⟨true, [87]⟩] := by
  rw [decN_enc nWok nWn]
  refine ⟨?_, by kernel_rfl, by kernel_rfl⟩
  unfold takeErr
  rw [if_neg (show ¬ rightB pB1 = false by decide), if_neg (by decide), decErr_enc nWok nWn]
theorem wkReady : readyB pB2 = true := by kernel_rfl
theorem okA0 : PrOk (newP 1) := ⟨⟨by decide, by decide⟩, by decide, ⟨by decide, by decide⟩, ⟨by decide, by decide⟩, ⟨by decide, by decide⟩, by decide⟩
theorem okB0 : PrOk (newP 2) := ⟨⟨by decide, by decide⟩, by decide, ⟨by decide, by decide⟩, ⟨by decide, by decide⟩, ⟨by decide, by decide⟩, by decide⟩
theorem okA1 : PrOk pA1 := ⟨⟨by decide, by decide⟩, by decide, ⟨by decide, by decide⟩, ⟨by decide, by decide⟩, ⟨by decide, by decide⟩, by decide⟩
theorem okB1 : PrOk pB1 := ⟨⟨by decide, by decide⟩, by decide, ⟨by decide, by decide⟩, ⟨by decide, by decide⟩, ⟨by decide, by decide⟩, by decide⟩
theorem okA2 : PrOk pA2 := ⟨⟨by decide, by decide⟩, by decide, ⟨by decide, by decide⟩, ⟨by decide, by decide⟩, ⟨by decide, by decide⟩, by decide⟩
theorem okB2 : PrOk pB2 := ⟨⟨by decide, by decide⟩, by decide, ⟨by decide, by decide⟩, ⟨by decide, by decide⟩, ⟨by decide, by decide⟩, by decide⟩
theorem ext_new (w : World) (o : Obj) (c : Array Value) : Ext w ((w.alloc o).setRow w.heap.size c) := ((Ext.refl w).alloc o).grown grown_setRow (fun k hk => by cases hk; exact Nat.le_refl _)
theorem new_row (w : World) (c0 c : Array Value) (t : TypeId) : ((w.alloc (.cells c0 t)).setRow w.heap.size c).heap[w.heap.size]? = some (.cells c t (0, 0)) := setRow_heap _ _ _ _ _ _ (heap_alloc_new w _)
theorem lgNilU (w : World) (l : List LgE) (h : l = []) : IsLgU w (.slice none 0 0) l [] := by subst h; exact ⟨rfl, IsSl.nil w 3, fun i hi => absurd hi (Nat.not_lt_zero _)⟩
theorem lgNilF (w : World) (base : Nat) (l : List LgE) (h : l = []) : LgFr w base (.slice none 0 0) l [] := by subst h; exact LgFr.nil w base
def okLg (l : List LgE) : Prop := ∀ e ∈ l, lgOk e
theorem okLA2 : ∀ e ∈ pA2.log, lgOk e := by
  intro e he
  obtain rfl : e = ⟨(1, 1), [97]⟩ := by simpa [pA2] using he
  exact ⟨⟨by decide, by decide⟩, by decide⟩
theorem new_ok (i : Int) (h : serverB i = true) : serverB i = true := h
theorem IsB.newF {w : World} {e : TypeId} {c : Array Value} {n b : Nat} {f : Nat × Nat} (l : List UInt8) (hb : w.heap.size = b) (hn : l.length = n) (hc : c.toList = l.map bc) (hm : n ≤ 9223372036854775807) : IsB (w.alloc (.cells c e f)) (.slice (some ⟨b, 0, none⟩) n n) l := by
  subst hn
  subst hb
  refine ⟨by simp, _, _, rfl, Nat.le_refl _, hm, (fun h => by cases h), fun i hi => ⟨_, 0, rfl, ?_⟩⟩
  rw [Nat.zero_add, block_cell (heap_alloc_new w (.cells c e f)), ← hc, Array.getElem?_toList]
/-- One letter's cells. -/
theorem lt_cells {w : World} {base : Nat} {v : Value} {e : LtE} {us : List Hd} (h : LtOwn w base v [e] us) : ∃ g u cap, us = [u] ∧ v = .slice (some ⟨g, 0, none⟩) 1 cap ∧ w.cell? ⟨g, 0, none⟩ = some (.int .i64 e.who) ∧ w.cell? ⟨g, 1, none⟩ = some (.slice u.1 e.b.length u.2) ∧ OwnB w base (.slice u.1 e.b.length u.2) e.b := by
  obtain ⟨hl, ho, hb⟩ := h
  match us, hl with
  | [u], _ =>
    obtain ⟨g, cap, rfl, -⟩ := own_row ho (by simp)
    refine ⟨g, u, cap, rfl, rfl, ?_, ?_, hb 0 (by simp) u rfl⟩
    · exact ho.cellAt 0 (by simp [ltCs, ltV])
    · exact ho.cellAt 1 (by simp [ltCs, ltV])
theorem wk_cells {w : World} {base : Nat} {v : Value} {e : WkE} {us : List Hd} (h : WkOwn w base v [e] us) : ∃ g u cap, us = [u] ∧ v = .slice (some ⟨g, 0, none⟩) 1 cap ∧ w.cell? ⟨g, 0, none⟩ = some (.bool e.whole) ∧ w.cell? ⟨g, 1, none⟩ = some (.slice u.1 e.b.length u.2) ∧ OwnB w base (.slice u.1 e.b.length u.2) e.b := by
  obtain ⟨hl, ho, hb⟩ := h
  match us, hl with
  | [u], _ =>
    obtain ⟨g, cap, rfl, -⟩ := own_row ho (by simp)
    refine ⟨g, u, cap, rfl, rfl, ?_, ?_, hb 0 (by simp) u rfl⟩
    · exact ho.cellAt 0 (by simp [wkCs, wkV])
    · exact ho.cellAt 1 (by simp [wkCs, wkV])
end Go.Proofs.YtkcddcomjbihgaaDoor
