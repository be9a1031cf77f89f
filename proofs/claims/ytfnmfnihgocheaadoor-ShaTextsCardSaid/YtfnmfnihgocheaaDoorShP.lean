/- The walks of the statements ShaTexts and ShaBack. -/
import Derived.Test.YtfnmfnihgocheaaDoorShO
import Derived.Deep.DeepCutAuto
namespace Go.Proofs.YtfnmfnihgocheaaDoor
open Go.RowKit
set_option linter.unusedVariables false
set_option linter.unusedSimpArgs false

theorem str_size (l : List UInt8) : (⟨l.toArray⟩ : ByteArray).size = l.length := rfl
theorem chr_list (l : List UInt8) (i : Nat) : chr ⟨l.toArray⟩ i = (l.getD i 0).toNat := rfl
theorem digN_dig : ∀ k : Nat, k < 16 → digN (digS.getD k 0).toNat = k := by decide +kernel
theorem text_get (l : List UInt8) (i : Nat) (hi : i < l.length) : (textL l).getD (2 * i) 0 = digS.getD (l[i].toNat / 16) 0 ∧ (textL l).getD (2 * i + 1) 0 = digS.getD (l[i].toNat % 16) 0 := by
  have h1 := flat_getU hexB 2 l (fun x _ => rfl) i hi 0 (by omega)
  have h2 := flat_getU hexB 2 l (fun x _ => rfl) i hi 1 (by omega)
  rw [Nat.mul_comm] at h1 h2
  unfold textL
  constructor
  · rw [List.getD_eq_getElem?_getD, show 2 * i = 2 * i + 0 from rfl, h1]; rfl
  · rw [List.getD_eq_getElem?_getD, h2]; rfl
theorem text_dig (l : List UInt8) (i : Nat) (hi : i < l.length) : digN (chr ⟨(textL l).toArray⟩ (2 * i)) = l[i].toNat / 16 ∧ digN (chr ⟨(textL l).toArray⟩ (2 * i + 1)) = l[i].toNat % 16 := by
  have h := text_get l i hi
  have hb : l[i].toNat < 256 := l[i].toNat_lt
  rw [chr_list, chr_list, h.1, h.2]
  exact ⟨digN_dig _ (by omega), digN_dig _ (by omega)⟩
/-- The digits of a digest are read as it. -/
theorem parse_text (l : List UInt8) (hl : l.length = 32) : parseL ⟨(textL l).toArray⟩ = some l := by
  have hd := fun i (hi : i < 32) => text_dig l i (by omega)
  have hds : digsTo ⟨(textL l).toArray⟩ 64 := by
    intro j hj
    have hi32 : j / 2 < 32 := by omega
    have h := hd (j / 2) hi32
    have hb : (l[j / 2]'(by omega)).toNat < 256 := UInt8.toNat_lt _
    rcases (show j = 2 * (j / 2) ∨ j = 2 * (j / 2) + 1 from by omega) with e | e
    · rw [e, h.1]; omega
    · rw [e, h.2]; omega
  generalize hS : (⟨(textL l).toArray⟩ : ByteArray) = S at *
  have hsz : S.size = 64 := by rw [← hS, str_size, textL_len, hl]
  clear hS
  rw [parse_yes hsz hds]
  refine congrArg some ?_
  have H : ∀ i, i ≤ 32 → (parL S (2 * i)).take i = l.take i := by
    intro i
    induction i with
    | zero => intro _; rfl
    | succ i ih =>
      intro hi
      have h := hd i (by omega)
      have hb : (l[i]'(by omega)).toNat < 256 := UInt8.toNat_lt _
      rw [parL_two _ i (by omega) (by rw [h.1]; omega) (by rw [h.2]; omega), List.take_add_one, List.take_add_one, List.getElem?_set_self (by rw [parL_len]; omega), List.take_set_of_le (Nat.le_refl _), ih (by omega), List.getElem?_eq_getElem (by omega), h.1, h.2]
      refine congrArg (fun q => List.take i l ++ q) (congrArg Option.toList (congrArg some ?_))
      rw [show 16 * ((l[i]'(by omega)).toNat / 16) + (l[i]'(by omega)).toNat % 16 = (l[i]'(by omega)).toNat from by omega]
      simp
  have h := H 32 (by omega)
  rw [show 2 * 32 = 64 from rfl, List.take_of_length_le (by rw [parL_len]; omega), List.take_of_length_le (by omega)] at h
  exact h
theorem dig_of_N : ∀ c : Nat, c < 256 → digN c < 16 → (digS.getD (digN c) 0).toNat = c := by decide +kernel
/-- What is read as a digest are its digits. -/
theorem text_parse (s : ByteArray) (l : List UInt8) (h : parseL s = some l) : (⟨(textL l).toArray⟩ : ByteArray) = s := by
  by_cases hy : s.size = 64 ∧ digsTo s 64
  · rw [parse_yes hy.1 hy.2] at h
    obtain rfl := Option.some.inj h
    have hl := parL_len s 64
    have hs : s.data.toList.length = 64 := by simpa using hy.1
    have H : ∀ i, i ≤ 32 → (parL s 64).take i = (parL s (2 * i)).take i := by
      intro i hi
      have H2 : ∀ d, i + d ≤ 32 → (parL s (2 * (i + d))).take i = (parL s (2 * i)).take i := by
        intro d
        induction d with
        | zero => intro _; rfl
        | succ d ih =>
          intro hd
          rw [← Nat.add_assoc, parL_two s (i + d) (by omega) (hy.2 _ (by omega)) (hy.2 _ (by omega)), List.take_set_of_le (by omega), ih (by omega)]
      have := H2 (32 - i) (by omega)
      rw [show i + (32 - i) = 32 from by omega] at this
      exact this
    have hget : ∀ i (hi : i < 32), ((parL s 64)[i]'(by omega)) = UInt8.ofNat (16 * digN (chr s (2 * i)) + digN (chr s (2 * i + 1))) := by
      intro i hi
      have h1 := H (i + 1) (by omega)
      rw [parL_two s i hi (hy.2 _ (by omega)) (hy.2 _ (by omega))] at h1
      have h2 := congrArg (fun q => q[i]?) h1
      simp only [List.getElem?_take, show i < i + 1 from by omega, if_true] at h2
      rw [List.getElem?_set_self (by rw [parL_len]; omega), List.getElem?_eq_getElem (by omega)] at h2
      exact Option.some.inj h2
    have key : textL (parL s 64) = s.data.toList := by
      apply List.ext_getElem?
      intro j
      by_cases hj : j < 64
      · have htl : (textL (parL s 64)).length = 64 := by rw [textL_len, hl]
        obtain ⟨i, hi⟩ : ∃ i, j = 2 * i ∨ j = 2 * i + 1 := ⟨j / 2, by omega⟩
        have hi32 : i < 32 := by omega
        have ht := text_get (parL s 64) i (by omega)
        have h1 := hy.2 (2 * i) (by omega)
        have h2 := hy.2 (2 * i + 1) (by omega)
        have hn : ((parL s 64)[i]'(by omega)).toNat = 16 * digN (chr s (2 * i)) + digN (chr s (2 * i + 1)) := by
          rw [hget i hi32, UInt8.toNat_ofNat']; omega
        have hgd : ∀ k, k < 64 → (textL (parL s 64)).getD k 0 = s.data.toList.getD k 0 → (textL (parL s 64))[k]? = s.data.toList[k]? := by
          intro k hk h
          rw [List.getD_eq_getElem?_getD, List.getD_eq_getElem?_getD, List.getElem?_eq_getElem (by omega), List.getElem?_eq_getElem (by omega)] at h
          rw [List.getElem?_eq_getElem (by omega), List.getElem?_eq_getElem (by omega)]
          exact congrArg some h
        rcases hi with rfl | rfl
        · apply hgd _ hj
          rw [ht.1, hn, show (16 * digN (chr s (2 * i)) + digN (chr s (2 * i + 1))) / 16 = digN (chr s (2 * i)) from by omega]
          exact UInt8.toNat_inj.1 (dig_of_N _ (chr_lt s _) h1)
        · apply hgd _ hj
          rw [ht.2, hn, show (16 * digN (chr s (2 * i)) + digN (chr s (2 * i + 1))) % 16 = digN (chr s (2 * i + 1)) from by omega]
          exact UInt8.toNat_inj.1 (dig_of_N _ (chr_lt s _) h2)
      · rw [List.getElem?_eq_none (by rw [textL_len, hl]; omega), List.getElem?_eq_none (by omega)]
    rw [key]
  · rw [parse_no hy] at h
    cases h
theorem parse_len (s : ByteArray) (l : List UInt8) (h : parseL s = some l) : l.length = 32 := by
  by_cases hy : s.size = 64 ∧ digsTo s 64
  · rw [parse_yes hy.1 hy.2] at h
    obtain rfl := Option.some.inj h
    exact parL_len s 64
  · rw [parse_no hy] at h
    cases h

theorem wpl_load {P : Program} {ops : Array Oper} {rest : List Oper} {o : Oper} {a : Act} {w : World} {Q : Exit → Act → World → Prop} (hgd : Region.wanted o (yielded ops a.tmps) = true) (ty : TypeId) (x : Operand) (ho : o.op = .load ty x)
    (g : Nat) (hx : a.eval x = .pointer (some ⟨g, 0, none⟩)) (t : TypeId) (cs : Array Value) (fr : Nat × Nat) (d : TypeDesc) (hg : w.heap[g]? = some (.cells cs t fr))
    (hu : P.underlying ty = some d) (hd : (match d with | .struct _ | .array _ _ => true | _ => false) = true) (hi : (P.info? ty).map (·.size) = some cs.size)
    (h : wpList P ops Q rest (a.put o.dst (.agg cs)) w) : wpList P ops Q (o :: rest) a w :=
  wpList_wanted hgd fun K hK => wp_load_row ty x ho g hx t cs fr d hg hu hd hi (hK _ _ h)

theorem eql_zero (w : World) (l : List UInt8) (hl : l.length = 32) :
    (binOp .eql 25 (.agg (l.map bc).toArray) (.agg #[.int .u8 0, .int .u8 0, .int .u8 0, .int .u8 0, .int .u8 0, .int .u8 0, .int .u8 0, .int .u8 0, .int .u8 0, .int .u8 0, .int .u8 0, .int .u8 0, .int .u8 0, .int .u8 0, .int .u8 0, .int .u8 0, .int .u8 0, .int .u8 0, .int .u8 0, .int .u8 0, .int .u8 0, .int .u8 0, .int .u8 0, .int .u8 0, .int .u8 0, .int .u8 0, .int .u8 0, .int .u8 0, .int .u8 0, .int .u8 0, .int .u8 0, .int .u8 0])).run Tryd.prog w = .ok (.bool (decide (l = z32))) w :=
  eql_id w l z32 hl rfl

set_option maxHeartbeats 4000000 in
set_option maxRecDepth 100000 in
theorem walkShaBack (w : World) (l : List UInt8) (hl : l.length = 32) (s : ByteArray) (hs : s.size ≤ 9223372036854775807) (hK : Tabs w) :
    Calls Tryd.prog 7 #[.agg (l.map bc).toArray, .string s] w fun e w' => e = .returned (.bool true) ∧ Below w.heap.size w w' := by
  have hsz := id_size hl
  generalize hQ : (l.map bc).toArray = QA at *
  have HQ := Lib.hid hQ
  clear hQ
  go_enter Tryd.func7, Tryd.ntmps7
  go_wp2_with fail
  refine Calls.mono (wakes03 _ (hK.ext ((Ext.refl _).alloc _))) ?_
  rintro e w1 ⟨rfl, x1⟩
  have b0 := x1.keeps (heap_alloc_new w (.cells QA 25))
  have X1 : Ext w w1 := ((Ext.refl w).alloc _).trans x1
  generalize hG : w.heap.size = G at *
  have HG := Lib.hid hG
  clear hG
  go_wp2_with (refine wpList_load_row rfl 25 (.tmp 2) rfl G (by rfl) 25 QA (0, 0) _ b0 Tryd.underlying25 rfl hsz ?_)
  rw [← HQ.out]
  refine Calls.mono (shaText _ l hl) ?_
  rintro e w2 ⟨rfl, x2⟩
  rw [HQ.out]
  have hpt := parse_text l hl
  have hs1 : (⟨(textL l).toArray⟩ : ByteArray).size ≤ 9223372036854775807 := by rw [str_size, textL_len, hl]; omega
  have b0 := x2.keeps b0
  have X2 := X1.trans x2
  generalize (⟨(textL l).toArray⟩ : ByteArray) = S1 at *
  go_wp2_with fail
  refine Calls.mono (shaParse _ S1 hs1) ?_
  rintro e w3 ⟨rfl, x3⟩
  have hv : parseV (parseL S1) = .agg QA := by rw [hpt]; exact congrArg _ HQ.out
  have he : parseE (parseL S1) = 0 := by rw [hpt]; rfl
  rw [hv, he]
  clear hv he hpt
  have b0 := x3.keeps b0
  have X3 := X2.trans x3
  have hone : QA.all (·.oneCell') = true := by rw [← HQ.out]; exact id_one l
  have hqs : QA.size = 32 := by rw [← HQ.out]; simp [hl]
  have hneq := fun w => neq_id w l l hl hl
  rw [HQ.out, decide_eq_true rfl] at hneq
  go_wp2_with (first
    | (refine wpList_store_row rfl 25 (.tmp 5) (.tmp 14) rfl w3.heap.size QA (by rfl) (by rfl) 25 _ (heap_alloc_new _ _) hsz (by rw [hqs]; rfl) hone ?_; rw [World.setRow_alloc_new])
    | (refine wpl_load (by rfl) 25 (.tmp 5) rfl w3.heap.size (by rfl) 25 QA (0, 0) _ (heap_alloc_new _ _) Tryd.underlying25 rfl hsz ?_)
    | (refine wpl_load (by rfl) 25 (.tmp 2) rfl G (by rfl) 25 QA (0, 0) _ (blk_old b0) Tryd.underlying25 rfl hsz ?_))
  have X4 := X3.alloc (.cells QA 25)
  generalize w3.alloc (.cells QA 25) = w4 at *
  refine Calls.mono (shaParse _ s hs) ?_
  rintro e w5 ⟨rfl, x5⟩
  have X5 := X4.trans x5
  have hone' : ∀ l : List UInt8, (l.map bc).toArray.all (·.oneCell') = true := id_one
  cases hp : parseL s with
  | none =>
    have hv : parseV none = .agg (z32.map bc).toArray := rfl
    have he : parseE none = 130 := rfl
    rw [hv, he]
    have hz := fun w => eql_zero w z32 rfl
    rw [decide_eq_true rfl] at hz
    have hyo := id_one z32
    have hys := id_size (l := z32) rfl
    have hy32 : (z32.map bc).toArray.size = 32 := rfl
    generalize (z32.map bc).toArray = QY at *
    clear hv he hp
    go_wp2_with (first
      | (refine wpList_store_row rfl 25 (.tmp 7) (.tmp 26) rfl w5.heap.size QY (by rfl) (by rfl) 25 _ (heap_alloc_new _ _) hys (by rw [hy32]; rfl) hyo ?_; rw [World.setRow_alloc_new])
      | (refine wpl_load (by rfl) 25 (.tmp 7) rfl w5.heap.size (by rfl) 25 QY (0, 0) _ (heap_alloc_new _ _) Tryd.underlying25 rfl hys ?_))
    go_ret
    exact ⟨rfl, X5.alloc _⟩
  | some y =>
    have hyl := parse_len s y hp
    have htp := text_parse s y hp
    have hv : parseV (some y) = .agg (y.map bc).toArray := rfl
    have he : parseE (some y) = 0 := rfl
    rw [hv, he]
    have hyo := id_one y
    have hys := id_size hyl
    have hy32 : (y.map bc).toArray.size = 32 := by simp [hyl]
    have hT := fun w => shaText w y hyl
    rw [htp] at hT
    generalize (y.map bc).toArray = QY at *
    clear hv he hp htp
    go_wp2_with (first
      | (refine wpList_store_row rfl 25 (.tmp 7) (.tmp 26) rfl w5.heap.size QY (by rfl) (by rfl) 25 _ (heap_alloc_new _ _) hys (by rw [hy32]; rfl) hyo ?_; rw [World.setRow_alloc_new])
      | (refine wpl_load (by rfl) 25 (.tmp 7) rfl w5.heap.size (by rfl) 25 QY (0, 0) _ (heap_alloc_new _ _) Tryd.underlying25 rfl hys ?_))
    refine Calls.mono (hT _) ?_
    rintro e w6 ⟨rfl, x6⟩
    go_wp2
    go_ret
    exact ⟨rfl, (X5.alloc _).trans x6⟩
end Go.Proofs.YtfnmfnihgocheaaDoor
