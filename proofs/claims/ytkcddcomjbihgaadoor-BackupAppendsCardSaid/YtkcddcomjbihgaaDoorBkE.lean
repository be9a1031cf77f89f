/- Backup: a note's bytes: noted, numbers, laid, Encode. -/
import Derived.Test.YtkcddcomjbihgaaDoorBkL
import Derived.Test.YtkcddcomjbihgaaDoorShE
namespace Go.Proofs.YtkcddcomjbihgaaDoor
open Go.RowKit
set_option linter.unusedVariables false
set_option linter.unusedSimpArgs false

structure Nt where
  kind : Int
  view : Nat
  mark : Mk
  prev : Mk
  bytes : List UInt8
def ntBody (n : Nt) : List UInt8 := [UInt8.ofNat (n.kind % 256).toNat] ++ [n.view, n.mark.1, n.mark.2, n.prev.1, n.prev.2, n.bytes.length].flatMap (fun x => be x 4) ++ n.bytes
/-- A note's bytes. -/
def encN (n : Nt) : List UInt8 := ntBody n ++ shaL (ntBody n)
theorem ntBody_len (n : Nt) : (ntBody n).length = 25 + n.bytes.length := by
  simp [ntBody, be_length]
  omega
def plainB (n : Nt) : Bool := meq n.prev m0 && ((n.bytes.length : Int) == 0)
/-- May a note be? -/
def notedB (n : Nt) : Bool :=
  if (n.kind == 1 || n.kind == 2 || n.kind == 5) = true then decide (0 < n.view) && plainB n
  else if (n.kind == 4) = true then decide (0 < n.view) && meq n.prev m0 && decide (n.bytes.length ≤ 40000)
  else (n.kind == 3) && decide (0 < n.view) && decide (n.bytes.length ≤ 40000)
structure NtOk (n : Nt) : Prop where
  kind : i64Ok n.kind
  view : n.view < 4294967296
  mark : mkOk n.mark
  prev : mkOk n.prev
set_option maxHeartbeats 1000000 in
theorem bkNoted (w : World) (vb : Value) (n : Nt) (h : IsB w vb n.bytes) :
    Calls Tryd.prog 44 #[.agg #[.int .i64 n.kind, .int .u32 (n.view : Int), .int .u32 (n.mark.1 : Int), .int .u32 (n.mark.2 : Int), .int .u32 (n.prev.1 : Int), .int .u32 (n.prev.2 : Int), vb]] w fun e w' => e = .returned (.bool (notedB n)) ∧ Ext w w' := by
  obtain ⟨ao, cap, rfl, b1, m1, z1, g1⟩ := h.opened
  generalize hR : notedB n = R
  have HR := Lib.hid hR
  clear hR z1 g1 h
  have heq0 := mkEql0
  go_enter Tryd.func44, Tryd.ntmps44
  go_wp2_with fail
  all_goals clear heq0
  all_goals
    go_ret
    exact ⟨ret_bool (by rw [← HR.out]; simp [notedB, plainB, *]; try omega), (Ext.refl w).alloc _⟩
def u4 (x : Nat) : Value := .int .u32 (x : Int)
set_option maxHeartbeats 1000000 in
set_option maxRecDepth 100000 in
theorem bkNumbers (w : World) (v v2 : Value) (b : List UInt8) (l : List Nat) (h : IsB w v b) (h2 : IsSl w v2 1 l.length (l.map u4)) (hl : ∀ x ∈ l, x < 4294967296) (hn : 0 < l.length) (hb : b.length + 4 * l.length ≤ 100000) :
    Calls Tryd.prog 79 #[v, v2] w fun e w' => ∃ v', e = .returned v' ∧ w'.ownsRow w.heap.size 5 1 v' (b.length + 4 * l.length) ((b ++ l.flatMap (fun x => be x 4)).map bc) ∧ Ext w w' := by
  obtain ⟨hlen, ao, cap, rfl, b1, m1, z1, g1⟩ := h2
  go_enter Tryd.func79, Tryd.ntmps79
  go_wp2
  go_loopg [0, 9] l.length (fun g s0 s9 wr => ∃ k : Nat, k ≤ l.length ∧ l.length - k ≤ g ∧ s9 = .int .i64 (k : Int) ∧ IsB wr s0 (b ++ (l.take k).flatMap (fun x => be x 4)) ∧ (0 < k → wr.ownsRow w.heap.size 5 1 s0 (b.length + 4 * k) ((b ++ (l.take k).flatMap (fun x => be x 4)).map bc)) ∧ Ext w wr)
  case atStart => exact ⟨0, Nat.zero_le _, by omega, rfl, by simpa using h, fun h0 => absurd h0 (Nat.lt_irrefl _), Ext.refl _⟩
  case round =>
    obtain ⟨k, hk, hg, rfl, hB, hown, xr⟩ := hrel
    by_cases hlt : k < l.length
    · obtain ⟨pb, o, rfl, e0⟩ := g1 k (by simpa using hlt)
      have e0 : wr.cell? ⟨pb, o + k, none⟩ = some (.int .u32 (l[k] : Int)) := by
        have e1 : (l.map u4)[k]? = some (.int .u32 (l[k] : Int)) := by rw [List.getElem?_map, List.getElem?_eq_getElem hlt]; rfl
        rw [e1] at e0
        exact xr.cell e0
      have hst : (l.take (k + 1)).flatMap (fun x => be x 4) = (l.take k).flatMap (fun x => be x 4) ++ be l[k] 4 := by
        rw [List.take_succ_eq_append_getElem hlt, List.flatMap_append]; simp
      have hll : ((l.take k).flatMap (fun x => be x 4)).length = 4 * k := by
        rw [flat_lenU (fun x => be x 4) 4 _ (fun _ _ => be_length _ _), List.length_take]; omega
      have hx := hl _ (List.getElem_mem hlt)
      have HST := Lib.hid hst
      clear hst hown
      generalize (l.take k).flatMap (fun x => be x 4) = T at *
      generalize l[k] = x at *
      clear g1 z1
      go_wp2_with fail
      refine (octetPut32 _ _ (b ++ T) x hB hx (by simp; omega)).mono ?_
      rintro e w2 ⟨v', rfl, own2, x2⟩
      have own3 : w2.ownsRow w.heap.size 5 1 v' (b.length + 4 * (k + 1)) ((b ++ (T ++ be x 4)).map bc) := by
        have := ownsRow_base own2 xr.size
        rw [List.append_assoc] at this
        rw [show b.length + 4 * (k + 1) = (b ++ T).length + 4 from by simp; omega]
        exact this
      have HO := Lib.hid own3
      clear own2 own3 hB
      go_wp2_with fail
      go_roundg (l.length - (k + 1))
      case measure => omega
      case rel =>
        refine ⟨k + 1, by omega, by omega, by go_num, ?_, fun _ => ?_, xr.trans x2⟩
        · rw [HST.out]; exact IsB.of_owns HO.out
        · rw [HST.out]; exact HO.out
    · obtain rfl : k = l.length := by omega
      have ho := hown hn
      rw [List.take_length] at ho
      have HO := Lib.hid ho
      clear ho hown hB g1
      go_wp2
      go_ret
      exact ⟨_, rfl, HO.out, xr⟩
theorem sl_new {w : World} {e : TypeId} {c : Array Value} {n b : Nat} (xs : List Value) (hb : w.heap.size = b) (hn : xs.length = n) (hc : c.toList = xs) (hm : n ≤ 9223372036854775807) : IsSl (w.alloc (.cells c e)) (.slice (some ⟨b, 0, none⟩) n n) 1 n xs := by
  subst hn hb hc
  refine ⟨by omega, _, _, rfl, Nat.le_refl _, hm, (fun h => by cases h), fun i hi => ⟨_, 0, rfl, ?_⟩⟩
  rw [Nat.zero_add, World.cell?_alloc_new, Array.getElem?_toList]
theorem id_oneE (l : List UInt8) : (l.map bc).toArray.all (·.oneCell') = true := by
  rw [Array.all_eq_true_iff_forall_mem]; intro u hu; exact bc_one l u (by simpa using hu)
theorem sl_blk {w : World} {g n : Nat} {c : Array Value} {e : TypeId} {f : Nat × Nat} (h : w.heap[g]? = some (.cells c e f)) (xs : List Value) (hn : xs.length = n) (hc : c.toList = xs) (hm : n ≤ 9223372036854775807) : IsSl w (.slice (some ⟨g, 0, none⟩) n n) 1 n xs := by
  subst hn hc
  refine ⟨by omega, _, _, rfl, Nat.le_refl _, hm, (fun h => by cases h), fun i hi => ⟨_, 0, rfl, ?_⟩⟩
  rw [Nat.zero_add, block_cell h, Array.getElem?_toList]
theorem infoU32 : (Tryd.prog.info? 25).map (fun i => (i.zero, i.size, i.bytes)) = some (some (.int .u32 0), 1, 4) := by kernel_rfl
set_option maxHeartbeats 1000000 in
set_option maxRecDepth 100000 in
theorem bkLaid (w : World) (vb : Value) (n : Nt) (h : IsB w vb n.bytes) (ho : NtOk n) (hb : n.bytes.length ≤ 50000) (hK : Tabs w) :
    Calls Tryd.prog 45 #[.agg #[.int .i64 n.kind, .int .u32 (n.view : Int), .int .u32 (n.mark.1 : Int), .int .u32 (n.mark.2 : Int), .int .u32 (n.prev.1 : Int), .int .u32 (n.prev.2 : Int), vb]] w fun e w' => ∃ v', e = .returned v' ∧ w'.ownsRow w.heap.size 5 1 v' (encN n).length ((encN n).map bc) ∧ Ext w w' := by
  obtain ⟨ao, cap, rfl, b1, m1, z1, g1⟩ := h.opened
  obtain ⟨k, hk⟩ : ∃ k : Nat, n.kind % 256 = (k : Int) := ⟨(n.kind % 256).toNat, by omega⟩
  clear z1 g1
  go_enter Tryd.func45, Tryd.ntmps45
  go_wp2_with fail
  have hk256 : k < 256 := by omega
  have hs1 : IsB (((w.alloc (.cells #[.int .i64 n.kind, .int .u32 (n.view : Int), .int .u32 (n.mark.1 : Int), .int .u32 (n.mark.2 : Int), .int .u32 (n.prev.1 : Int), .int .u32 (n.prev.2 : Int), (.slice ao n.bytes.length cap)] 30)).alloc (.cells #[.int .u8 (k : Int)] 5)).alloc (.cells #[.int .u32 (n.view : Int), .int .u32 (n.mark.1 : Int), .int .u32 (n.mark.2 : Int), .int .u32 (n.prev.1 : Int), .int .u32 (n.prev.2 : Int), .int .u32 (n.bytes.length : Int)] 25)) (.slice (some ⟨w.heap.size + 1, 0, none⟩) 1 1) [UInt8.ofNat (n.kind % 256).toNat] :=
    (IsB.new _ (by simp) (by rfl) (by simp [hk, bc_ofNat]; omega) (by omega)).ext ((Ext.refl _).alloc _)
  have hs2 := sl_new (w := (w.alloc (.cells #[.int .i64 n.kind, .int .u32 (n.view : Int), .int .u32 (n.mark.1 : Int), .int .u32 (n.mark.2 : Int), .int .u32 (n.prev.1 : Int), .int .u32 (n.prev.2 : Int), (.slice ao n.bytes.length cap)] 30)).alloc (.cells #[.int .u8 (k : Int)] 5)) (e := 25) (n := 6) (b := w.heap.size + 1 + 1) (c := #[.int .u32 (n.view : Int), .int .u32 (n.mark.1 : Int), .int .u32 (n.mark.2 : Int), .int .u32 (n.prev.1 : Int), .int .u32 (n.prev.2 : Int), .int .u32 (n.bytes.length : Int)]) ([n.view, n.mark.1, n.mark.2, n.prev.1, n.prev.2, n.bytes.length].map u4) (by simp) rfl rfl (by omega)
  have hbn := blk_old (o := .cells #[.int .u32 (n.view : Int), .int .u32 (n.mark.1 : Int), .int .u32 (n.mark.2 : Int), .int .u32 (n.prev.1 : Int), .int .u32 (n.prev.2 : Int), .int .u32 (n.bytes.length : Int)] 25) (blk_old (o := .cells #[.int .u8 (k : Int)] 5) (heap_alloc_new w (.cells #[.int .i64 n.kind, .int .u32 (n.view : Int), .int .u32 (n.mark.1 : Int), .int .u32 (n.mark.2 : Int), .int .u32 (n.prev.1 : Int), .int .u32 (n.prev.2 : Int), (.slice ao n.bytes.length cap)] 30)))
  have hl : ∀ x ∈ [n.view, n.mark.1, n.mark.2, n.prev.1, n.prev.2, n.bytes.length], x < 4294967296 := by
    have h1 := ho.view; have h2 := ho.mark; have h3 := ho.prev
    unfold mkOk at h2 h3
    intro x hx
    simp only [List.mem_cons, List.not_mem_nil, or_false] at hx
    rcases hx with rfl | rfl | rfl | rfl | rfl | rfl <;> omega
  have X0 := (((Ext.refl w).alloc (.cells #[.int .i64 n.kind, .int .u32 (n.view : Int), .int .u32 (n.mark.1 : Int), .int .u32 (n.mark.2 : Int), .int .u32 (n.prev.1 : Int), .int .u32 (n.prev.2 : Int), (.slice ao n.bytes.length cap)] 30)).alloc (.cells #[.int .u8 (k : Int)] 5)).alloc (.cells #[.int .u32 (n.view : Int), .int .u32 (n.mark.1 : Int), .int .u32 (n.mark.2 : Int), .int .u32 (n.prev.1 : Int), .int .u32 (n.prev.2 : Int), .int .u32 (n.bytes.length : Int)] 25)
  refine (bkNumbers _ _ _ _ _ hs1 hs2 hl (by simp) (by simp)).mono ?_
  rintro e w1 ⟨v1, rfl, own1, x1⟩
  have X1 := X0.trans x1
  have hbn := x1.keeps hbn
  have own1 := ownsRow_base own1 X0.size
  clear hs1 hs2 hl X0 x1
  obtain ⟨B, hB⟩ : ∃ B, [UInt8.ofNat (n.kind % 256).toNat] ++ [n.view, n.mark.1, n.mark.2, n.prev.1, n.prev.2, n.bytes.length].flatMap (fun x => be x 4) = B := ⟨_, rfl⟩
  have hBl : B.length = 25 := by rw [← hB]; simp [be_length]
  have HBody := Lib.hid (show ntBody n = B ++ n.bytes by unfold ntBody; rw [hB])
  have HEnc := Lib.hid (show encN n = (B ++ n.bytes) ++ shaL (B ++ n.bytes) by unfold encN; rw [HBody.out])
  rw [hB] at own1
  have own1 : w1.ownsRow w.heap.size 5 1 v1 25 (B.map bc) := own1
  have hcn := block_all hbn
  have hx1 := h.ext X1
  clear hB HBody hk
  go_wp2_with (at_builtin; go_must (refine wp_app tyB rfl _ _ rfl w.heap.size _ 25 _ own1 (by rfl) _ n.bytes.length (n.bytes.map bc) hx1 (by rfl) (bc_one _) (by omega) (by omega) X1.size ?_); intro v2 w2 own2 gr2)
  have X2 := own_base own1 gr2 X1 (Nat.le_refl _)
  have own2 : w2.ownsRow w.heap.size 5 1 v2 (25 + n.bytes.length) ((B ++ n.bytes).map bc) := by rw [List.map_append]; exact own2
  have hLl : (B ++ n.bytes).length = 25 + n.bytes.length := by simp [hBl]
  generalize B ++ n.bytes = L at *
  clear own1 gr2 hcn hbn hx1 X1 hBl
  refine (shaSum _ v2 L (IsB.of_owns own2) (by omega) (hK.ext X2)).mono ?_
  rintro e w3 ⟨rfl, x3⟩
  have hSl := shaL_len L
  have own3 := ownsRow_ext own2 x3
  have X3 := X2.trans x3
  generalize shaL L = S at *
  have hfit : (Tryd.prog.info? 98).map (·.size) = some (S.map bc).toArray.size := by rw [List.size_toArray, List.length_map, hSl]; kernel_rfl
  have hone := id_oneE S
  have bz := heap_alloc_new w3 (.cells #[.int .u8 0, .int .u8 0, .int .u8 0, .int .u8 0, .int .u8 0, .int .u8 0, .int .u8 0, .int .u8 0, .int .u8 0, .int .u8 0, .int .u8 0, .int .u8 0, .int .u8 0, .int .u8 0, .int .u8 0, .int .u8 0, .int .u8 0, .int .u8 0, .int .u8 0, .int .u8 0, .int .u8 0, .int .u8 0, .int .u8 0, .int .u8 0, .int .u8 0, .int .u8 0, .int .u8 0, .int .u8 0, .int .u8 0, .int .u8 0, .int .u8 0, .int .u8 0] 98)
  have xz := (Ext.refl w3).alloc (.cells #[.int .u8 0, .int .u8 0, .int .u8 0, .int .u8 0, .int .u8 0, .int .u8 0, .int .u8 0, .int .u8 0, .int .u8 0, .int .u8 0, .int .u8 0, .int .u8 0, .int .u8 0, .int .u8 0, .int .u8 0, .int .u8 0, .int .u8 0, .int .u8 0, .int .u8 0, .int .u8 0, .int .u8 0, .int .u8 0, .int .u8 0, .int .u8 0, .int .u8 0, .int .u8 0, .int .u8 0, .int .u8 0, .int .u8 0, .int .u8 0, .int .u8 0, .int .u8 0] 98)
  have own4 := ownsRow_grown (ownsRow_ext own3 xz) (grown_setRow (w := w3.alloc (.cells #[.int .u8 0, .int .u8 0, .int .u8 0, .int .u8 0, .int .u8 0, .int .u8 0, .int .u8 0, .int .u8 0, .int .u8 0, .int .u8 0, .int .u8 0, .int .u8 0, .int .u8 0, .int .u8 0, .int .u8 0, .int .u8 0, .int .u8 0, .int .u8 0, .int .u8 0, .int .u8 0, .int .u8 0, .int .u8 0, .int .u8 0, .int .u8 0, .int .u8 0, .int .u8 0, .int .u8 0, .int .u8 0, .int .u8 0, .int .u8 0, .int .u8 0, .int .u8 0] 98)) (g := w3.heap.size) (c := (S.map bc).toArray)) (own_ne own3 (.inr (Nat.le_refl _)))
  have bz2 := setRow_heap _ _ _ (S.map bc).toArray _ _ bz
  have hs4 := sl_blk bz2 (S.map bc) (n := 32) (by simp [hSl]) (by simp) (by omega)
  have X4 := (X3.trans xz).grown (grown_setRow (g := w3.heap.size) (c := (S.map bc).toArray)) (fun k hk => by cases hk; exact X3.size)
  clear own2 own3 hK X2 x3 xz bz2
  go_wp2_with (first
    | ((with_reducible refine at_store 98 (.tmp 4) (.tmp 34) ?_); go_must (refine wpl_store rfl 98 (.tmp 4) (.tmp 34) rfl w3.heap.size (S.map bc).toArray (by rfl) (by rfl) 98 _ bz hfit (by simp [hSl]) hone ?_))
    | (at_builtin; go_must (refine wp_app tyB rfl _ _ rfl w.heap.size _ (25 + n.bytes.length) _ own4 (by rfl) _ 32 (S.map bc) hs4 (by rfl) (bc_one _) (by omega) (by omega) X4.size ?_); intro v5 w5 own5 gr5))
  go_ret
  refine ⟨v5, rfl, ?_, own_base own4 gr5 X4 (Nat.le_refl _)⟩
  rw [HEnc.out, List.map_append, List.length_append, hLl, hSl]
  exact own5
theorem noted_len {n : Nt} (h : notedB n = true) : n.bytes.length ≤ 40000 := by
  unfold notedB plainB at h
  by_cases c1 : (n.kind == 1 || n.kind == 2 || n.kind == 5) = true
  · rw [if_pos c1] at h
    simp only [Bool.and_eq_true, beq_iff_eq] at h
    omega
  · rw [if_neg c1] at h
    by_cases c2 : (n.kind == 4) = true
    · rw [if_pos c2] at h
      simp only [Bool.and_eq_true, decide_eq_true_eq] at h
      exact h.2
    · rw [if_neg c2] at h
      simp only [Bool.and_eq_true, decide_eq_true_eq] at h
      exact h.2
/-- What Encode gives. -/
def EncPost (w : World) (n : Nt) (e : Ending) (w' : World) : Prop :=
  Ext w w' ∧ ((notedB n = false ∧ e = .returned (.tuple #[.slice none 0 0, .int .i64 363])) ∨ (notedB n = true ∧ ∃ v', e = .returned (.tuple #[v', .int .i64 0]) ∧ w'.ownsRow w.heap.size 5 1 v' (encN n).length ((encN n).map bc)))
set_option maxHeartbeats 1000000 in
set_option maxRecDepth 100000 in
theorem bkEncode (w : World) (vb : Value) (n : Nt) (h : IsB w vb n.bytes) (ho : NtOk n) (hK : Tabs w) :
    Calls Tryd.prog 10 #[.agg #[.int .i64 n.kind, .int .u32 (n.view : Int), .int .u32 (n.mark.1 : Int), .int .u32 (n.mark.2 : Int), .int .u32 (n.prev.1 : Int), .int .u32 (n.prev.2 : Int), vb]] w (EncPost w n) := by
  have hb := heap_alloc_new w (.cells #[.int .i64 n.kind, .int .u32 (n.view : Int), .int .u32 (n.mark.1 : Int), .int .u32 (n.mark.2 : Int), .int .u32 (n.prev.1 : Int), .int .u32 (n.prev.2 : Int), vb] 30)
  have X := (Ext.refl w).alloc (.cells #[.int .i64 n.kind, .int .u32 (n.view : Int), .int .u32 (n.mark.1 : Int), .int .u32 (n.mark.2 : Int), .int .u32 (n.prev.1 : Int), .int .u32 (n.prev.2 : Int), vb] 30)
  have h1 := h.ext X
  obtain ⟨ao, cap, rfl, -⟩ := h.opened
  go_enter Tryd.func10, Tryd.ntmps10
  go_wp2_with fail
  refine (bkNoted _ _ n h1).mono ?_
  rintro e w1 ⟨rfl, x1⟩
  have hb := x1.keeps hb
  have hc := block_all hb
  have X := X.trans x1
  have h2 := h.ext X
  have HX := Lib.hid X
  have HKX := Lib.hid (hK.ext X)
  cases hN : notedB n with
  | false =>
    have HN := Lib.hid hN
    clear hN X hK
    go_wp2_with fail
    go_ret2
    exact ⟨HX.out, .inl ⟨HN.out, rfl⟩⟩
  | true =>
    have hl := noted_len hN
    have HN := Lib.hid hN
    clear h h1 hb hN X hK
    go_wp2_with fail
    refine (bkLaid _ _ n h2 ho (by omega) HKX.out).mono ?_
    rintro e w2 ⟨v2, rfl, own2, x2⟩
    have HO := Lib.hid own2
    clear own2
    go_wp2_with fail
    go_ret2
    exact ⟨HX.out.trans x2, .inr ⟨HN.out, v2, rfl, ownsRow_base HO.out HX.out.size⟩⟩
end Go.Proofs.YtkcddcomjbihgaaDoor
