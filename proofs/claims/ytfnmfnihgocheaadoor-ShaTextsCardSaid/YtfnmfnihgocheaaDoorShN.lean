/- The walk of sha's Parse. -/
import Derived.Test.YtfnmfnihgocheaaDoorShM
namespace Go.Proofs.YtfnmfnihgocheaaDoor
open Go.RowKit
set_option linter.unusedVariables false
set_option linter.unusedSimpArgs false

/-- The number of a digit; 16: it is none. -/
def digN (c : Nat) : Nat := if 48 ≤ c ∧ c ≤ 57 then c - 48 else if 97 ≤ c ∧ c ≤ 102 then c - 97 + 10 else 16
theorem digN_le (c : Nat) : digN c ≤ 16 := by unfold digN; split <;> (try split) <;> omega
theorem digN_get : ∀ c : Nat, c < 256 → ∀ k : Nat, k < 16 → (digN c = k ↔ (digS.getD k 0).toNat = c) := by decide +kernel
theorem digN_of {c k : Nat} (hc : c < 256) (hk : k < 16) (h : (digS.getD k 0).toNat = c) : k = digN c := ((digN_get c hc k hk).2 h).symm
theorem digN_none {c : Nat} (hc : c < 256) (h : ∀ k, k < 16 → (digS.getD k 0).toNat ≠ c) : 16 = digN c := by
  have h1 := digN_le c
  by_cases h2 : digN c < 16
  · exact absurd ((digN_get c hc _ h2).1 rfl) (h _ h2)
  · omega
/-- The byte i of a text. -/
def chr (s : ByteArray) (i : Nat) : Nat := (s.data.toList.getD i 0).toNat
theorem chr_lt (s : ByteArray) (i : Nat) : chr s i < 256 := UInt8.toNat_lt _
theorem chr_get (s : ByteArray) (i : Nat) (h : i < s.size) : s[i].toNat = chr s i := by
  unfold chr
  rw [List.getD_eq_getElem?_getD, List.getElem?_eq_getElem (by simpa using h)]
  rfl
/-- What is read of the first i digits. -/
def parL (s : ByteArray) : Nat → List UInt8
  | 0 => List.replicate 32 0
  | i + 1 => (parL s i).set (i / 2) (UInt8.ofNat (((parL s i).getD (i / 2) 0).toNat * 16 + digN (chr s i)))
theorem parL_len (s : ByteArray) : ∀ i, (parL s i).length = 32
  | 0 => rfl
  | i + 1 => by rw [parL, List.length_set]; exact parL_len s i
theorem bc_getD (l : List UInt8) (i : Nat) (h : i < l.length) : (l.map bc).toArray[i]? = some (.int .u8 ((l.getD i 0).toNat : Int)) := by
  simp [bc, h]
/-- Are the first n bytes digits? -/
def digsTo (s : ByteArray) (n : Nat) : Prop := ∀ j, j < n → digN (chr s j) < 16
/-- What a text is, read as a digest. -/
noncomputable def parseL (s : ByteArray) : Option (List UInt8) := by
  classical
  exact if s.size = 64 ∧ digsTo s 64 then some (parL s 64) else none
def parseV (r : Option (List UInt8)) : Value := .agg ((r.getD (List.replicate 32 0)).map bc).toArray
def parseE (r : Option (List UInt8)) : Int := if r.isSome then 0 else 130
theorem parse_yes {s : ByteArray} (h1 : s.size = 64) (h2 : digsTo s 64) : parseL s = some (parL s 64) := by
  unfold parseL; rw [if_pos ⟨h1, h2⟩]
theorem parse_no {s : ByteArray} (h : ¬ (s.size = 64 ∧ digsTo s 64)) : parseL s = none := by
  unfold parseL; rw [if_neg h]

theorem run_index_dig (w : World) (k : Nat) (hk : k < 16) :
    (Instr.index 9 (.string ⟨#[48, 49, 50, 51, 52, 53, 54, 55, 56, 57, 97, 98, 99, 100, 101, 102]⟩) (.int .i64 (k : Int))).run Tryd.prog w = .ok (.int .u8 ((digS.getD k 0).toNat : Int)) w := by
  have h := dig_get k hk
  have e : ((⟨#[48, 49, 50, 51, 52, 53, 54, 55, 56, 57, 97, 98, 99, 100, 101, 102]⟩ : ByteArray).size) = 16 := rfl
  simp [Instr.index, run_underlying Tryd.underlying9, asIntOf, go_sem, e, hk, h]
theorem run_index_str (w : World) (s : ByteArray) (k : Nat) (hk : k < s.size) :
    (Instr.index 9 (.string s) (.int .i64 (k : Int))).run Tryd.prog w = .ok (.int .u8 (chr s k : Int)) w := by
  simp [Instr.index, run_underlying Tryd.underlying9, asIntOf, go_sem, hk, chr_get]
theorem results_cell_tmp {P : Program} {fn : Func} {p q : Tmp} {ty : TypeId} (h : fn.results = #[.cell p ty, .tmp q]) (tmps : Array Value) (w : World) (g : Nat) (t : TypeId) (cs : Array Value) (fr : Nat × Nat) (d : TypeDesc)
    (hp : tmps.getD p undef = .pointer (some ⟨g, 0, none⟩)) (hg : w.heap[g]? = some (.cells cs t fr))
    (hu : P.underlying ty = some d) (hd : (match d with | .struct _ | .array _ _ => true | _ => false) = true) (hi : (P.info? ty).map (·.size) = some cs.size) :
    (results fn tmps).run P w = .ok (.tuple #[.agg cs, tmps.getD q undef]) w := by
  have hp' : tmps[p]?.getD undef = .pointer (some ⟨g, 0, none⟩) := by simpa using hp
  simp [results, h, hp', asAddr, run_loadVar_row w g t ty cs fr d hg hu hd hi]
theorem id_size {l : List UInt8} (h : l.length = 32) : (Tryd.prog.info? 25).map (·.size) = some (l.map bc).toArray.size := by
  rw [List.size_toArray, List.length_map, h]; kernel_rfl
theorem id_one (l : List UInt8) : (l.map bc).toArray.all (·.oneCell') = true := by
  rw [Array.all_eq_true_iff_forall_mem]; intro u hu; exact bc_one l u (by simpa using hu)
theorem id_same {a b : List UInt8} (h : a.length = 32) (k : b.length = 32) : (a.map bc).toArray.size = (b.map bc).toArray.size := by simp [h, k]
/-- The zero digest. -/
def z32 : List UInt8 := List.replicate 32 0
theorem parse_shl (x k : Nat) (hx : x < 256) (hk : k < 16) : bits BinOp.or IntKind.u8 ((x : Int) * 16 % 256) (k : Int) = ((x * 16 + k : Nat) : Int) % 256 := by
  have e1 : ((x : Int) * 16 % 256) = (((x % 16) * 16 : Nat) : Int) := by omega
  have h : ∀ a : Nat, a < 16 → ∀ k : Nat, k < 16 → bits BinOp.or IntKind.u8 ((a * 16 : Nat) : Int) (k : Int) = ((a * 16 + k : Nat) : Int) := by decide +kernel
  rw [e1, h (x % 16) (by omega) k hk]
  omega

set_option maxHeartbeats 4000000 in
set_option maxRecDepth 100000 in
theorem shaParse (w : World) (s : ByteArray) (hs : s.size ≤ 9223372036854775807) :
    Calls Tryd.prog 24 #[.string s] w fun e w' => e = .returned (.tuple #[parseV (parseL s), .int .i64 (parseE (parseL s))]) ∧ Ext w w' := by
  by_cases h64 : s.size = 64
  · go_enter Tryd.func24, Tryd.ntmps24
    go_wp2_with fail
    have b0 := blk_old (o := .cells (z32.map bc).toArray 25) (heap_alloc_new w (.cells (z32.map bc).toArray 25))
    have b1 := blk_new (w := w.alloc (.cells (z32.map bc).toArray 25)) (b := w.heap.size + 1) (o := .cells (z32.map bc).toArray 25) (by simp)
    have X1 : Ext w ((w.alloc (.cells (z32.map bc).toArray 25)).alloc (.cells (z32.map bc).toArray 25)) := ((Ext.refl w).alloc _).alloc _
    generalize hG : w.heap.size = G at *
    go_loopg [11] 64 (fun g s11 wr => ∃ k : Nat, k ≤ 64 ∧ 64 - k ≤ g ∧ s11 = .int .i64 k ∧ digsTo s k ∧ wr.heap[G]? = some (.cells (z32.map bc).toArray 25 (0, 0)) ∧ wr.heap[G + 1]? = some (.cells ((parL s k).map bc).toArray 25 (0, 0)) ∧ Ext w wr)
    case atStart => exact ⟨0, Nat.zero_le _, by omega, rfl, fun j hj => absurd hj (by omega), b0, b1, X1⟩
    case round =>
      clear b0 b1 X1
      obtain ⟨i, hi, hg, rfl, hdig, b0, b1, xr⟩ := hrel
      by_cases hlt : i < 64
      · have hP : parL s (i + 1) = (parL s i).set (i / 2) (UInt8.ofNat (((parL s i).getD (i / 2) 0).toNat * 16 + digN (chr s i))) := rfl
        have hc := chr_lt s i
        have hix := fun w => run_index_str w s i (by omega)
        generalize hcc : chr s i = c at *
        have HCC := Lib.hid hcc
        clear hcc
        have HP := Lib.hid hP
        have HB0 := Lib.hid b0
        have HB1 := Lib.hid b1
        have HD := Lib.hid hdig
        have H64 := Lib.hid h64
        have HG := Lib.hid hG
        clear hP b0 b1 hdig h64 hG
        obtain ⟨a, ha⟩ : ∃ a : Nat, i / 2 = a := ⟨_, rfl⟩
        have ha32 : a < 32 := by omega
        have e1 : ((i : Int)).tdiv 2 = (a : Int) := by rw [Int.tdiv_eq_ediv_of_nonneg (by omega)]; omega
        have e2 : ((i : Int)) / 2 = (a : Int) := by omega
        have hcell : wr.cell? ⟨G + 1, a, none⟩ = some (.int .u8 (((parL s i).getD a 0).toNat : Int)) := by rw [block_cell HB1.out]; exact bc_getD _ _ (by rw [parL_len]; omega)
        have hfree := block_free HB1.out a
        have hx := UInt8.toNat_lt ((parL s i).getD a 0)
        have hP := HP.out
        rw [ha] at hP
        generalize ((parL s i).getD a 0).toNat = x at *
        have HP := Lib.hid hP
        clear hP ha
        go_wp2_with fail
        obtain ⟨wo, rfl⟩ : ∃ wo : World, wo = wr := ⟨_, rfl⟩
        go_loopg [6] 16 (fun g s6 wr => ∃ k q : Nat, k ≤ 16 ∧ 16 - k ≤ g ∧ s6 = .int .i64 k ∧ (∀ j, j < k → (digS.getD j 0).toNat ≠ c) ∧ wr = wo.drewN q)
        case atStart => exact ⟨0, 0, by omega, by omega, rfl, fun j hj => absurd hj (by omega), rfl⟩
        case round =>
          obtain ⟨k, q, hk, hgk, rfl, hno, rfl⟩ := hrel
          have HNO := Lib.hid hno
          clear hno
          by_cases hk16 : k < 16
          · have hkI : (k : Int) < 16 := by omega
            have hik := fun w => run_index_dig w k hk16
            by_cases he : (digS.getD k 0).toNat = c
            · have hkc := digN_of hc hk16 he
              have hd16 : digN c < 16 := by omega
              generalize (digS.getD k 0).toNat = dk at *
              subst he
              have heq : ((dk : Int) != (dk : Int)) = false := by simp
              have hsh := parse_shl x k (by omega) hk16
              have HKC := Lib.hid hkc
              have HSH := Lib.hid hsh
              have hk256 : (k : Int) % 256 = k := by omega
              clear hkc hsh
              go_wp2_with fail
              go_quiet (fail)
              go_wp2_with fail
              go_roundg (64 - (i + 1))
              case measure => omega
              case rel =>
                have hG := HG.out
                have hb1 := block_setCell (((Ext.refl wo).drewN (q + nq)).keeps HB1.out) (i := a) (bc (UInt8.ofNat (x * 16 + k)))
                rw [map_set, HKC.out, ← HP.out, ← HKC.out] at hb1
                refine ⟨i + 1, by omega, by omega, by go_num, ?_, set_other (((Ext.refl wo).drewN (q + nq)).keeps HB0.out) (by omega), ?_, (xr.drewN (q + nq)).setCell (p := ⟨_, _, none⟩) (by simp only; omega) _⟩
                · intro j hj
                  by_cases hji : j = i
                  · subst hji; rw [HCC.out]; exact hd16
                  · exact HD.out j (by omega)
                · rw [← hb1, bc_ofNat, ← HSH.out]
            · generalize hdk : (digS.getD k 0).toNat = dk at *
              have HDK := Lib.hid hdk
              clear hdk
              have hne : ((dk : Int) != (c : Int)) = true := by rw [bne_iff_ne]; omega
              have HHE := Lib.hid he
              clear he
              go_wp2_with fail
              go_quiet (fail)
              go_wp2_with fail
              go_roundg (16 - (k + 1))
              case measure => omega
              case rel =>
                refine ⟨k + 1, q + nq, by omega, by omega, by go_num, ?_, rfl⟩
                intro j hj
                by_cases hjk : j = k
                · subst hjk; rw [HDK.out]; exact HHE.out
                · exact HNO.out j (by omega)
          · obtain rfl : k = 16 := by omega
            have hb0 := ((Ext.refl wo).drewN q).keeps HB0.out
            have hl : z32.length = 32 := rfl
            go_wp2_with fail
            go_quiet (fail)
            go_wp2_with (refine wpList_store_row rfl 25 (.tmp 2) (.tmp 28) rfl G (z32.map bc).toArray (by rfl) (by rfl) 25 _ (((Ext.refl _).drewN _).keeps hb0) (id_size hl) (id_same rfl hl) (id_one _) ?_)
            have hG := HG.out
            have hnn := parse_no (s := s) (fun h => by
              have h1 := h.2 i hlt
              rw [HCC.out, ← digN_none hc HNO.out] at h1
              omega)
            have hfin : ((wo.drewN (q + nq)).setRow G (z32.map bc).toArray).heap[G]? = some (.cells (z32.map bc).toArray 25 (0, 0)) := setRow_heap _ _ _ _ _ _ (((Ext.refl _).drewN _).keeps HB0.out)
            have xfin : Ext w ((wo.drewN (q + nq)).setRow G (z32.map bc).toArray) := (xr.drewN _).grown grown_setRow (fun k hk => by cases hk; omega)
            refine bodyPost_ret (results_cell_tmp rfl _ _ G _ _ _ _ (by rfl) hfin Tryd.underlying25 rfl (id_size hl)) rfl ⟨?_, xfin⟩
            rw [hnn]
            rfl
      · obtain rfl : i = 64 := by omega
        have hy := parse_yes h64 hdig
        have HY := Lib.hid hy
        have hl := parL_len s 64
        generalize parL s 64 = R at *
        have HG := Lib.hid hG
        clear hy h64 hdig hG
        go_wp2_with (first
          | (refine wpList_load_row rfl 25 (.tmp 4) rfl (G + 1) (by rfl) 25 (R.map bc).toArray (0, 0) _ b1 Tryd.underlying25 rfl (id_size hl) ?_)
          | (refine wpList_store_row rfl 25 (.tmp 2) (.tmp 41) rfl G (R.map bc).toArray (by rfl) (by rfl) 25 _ b0 (id_size hl) (id_same rfl hl) (id_one _) ?_))
        have hfin : (wr.setRow G (R.map bc).toArray).heap[G]? = some (.cells (R.map bc).toArray 25 (0, 0)) := setRow_heap _ _ _ _ _ _ b0
        have hG := HG.out
        have xfin : Ext w (wr.setRow G (R.map bc).toArray) := xr.grown grown_setRow (fun k hk => by cases hk; omega)
        refine bodyPost_ret (results_cell_tmp rfl _ _ G _ _ _ _ (by rfl) hfin Tryd.underlying25 rfl (id_size hl)) rfl ⟨?_, xfin⟩
        rw [HY.out]
        rfl
  · have hn := parse_no (s := s) (fun h => h64 h.1)
    rw [hn]
    have hne : ((s.size : Int) != 64) = true := by rw [bne_iff_ne]; omega
    have hl : z32.length = 32 := rfl
    go_enter Tryd.func24, Tryd.ntmps24
    go_wp2_with (first
      | (refine wpList_load_row rfl 25 (.tmp 4) rfl (w.heap.size + 1) (by rfl) 25 (z32.map bc).toArray (0, 0) _ (blk_new (by simp)) Tryd.underlying25 rfl (id_size hl) ?_)
      | (refine wpList_store_row rfl 25 (.tmp 2) (.tmp 10) rfl w.heap.size (z32.map bc).toArray (by rfl) (by rfl) 25 _ (blk_old (heap_alloc_new w (.cells (z32.map bc).toArray 25))) (id_size hl) (id_same hl hl) (id_one _) ?_))
    have hfin := setRow_heap _ w.heap.size (z32.map bc).toArray (z32.map bc).toArray 25 (0, 0) (blk_old (o := .cells (z32.map bc).toArray 25) (heap_alloc_new w (.cells (z32.map bc).toArray 25)))
    exact bodyPost_ret (results_cell_tmp rfl _ _ w.heap.size _ _ _ _ (by rfl) hfin Tryd.underlying25 rfl (id_size hl)) rfl ⟨rfl, (((Ext.refl w).alloc _).alloc _).grown grown_setRow (fun k hk => by cases hk; omega)⟩
end Go.Proofs.YtfnmfnihgocheaaDoor
