/- Backup: the note of bytes: Decode. -/
import Derived.Test.YtkcddcomjbihgaaDoorBkQ
namespace Go.Proofs.YtkcddcomjbihgaaDoor
open Go.RowKit
set_option linter.unusedVariables false
set_option linter.unusedSimpArgs false

def nF (b : List UInt8) (i : Nat) : Nat := num ((b.drop i).take 4)
theorem nF_lt (b : List UInt8) (i : Nat) : nF b i < 4294967296 := by
  have := num_small ((b.drop i).take 4) 4 (by simp; omega)
  unfold nF
  omega
theorem rdU32 (w : World) (g : Nat) (l : List UInt8) (at_ : Nat) (h : IsRd w g l at_ 0) (hl : at_ + 4 ≤ l.length) :
    Calls Tryd.prog 50 #[.pointer (some ⟨g, 0, none⟩)] w fun e w' => e = .returned (.int .u32 (nF l at_ : Int)) ∧ IsRd w' g l (at_ + 4) 0 ∧ w.grownBy w' (some g) := by
  refine (octetU32 w g l at_ 0 h).mono ?_
  obtain ⟨e1, e2⟩ := rd_ok (l := l) (at_ := at_) (m := 4) (by omega)
  rintro e w' ⟨rfl, h1, h2⟩
  rw [show rNext l at_ 0 4 = (at_ + 4, 0) from e1] at h1
  exact ⟨ret_int (by unfold nF; rw [← e2]; rfl), h1, h2⟩
theorem rdU8 (w : World) (g : Nat) (l : List UInt8) (at_ : Nat) (h : IsRd w g l at_ 0) (hl : at_ + 1 ≤ l.length) :
    Calls Tryd.prog 49 #[.pointer (some ⟨g, 0, none⟩)] w fun e w' => e = .returned (.int .u8 (num ((l.drop at_).take 1) : Int)) ∧ IsRd w' g l (at_ + 1) 0 ∧ w.grownBy w' (some g) := by
  refine (octetU8 w g l at_ 0 h).mono ?_
  obtain ⟨e1, e2⟩ := rd_ok (l := l) (at_ := at_) (m := 1) (by omega)
  rintro e w' ⟨rfl, h1, h2⟩
  rw [show rNext l at_ 0 1 = (at_ + 1, 0) from e1] at h1
  exact ⟨ret_int (by rw [← e2]; rfl), h1, h2⟩
def kF (b : List UInt8) : Nat := num ((b.drop 0).take 1)
theorem kF_lt (b : List UInt8) : kF b < 256 := by
  have := num_small ((b.drop 0).take 1) 1 (by simp; omega)
  unfold kF
  omega
theorem rdKind (w : World) (g : Nat) (l : List UInt8) (h : IsRd w g l 0 0) (hl : 1 ≤ l.length) :
    Calls Tryd.prog 49 #[.pointer (some ⟨g, 0, none⟩)] w fun e w' => e = .returned (.int .u8 (kF l : Int)) ∧ IsRd w' g l 1 0 ∧ w.grownBy w' (some g) :=
  rdU8 w g l 0 h (by omega)
def decH (b : List UInt8) : Nt := ⟨(kF b : Int), nF b 1, (nF b 5, nF b 9), (nF b 13, nF b 17), []⟩
/-- The note in bytes. -/
def decN (b : List UInt8) : Nt := ⟨(kF b : Int), nF b 1, (nF b 5, nF b 9), (nF b 13, nF b 17), (b.take (b.length - 32)).drop 25⟩
def decErr (b : List UInt8) : Int :=
  if b.length < 57 then 7 else if b.length - 57 < nF b 21 then 7 else if (shaL (b.take (b.length - 32)) == b.drop (b.length - 32)) = false then 364
  else if b.length - 57 ≠ nF b 21 ∨ notedB (decN b) = false then 363 else 0
def n0 : Nt := ⟨0, 0, (0, 0), (0, 0), []⟩
/-- What Decode gives. -/
def DecPost (w : World) (b : List UInt8) (e : Ending) (w' : World) : Prop :=
  Ext w w' ∧ ((decErr b ≠ 0 ∧ e = .returned (.tuple #[.agg #[.int .i64 n0.kind, .int .u32 (n0.view : Int), .int .u32 (n0.mark.1 : Int), .int .u32 (n0.mark.2 : Int), .int .u32 (n0.prev.1 : Int), .int .u32 (n0.prev.2 : Int), (.slice none 0 0)], .int .i64 (decErr b)]))
    ∨ (decErr b = 0 ∧ ∃ vb, e = .returned (.tuple #[.agg #[.int .i64 (decN b).kind, .int .u32 ((decN b).view : Int), .int .u32 ((decN b).mark.1 : Int), .int .u32 ((decN b).mark.2 : Int), .int .u32 ((decN b).prev.1 : Int), .int .u32 ((decN b).prev.2 : Int), vb], .int .i64 0]) ∧ OwnB w' w.heap.size vb (decN b).bytes))
theorem dec_err {w : World} {b : List UInt8} {z : Int} (h : decErr b = z) (hz : z ≠ 0) {w' : World} (x : Ext w w') : DecPost w b (.returned (.tuple #[.agg #[.int .i64 n0.kind, .int .u32 (n0.view : Int), .int .u32 (n0.mark.1 : Int), .int .u32 (n0.mark.2 : Int), .int .u32 (n0.prev.1 : Int), .int .u32 (n0.prev.2 : Int), (.slice none 0 0)], .int .i64 z])) w' :=
  ⟨x, .inl ⟨by rw [h]; exact hz, by rw [h]⟩⟩
theorem decN_ok (b : List UInt8) : NtOk (decN b) := by
  refine ⟨?_, nF_lt _ _, ⟨nF_lt _ _, nF_lt _ _⟩, ⟨nF_lt _ _, nF_lt _ _⟩⟩
  have := kF_lt b
  show i64Ok (kF b : Int)
  unfold i64Ok
  omega
theorem nt_one (a : Option Addr) (l c : Nat) (n : Nt) : (#[.int .i64 n.kind, .int .u32 (n.view : Int), .int .u32 (n.mark.1 : Int), .int .u32 (n.mark.2 : Int), .int .u32 (n.prev.1 : Int), .int .u32 (n.prev.2 : Int), (.slice a l c)] : Array Value).all (·.oneCell') = true := by simp [Value.oneCell']
set_option maxHeartbeats 1000000 in
set_option maxRecDepth 100000 in
theorem bkDecode (w : World) (v : Value) (b : List UInt8) (h : IsB w v b) (hb : b.length ≤ 1000000) (hK : Tabs w) :
    Calls Tryd.prog 14 #[v] w (DecPost w b) := by
  have bZ := heap_alloc_new w (.cells #[.int .i64 n0.kind, .int .u32 (n0.view : Int), .int .u32 (n0.mark.1 : Int), .int .u32 (n0.mark.2 : Int), .int .u32 (n0.prev.1 : Int), .int .u32 (n0.prev.2 : Int), (.slice none 0 0)] 30)
  have X := (Ext.refl w).alloc (.cells #[.int .i64 n0.kind, .int .u32 (n0.view : Int), .int .u32 (n0.mark.1 : Int), .int .u32 (n0.mark.2 : Int), .int .u32 (n0.prev.1 : Int), .int .u32 (n0.prev.2 : Int), (.slice none 0 0)] 30)
  have hB := h.ext X
  obtain ⟨ao, cap, rfl, b1, m1, z1, g1⟩ := h.opened
  have HX := Lib.hid X
  have HB := Lib.hid hB
  have H0 := Lib.hid h
  clear X hB h
  by_cases h57 : b.length < 57
  · clear g1
    have HE := Lib.hid (show decErr b = 7 by unfold decErr; rw [if_pos h57])
    have q : (b.length : Int) < 57 := by omega
    clear h57
    go_enter Tryd.func14, Tryd.ntmps14
    go_wp2_with (((with_reducible refine at_store 30 (.tmp 2) (.tmp 13) ?_); go_must (refine wpl_store rfl 30 (.tmp 2) (.tmp 13) rfl w.heap.size #[.int .i64 n0.kind, .int .u32 (n0.view : Int), .int .u32 (n0.mark.1 : Int), .int .u32 (n0.mark.2 : Int), .int .u32 (n0.prev.1 : Int), .int .u32 (n0.prev.2 : Int), (.slice none 0 0)] (by rfl) (by rfl) 30 _ bZ (by kernel_rfl) rfl (nt_one _ _ _ _) ?_); rw [setRow_self _ w.heap.size _ _ _ bZ]))
    exact bodyPost_ret (results_cell_tmp (p := 2) (q := 3) rfl _ _ w.heap.size _ _ _ _ (by rfl) bZ Tryd.underlying30 rfl (by kernel_rfl)) rfl (dec_err HE.out (by omega) HX.out)
  · obtain ⟨k, hk⟩ : ∃ k, b.length = k + 32 := ⟨b.length - 32, by omega⟩
    have q : ¬ (b.length : Int) < 57 := by omega
    have HK57 := Lib.hid h57
    have hn57 : 57 ≤ b.length := by omega
    have HKK := Lib.hid hk
    obtain ⟨pb, po, rfl, -⟩ := g1 0 (by omega)
    clear g1
    clear h57 hk
    go_enter Tryd.func14, Tryd.ntmps14
    go_upto_region 4 with (go_at_call 48; go_must (refine (octetRead _ _ b HB.out (by omega)).mono ?_); rintro e w1 ⟨g, rfl, hg, hR, x1⟩)
    have hgz : w.heap.size < g := by have := hg; simp at this; omega
    have bZ := x1.keeps bZ
    have HX := Lib.hid (HX.out.trans x1)
    have l0 := kF_lt b
    have l21 : (nF b 21 : Int) < 4294967296 := by have := nF_lt b 21; omega
    clear hg x1 HB
    go_wp2_with fail
    refine (rdKind _ g b hR (by omega)).mono ?_
    rintro e w2 ⟨rfl, hR, gr⟩
    have bZ := grown_other gr bZ (by omega)
    have HX := Lib.hid (HX.out.grown gr (fun k hk => by cases hk; omega))
    clear gr
    go_wp2_with fail
    refine (rdU32 _ g b 1 hR (by omega)).mono ?_
    rintro e w3 ⟨rfl, hR, gr⟩
    have bZ := grown_other gr bZ (by omega)
    have HX := Lib.hid (HX.out.grown gr (fun k hk => by cases hk; omega))
    clear gr
    go_wp2_with fail
    refine (rdU32 _ g b 5 hR (by omega)).mono ?_
    rintro e w4 ⟨rfl, hR, gr⟩
    have bZ := grown_other gr bZ (by omega)
    have HX := Lib.hid (HX.out.grown gr (fun k hk => by cases hk; omega))
    clear gr
    go_wp2_with fail
    refine (rdU32 _ g b 9 hR (by omega)).mono ?_
    rintro e w5 ⟨rfl, hR, gr⟩
    have bZ := grown_other gr bZ (by omega)
    have HX := Lib.hid (HX.out.grown gr (fun k hk => by cases hk; omega))
    clear gr
    go_wp2_with fail
    refine (rdU32 _ g b 13 hR (by omega)).mono ?_
    rintro e w6 ⟨rfl, hR, gr⟩
    have bZ := grown_other gr bZ (by omega)
    have HX := Lib.hid (HX.out.grown gr (fun k hk => by cases hk; omega))
    clear gr
    go_wp2_with fail
    refine (rdU32 _ g b 17 hR (by omega)).mono ?_
    rintro e w7 ⟨rfl, hR, gr⟩
    have bZ := grown_other gr bZ (by omega)
    have HX := Lib.hid (HX.out.grown gr (fun k hk => by cases hk; omega))
    clear gr
    go_upto_region 5 with (((with_reducible refine at_store 30 (.tmp 5) (.tmp 31) ?_); go_must (refine wpl_store rfl 30 (.tmp 5) (.tmp 31) rfl w7.heap.size #[.int .i64 (decH b).kind, .int .u32 ((decH b).view : Int), .int .u32 ((decH b).mark.1 : Int), .int .u32 ((decH b).mark.2 : Int), .int .u32 ((decH b).prev.1 : Int), .int .u32 ((decH b).prev.2 : Int), (.slice none 0 0)] (by rfl) (by rfl) 30 _ (heap_alloc_new w7 _) (by kernel_rfl) rfl (nt_one _ _ _ _) ?_)))
    have hg7 : g < w7.heap.size := by obtain ⟨_, _, _, h3, _⟩ := hR; exact block_lt h3
    have hX7 := HX.out.size
    refine wp_forget (fun W => Ext w W ∧ IsRd W g b 21 0 ∧ W.heap[w.heap.size]? = some (.cells #[.int .i64 n0.kind, .int .u32 (n0.view : Int), .int .u32 (n0.mark.1 : Int), .int .u32 (n0.mark.2 : Int), .int .u32 (n0.prev.1 : Int), .int .u32 (n0.prev.2 : Int), (.slice none 0 0)] 30 (0, 0)) ∧ W.heap[w7.heap.size]? = some (.cells #[.int .i64 (decH b).kind, .int .u32 ((decH b).view : Int), .int .u32 ((decH b).mark.1 : Int), .int .u32 ((decH b).mark.2 : Int), .int .u32 ((decH b).prev.1 : Int), .int .u32 ((decH b).prev.2 : Int), (.slice none 0 0)] 30 (0, 0))) ⟨(HX.out.alloc _).grown grown_setRow (fun k hk => by cases hk; exact hX7), (hR.ext ((Ext.refl w7).alloc _)).later grown_setRow hg7, grown_other grown_setRow (blk_old bZ) (by omega), setRow_heap _ _ _ _ _ _ (heap_alloc_new w7 _)⟩ ?_
    rintro W ⟨X, hR, bZ, b5⟩
    obtain ⟨B5, hB5⟩ : ∃ x, x = w7.heap.size := ⟨_, rfl⟩
    rw [← hB5] at b5 hX7 hg7
    rw [← hB5]
    clear hB5 HX
    have HX := Lib.hid X
    clear X
    go_wp2_with fail
    refine (rdU32 _ g b 21 hR (by omega)).mono ?_
    rintro e w8 ⟨rfl, hR, gr⟩
    have bZ := grown_other gr bZ (by omega)
    have b5 := grown_other gr b5 (by omega)
    have HX := Lib.hid (HX.out.grown gr (fun k hk => by cases hk; omega))
    clear gr hR
    go_upto_region 6 with fail
    go_cut [7, 8] from 35 to 44 (fun t7 t8 wx => t7 = .slice (some ⟨pb, po, none⟩) k cap ∧ t8 = .slice (some ⟨pb, po + k, none⟩) 32 (cap - k) ∧ Ext w8 wx)
    case first =>
      have e1 : (b.length : Int) - 32 = (k : Int) := by have := HKK.out; omega
      have e2 : b.length - k = 32 := by have := HKK.out; omega
      have e3 : ¬ cap = k := by have := HKK.out; omega
      have e4 : (0 : Int) ≤ (k : Int) := by omega
      have e5 : k ≤ cap := by have := HKK.out; omega
      have e6 : k ≤ b.length := by have := HKK.out; omega
      have e7 : IntKind.i64.wrap (k : Int) = (k : Int) := IntWalk.i64_in _ (by have := HKK.out; omega)
      have e8 : (k : Int) ≤ (cap : Int) := by omega
      have e9 : (k : Int) ≤ (b.length : Int) := by omega
      clear bZ b5
      refine wp_region_G 11 (fun v => Ext w8 v) (by kernel_rfl) fun wd hqd hHeld => ?_
      refine G_pure (i := 0) (u := ?va0) rfl (by kernel_rfl) (by kernel_rfl) (by kernel_rfl) (fun _ _ _ h => h) (by decide) (Or.inl ⟨by rfl, ?hya0⟩) hHeld ?_
      case hya0 => (intro w hSw; go_simp; try with_reducible rfl)
      simp only [Act.put, List.setIfInBounds_toArray, List.set_cons_zero, List.set_cons_succ, List.getElem_toArray, List.getElem_cons_zero, List.getElem_cons_succ]
      refine G_pure (i := 1) (u := ?va1) rfl (by kernel_rfl) (by kernel_rfl) (by kernel_rfl) (fun _ _ _ h => h) (by decide) (Or.inl ⟨by rfl, ?hya1⟩) hHeld ?_
      case hya1 => (intro w hSw; go_simp; try with_reducible rfl)
      simp only [Act.put, List.setIfInBounds_toArray, List.set_cons_zero, List.set_cons_succ, List.getElem_toArray, List.getElem_cons_zero, List.getElem_cons_succ]
      refine G_take (i := 2) (u := ?va2) rfl (by kernel_rfl) (by kernel_rfl) (by kernel_rfl) (fun _ _ _ h => h) rfl (by kernel_rfl) (by decide) (by rfl) (Or.inl ⟨by rfl, ?hya2⟩) hHeld ?_
      case hya2 => (intro w hSw; go_simp; try with_reducible rfl)
      simp only [Act.put, List.setIfInBounds_toArray, List.set_cons_zero, List.set_cons_succ, List.getElem_toArray, List.getElem_cons_zero, List.getElem_cons_succ]
      refine G_pure (i := 3) (u := ?va3) rfl (by kernel_rfl) (by kernel_rfl) (by kernel_rfl) (fun _ _ _ h => h) (by decide) (Or.inl ⟨by rfl, ?hya3⟩) hHeld ?_
      case hya3 => (intro w hSw; go_simp; try with_reducible rfl)
      simp only [Act.put, List.setIfInBounds_toArray, List.set_cons_zero, List.set_cons_succ, List.getElem_toArray, List.getElem_cons_zero, List.getElem_cons_succ]
      refine G_pure (i := 4) (u := ?va4) rfl (by kernel_rfl) (by kernel_rfl) (by kernel_rfl) (fun _ _ _ h => h) (by decide) (Or.inl ⟨by rfl, ?hya4⟩) hHeld ?_
      case hya4 => (intro w hSw; go_simp; try with_reducible rfl)
      simp only [Act.put, List.setIfInBounds_toArray, List.set_cons_zero, List.set_cons_succ, List.getElem_toArray, List.getElem_cons_zero, List.getElem_cons_succ]
      refine G_pure (i := 5) (u := ?va5) rfl (by kernel_rfl) (by kernel_rfl) (by kernel_rfl) (fun _ _ _ h => h) (by decide) (Or.inl ⟨by rfl, ?hya5⟩) hHeld ?_
      case hya5 => (intro w hSw; go_simp; try with_reducible rfl)
      simp only [Act.put, List.setIfInBounds_toArray, List.set_cons_zero, List.set_cons_succ, List.getElem_toArray, List.getElem_cons_zero, List.getElem_cons_succ]
      refine G_pure (i := 6) (u := ?va6) rfl (by kernel_rfl) (by kernel_rfl) (by kernel_rfl) (fun _ _ _ h => h) (by decide) (Or.inl ⟨by rfl, ?hya6⟩) hHeld ?_
      case hya6 => (intro w hSw; go_simp; try with_reducible rfl)
      simp only [Act.put, List.setIfInBounds_toArray, List.set_cons_zero, List.set_cons_succ, List.getElem_toArray, List.getElem_cons_zero, List.getElem_cons_succ]
      refine G_take (i := 7) (u := ?va7) rfl (by kernel_rfl) (by kernel_rfl) (by kernel_rfl) (fun _ _ _ h => h) rfl (by kernel_rfl) (by decide) (by rfl) (Or.inl ⟨by rfl, ?hya7⟩) hHeld ?_
      case hya7 => (intro w hSw; go_simp; try with_reducible rfl)
      simp only [Act.put, List.setIfInBounds_toArray, List.set_cons_zero, List.set_cons_succ, List.getElem_toArray, List.getElem_cons_zero, List.getElem_cons_succ]
      refine G_pure (i := 8) (u := ?va8) rfl (by kernel_rfl) (by kernel_rfl) (by kernel_rfl) (fun _ _ _ h => h) (by decide) (Or.inl ⟨by rfl, ?hya8⟩) hHeld ?_
      case hya8 => (intro w hSw; go_simp; try with_reducible rfl)
      simp only [Act.put, List.setIfInBounds_toArray, List.set_cons_zero, List.set_cons_succ, List.getElem_toArray, List.getElem_cons_zero, List.getElem_cons_succ]
      refine G_pure (i := 9) (u := ?va9) rfl (by kernel_rfl) (by kernel_rfl) (by kernel_rfl) (fun _ _ _ h => h) (by decide) (Or.inl ⟨by rfl, ?hya9⟩) hHeld ?_
      case hya9 => (intro w hSw; go_simp; try with_reducible rfl)
      simp only [Act.put, List.setIfInBounds_toArray, List.set_cons_zero, List.set_cons_succ, List.getElem_toArray, List.getElem_cons_zero, List.getElem_cons_succ]
      refine G_pure (i := 10) (u := ?va10) rfl (by kernel_rfl) (by kernel_rfl) (by kernel_rfl) (fun _ _ _ h => h) (by decide) (Or.inl ⟨by rfl, ?hya10⟩) hHeld ?_
      case hya10 => (intro w hSw; go_simp; try with_reducible rfl)
      simp only [Act.put, List.setIfInBounds_toArray, List.set_cons_zero, List.set_cons_succ, List.getElem_toArray, List.getElem_cons_zero, List.getElem_cons_succ]
      refine G_all (rs := [11]) (by kernel_rfl) (by simp) ?_
      intro i hi; obtain rfl : i = 11 := by simpa using hi
      refine wpOp_run rfl (by rfl) ?_
      go_simp
      try refine ⟨fun e => absurd e (by decide), ?_⟩
      refine G_free _ _ _ _ (by kernel_rfl) ?_
      try simp only [Act.put, List.setIfInBounds_toArray, List.set_cons_zero, List.set_cons_succ, List.getElem_toArray, List.getElem_cons_zero, List.getElem_cons_succ]
      refine wpAny_done (by kernel_rfl) ?_ _
      refine NoPanic.normal ?_
      go_wp2_with fail
      go_meet
      exact ⟨rfl, rfl, hHeld⟩
    case rest =>
      obtain ⟨rfl, rfl, y⟩ := hcut
      obtain ⟨w9, rfl⟩ : ∃ v, v = wc := ⟨_, rfl⟩
      have bZ := y.keeps bZ
      have b5 := y.keeps b5
      have HX := Lib.hid (HX.out.trans y)
      clear y
      have hk := HKK.out
      have hbody : IsB w (.slice (some ⟨pb, po, none⟩) k cap) (b.take k) := by
        have := H0.out.cut 0 k (by omega) (by omega)
        rw [if_neg (by omega)] at this
        simpa [Addr.add_lit] using this
      have hend : IsB w (.slice (some ⟨pb, po + k, none⟩) 32 (cap - k)) (b.drop k) := by
        have := H0.out.cut k b.length (by omega) (by omega)
        rw [if_neg (by omega), List.take_of_length_le (by simp), show b.length - k = 32 by omega] at this
        simpa [Addr.add_lit] using this
      have htail : IsB w (.slice (some ⟨pb, po + 25, none⟩) (k - 25) (cap - 25)) ((b.take k).drop 25) := by
        have := H0.out.cut 25 k (by omega) (by omega)
        rw [if_neg (by omega)] at this
        rw [List.drop_take]
        simpa [Addr.add_lit] using this
      have hbk : (b.take k).length = k := by simp; omega
      have hbe : (b.drop k).length = 32 := by simp; omega
      have hbt : ((b.take k).drop 25).length = k - 25 := by simp; omega
      have hE1 : b.length - 32 = k := by omega
      have hE2 : b.length - 57 = k - 25 := by omega
      have q57 : (b.length : Int) - 57 = ((k - 25 : Nat) : Int) := by omega
      have HE0 := Lib.hid (show decErr b = if k - 25 < nF b 21 then 7 else if (shaL (b.take k) == b.drop k) = false then 364 else if k - 25 ≠ nF b 21 ∨ notedB (decN b) = false then 363 else 0 by unfold decErr; rw [if_neg HK57.out, hE1, hE2])
      have HN0 := Lib.hid (show decN b = { decH b with bytes := (b.take k).drop 25 } by unfold decN decH; rw [hE1])
      have q25 : 25 ≤ k := by omega
      have qcap : k + 32 ≤ cap := by omega
      have qk : k ≤ 1000000 := by omega
      have HBody := Lib.hid hbody
      have HEnd := Lib.hid hend
      have HTail := Lib.hid htail
      have HBT := Lib.hid hbt
      have HQ57 := Lib.hid q57
      clear hbody hend htail hk hE1 hE2 q57 hbe hbt
      generalize b.take k = body at *
      generalize b.drop k = tail at *
      go_wp2_with fail
      refine (shaSum _ _ body (HBody.out.ext HX.out) (by omega) (hK.ext HX.out)).mono ?_
      rintro e w10 ⟨rfl, x10⟩
      have hSl := shaL_len body
      have bZ := x10.keeps bZ
      have b5 := x10.keeps b5
      have HX := Lib.hid (HX.out.trans x10)
      clear x10 hbk
      generalize shaL body = S at *
      have hfit : (Tryd.prog.info? 98).map (·.size) = some (S.map bc).toArray.size := by rw [List.size_toArray, List.length_map, hSl]; kernel_rfl
      have hone := id_oneE S
      have bz := heap_alloc_new w10 (.cells #[.int .u8 0, .int .u8 0, .int .u8 0, .int .u8 0, .int .u8 0, .int .u8 0, .int .u8 0, .int .u8 0, .int .u8 0, .int .u8 0, .int .u8 0, .int .u8 0, .int .u8 0, .int .u8 0, .int .u8 0, .int .u8 0, .int .u8 0, .int .u8 0, .int .u8 0, .int .u8 0, .int .u8 0, .int .u8 0, .int .u8 0, .int .u8 0, .int .u8 0, .int .u8 0, .int .u8 0, .int .u8 0, .int .u8 0, .int .u8 0, .int .u8 0, .int .u8 0] 98)
      have hX10 := HX.out.size
      have hz10 := block_lt bZ
      have h510 := block_lt b5
      go_upto_region 8 with (((with_reducible refine at_store 98 (.tmp 9) (.tmp 46) ?_); go_must (refine wpl_store rfl 98 (.tmp 9) (.tmp 46) rfl w10.heap.size (S.map bc).toArray (by rfl) (by rfl) 98 _ bz hfit (by simp [hSl]) hone ?_)))
      refine wp_forget (fun W => Ext w W ∧ W.heap[w.heap.size]? = some (.cells #[.int .i64 n0.kind, .int .u32 (n0.view : Int), .int .u32 (n0.mark.1 : Int), .int .u32 (n0.mark.2 : Int), .int .u32 (n0.prev.1 : Int), .int .u32 (n0.prev.2 : Int), (.slice none 0 0)] 30 (0, 0)) ∧ W.heap[B5]? = some (.cells #[.int .i64 (decH b).kind, .int .u32 ((decH b).view : Int), .int .u32 ((decH b).mark.1 : Int), .int .u32 ((decH b).mark.2 : Int), .int .u32 ((decH b).prev.1 : Int), .int .u32 ((decH b).prev.2 : Int), (.slice none 0 0)] 30 (0, 0)) ∧ W.heap[w10.heap.size]? = some (.cells (S.map bc).toArray 98 (0, 0))) ⟨(HX.out.alloc _).grown grown_setRow (fun k hk => by cases hk; exact hX10), grown_other grown_setRow (blk_old bZ) (by omega), grown_other grown_setRow (blk_old b5) (by omega), setRow_heap _ _ _ _ _ _ bz⟩ ?_
      rintro W ⟨X, bZ, b5, bS⟩
      obtain ⟨BS, hBS⟩ : ∃ x, x = w10.heap.size := ⟨_, rfl⟩
      rw [← hBS] at bS hX10
      rw [← hBS]
      clear hBS HX bz hfit hone
      have HX := Lib.hid X
      have hsS := sl_blk bS (S.map bc) (n := 32) (by simp [hSl]) (by simp) (by omega)
      have HS := Lib.hid (show IsB W (.slice (some ⟨BS, 0, none⟩) 32 32) S by unfold IsB; rw [hSl]; exact hsS)
      clear X hsS bS
      have q57 := HQ57.out
      by_cases c1 : k - 25 < nF b 21
      · have HE := Lib.hid (show decErr b = 7 by rw [HE0.out, if_pos c1])
        have c1' : ((k - 25 : Nat) : Int) < (nF b 21 : Int) := by omega
        clear c1
        go_wp2_with (((with_reducible refine at_store 30 (.tmp 2) (.tmp 54) ?_); go_must (refine wpl_store rfl 30 (.tmp 2) (.tmp 54) rfl w.heap.size #[.int .i64 n0.kind, .int .u32 (n0.view : Int), .int .u32 (n0.mark.1 : Int), .int .u32 (n0.mark.2 : Int), .int .u32 (n0.prev.1 : Int), .int .u32 (n0.prev.2 : Int), (.slice none 0 0)] (by rfl) (by rfl) 30 _ bZ (by kernel_rfl) rfl (nt_one _ _ _ _) ?_); rw [setRow_self _ w.heap.size _ _ _ bZ]))
        exact bodyPost_ret (results_cell_tmp (p := 2) (q := 3) rfl _ _ w.heap.size _ _ _ _ (by rfl) bZ Tryd.underlying30 rfl (by kernel_rfl)) rfl (dec_err HE.out (by omega) HX.out)
      · have HE1 := Lib.hid (HE0.out.trans (if_neg c1))
        have c1' : ¬ ((k - 25 : Nat) : Int) < (nF b 21 : Int) := by omega
        have HC1 := Lib.hid c1
        clear c1
        go_wp2_with fail
        refine (bytesEqual _ _ _ S tail HS.out (HEnd.out.ext HX.out)).mono ?_
        rintro e w11 ⟨rfl, rfl⟩
        cases c2 : (S == tail) with
        | false =>
          have HE := Lib.hid (show decErr b = 364 by rw [HE1.out, if_pos c2])
          clear c2
          go_wp2_with (((with_reducible refine at_store 30 (.tmp 2) (.tmp 60) ?_); go_must (refine wpl_store rfl 30 (.tmp 2) (.tmp 60) rfl w.heap.size #[.int .i64 n0.kind, .int .u32 (n0.view : Int), .int .u32 (n0.mark.1 : Int), .int .u32 (n0.mark.2 : Int), .int .u32 (n0.prev.1 : Int), .int .u32 (n0.prev.2 : Int), (.slice none 0 0)] (by rfl) (by rfl) 30 _ bZ (by kernel_rfl) rfl (nt_one _ _ _ _) ?_); rw [setRow_self _ w.heap.size _ _ _ bZ]))
          exact bodyPost_ret (results_cell_tmp (p := 2) (q := 3) rfl _ _ w.heap.size _ _ _ _ (by rfl) bZ Tryd.underlying30 rfl (by kernel_rfl)) rfl (dec_err HE.out (by omega) HX.out)
        | true =>
          have HE2 := Lib.hid (HE1.out.trans (if_neg (by rw [c2]; decide)))
          have d3 : ¬ cap = 25 := by omega
          have d4 : (25 : Int) ≤ (k : Int) := by omega
          have d5 : (k : Int) ≤ (cap : Int) := by omega
          have kk := block_all b5
          have ff := fun i => block_free b5 i
          clear c2 q57
          go_wp2_with fail
          refine (bytesClone _ _ _ (HTail.out.ext HX.out) (by rw [HBT.out]; omega)).mono ?_
          rintro e w12 ⟨v12, rfl, own12, x12⟩
          obtain ⟨a12, c12, rfl⟩ := own_shape own12
          have hXW := HX.out.size
          have own := ownsRow_base own12 hXW
          have bZ := x12.keeps bZ
          have b5 := x12.keeps b5
          have HX := Lib.hid (HX.out.trans x12)
          clear kk ff own12 x12 d3 d4 d5
          have kk := block_all b5
          have ff := fun i => block_free b5 i
          have hN := HN0.out
          have hl := HBT.out
          generalize body.drop 25 = BB at *
          have HLl := Lib.hid hl
          clear hl
          go_upto_region 13 with fail
          have b6 : (w12.setCell ⟨B5, 6, none⟩ (.slice a12 BB.length c12)).heap[B5]? = some (.cells #[.int .i64 (decN b).kind, .int .u32 ((decN b).view : Int), .int .u32 ((decN b).mark.1 : Int), .int .u32 ((decN b).mark.2 : Int), .int .u32 ((decN b).prev.1 : Int), .int .u32 ((decN b).prev.2 : Int), (.slice a12 BB.length c12)] 30 (0, 0)) := by
            have := block_setCell b5 (i := 6) (.slice a12 BB.length c12)
            rw [hN]
            simpa using this
          have gr := grown_setCell w12 B5 6 (.slice a12 BB.length c12)
          have own := ownsRow_grown own gr (own_neT own b5 (by decide))
          have bZ := grown_other gr bZ (by omega)
          have HX := Lib.hid (HX.out.grown gr (fun k hk => by cases hk; omega))
          generalize w12.setCell ⟨B5, 6, none⟩ (.slice a12 BB.length c12) = W3 at *
          clear gr kk ff b5
          have kk := block_all b6
          have hNb : (decN b).bytes = BB := by rw [hN]
          have HNb := Lib.hid hNb
          have HOwn := Lib.hid own
          have hl := HLl.out
          have l2 : (BB.length : Int) ≤ 1000000 := by omega
          clear hN hNb own
          by_cases c3 : BB.length = nF b 21
          · have HE3 := Lib.hid (show decErr b = if notedB (decN b) = false then 363 else 0 by
              rw [HE2.out]
              by_cases hq : notedB (decN b) = false
              · rw [if_pos (Or.inr hq), if_pos hq]
              · rw [if_neg (by intro hh; rcases hh with hh | hh; omega; exact hq hh), if_neg hq])
            have c4 : ((BB.length : Int) != (nF b 21 : Int)) = false := by rw [c3]; simp
            have c5 : ((BB.length : Int) == (nF b 21 : Int)) = true := by rw [c3]; simp
            clear c3 hl
            go_wp2_with fail
            refine (bkNoted _ (.slice a12 BB.length c12) (decN b) (by rw [HNb.out]; exact IsB.of_owns HOwn.out)).mono ?_
            rintro e w14 ⟨rfl, x14⟩
            have bZ := x14.keeps bZ
            have b6 := x14.keeps b6
            have HX := Lib.hid (HX.out.trans x14)
            have own := ownsRow_ext HOwn.out x14
            clear kk x14 HOwn
            have kk := block_all b6
            cases hq : notedB (decN b) with
            | false =>
              have HE := Lib.hid (show decErr b = 363 by rw [HE3.out, if_pos hq])
              clear hq own
              go_wp2_with (((with_reducible refine at_store 30 (.tmp 2) (.tmp 76) ?_); go_must (refine wpl_store rfl 30 (.tmp 2) (.tmp 76) rfl w.heap.size #[.int .i64 n0.kind, .int .u32 (n0.view : Int), .int .u32 (n0.mark.1 : Int), .int .u32 (n0.mark.2 : Int), .int .u32 (n0.prev.1 : Int), .int .u32 (n0.prev.2 : Int), (.slice none 0 0)] (by rfl) (by rfl) 30 _ bZ (by kernel_rfl) rfl (nt_one _ _ _ _) ?_); rw [setRow_self _ w.heap.size _ _ _ bZ]))
              exact bodyPost_ret (results_cell_tmp (p := 2) (q := 3) rfl _ _ w.heap.size _ _ _ _ (by rfl) bZ Tryd.underlying30 rfl (by kernel_rfl)) rfl (dec_err HE.out (by omega) HX.out)
            | true =>
              have HE := Lib.hid (show decErr b = 0 by rw [HE3.out, if_neg (by rw [hq]; decide)])
              have b9 := setRow_heap _ w.heap.size _ #[.int .i64 (decN b).kind, .int .u32 ((decN b).view : Int), .int .u32 ((decN b).mark.1 : Int), .int .u32 ((decN b).mark.2 : Int), .int .u32 ((decN b).prev.1 : Int), .int .u32 ((decN b).prev.2 : Int), (.slice a12 BB.length c12)] _ _ bZ
              have g9 := grown_setRow (w := w14) (g := w.heap.size) (c := #[.int .i64 (decN b).kind, .int .u32 ((decN b).view : Int), .int .u32 ((decN b).mark.1 : Int), .int .u32 ((decN b).mark.2 : Int), .int .u32 ((decN b).prev.1 : Int), .int .u32 ((decN b).prev.2 : Int), (.slice a12 BB.length c12)])
              have own := ownsRow_grown own g9 (own_neT own bZ (by decide))
              have ix := HX.out.grown g9 (fun k hk => by cases hk; omega)
              have HOwn := Lib.hid own
              clear hq own g9
              go_wp2_with (((with_reducible refine at_store 30 (.tmp 2) (.tmp 77) ?_); go_must (refine wpl_store rfl 30 (.tmp 2) (.tmp 77) rfl w.heap.size #[.int .i64 (decN b).kind, .int .u32 ((decN b).view : Int), .int .u32 ((decN b).mark.1 : Int), .int .u32 ((decN b).mark.2 : Int), .int .u32 ((decN b).prev.1 : Int), .int .u32 ((decN b).prev.2 : Int), (.slice a12 BB.length c12)] (by rfl) (by rfl) 30 _ bZ (by kernel_rfl) rfl (nt_one _ _ _ _) ?_)))
              exact bodyPost_ret (results_cell_tmp (p := 2) (q := 3) rfl _ _ w.heap.size _ _ _ _ (by rfl) b9 Tryd.underlying30 rfl (by kernel_rfl)) rfl ⟨ix, .inr ⟨HE.out, .slice a12 BB.length c12, rfl, by rw [HNb.out]; exact HOwn.out⟩⟩
          · have HE := Lib.hid (show decErr b = 363 by rw [HE2.out, if_pos (Or.inl (by omega))])
            have c4 : ((BB.length : Int) != (nF b 21 : Int)) = true := by rw [bne_iff_ne]; omega
            have c5 : ((BB.length : Int) == (nF b 21 : Int)) = false := by rw [beq_eq_false_iff_ne]; omega
            clear c3 hl
            go_wp2_with (((with_reducible refine at_store 30 (.tmp 2) (.tmp 76) ?_); go_must (refine wpl_store rfl 30 (.tmp 2) (.tmp 76) rfl w.heap.size #[.int .i64 n0.kind, .int .u32 (n0.view : Int), .int .u32 (n0.mark.1 : Int), .int .u32 (n0.mark.2 : Int), .int .u32 (n0.prev.1 : Int), .int .u32 (n0.prev.2 : Int), (.slice none 0 0)] (by rfl) (by rfl) 30 _ bZ (by kernel_rfl) rfl (nt_one _ _ _ _) ?_); rw [setRow_self _ w.heap.size _ _ _ bZ]))
            exact bodyPost_ret (results_cell_tmp (p := 2) (q := 3) rfl _ _ w.heap.size _ _ _ _ (by rfl) bZ Tryd.underlying30 rfl (by kernel_rfl)) rfl (dec_err HE.out (by omega) HX.out)
end Go.Proofs.YtkcddcomjbihgaaDoor
