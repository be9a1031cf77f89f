/- Backup: the walk of BackupNotes. -/
import Derived.Test.YtkcddcomjbihgaaDoorBkAb
import Derived.Deep.CutBlock
namespace Go.Proofs.YtkcddcomjbihgaaDoor
open Go.RowKit
set_option linter.unusedVariables false
set_option linter.unusedSimpArgs false

def byteRow (xs : List Value) : Prop := ∀ i, i < xs.length → ∃ z, xs[i]? = some (.int .u8 z)
theorem byteRow_map (l : List UInt8) : byteRow (l.map bc) := fun i hi => ⟨(l[i]'(by simpa using hi)).toNat, by
  rw [List.getElem?_map, List.getElem?_eq_getElem (by simpa using hi)]; rfl⟩
theorem byteRow_set {xs : List Value} (h : byteRow xs) (j : Nat) (z : Int) : byteRow (xs.set j (.int .u8 z)) := fun i hi => by
  rw [List.length_set] at hi
  by_cases e : j = i
  · subst e
    exact ⟨z, by rw [List.getElem?_set_self hi]⟩
  · rw [List.getElem?_set_ne e]
    exact h i hi
set_option maxHeartbeats 4000000 in
set_option maxRecDepth 100000 in
theorem walkBackupNotes (w : World) (v1 : Value) (l : List NtX) (h1 : ArgNotes w v1 l) (v2 : Value) (rs : List BsX) (h2 : ArgRows w v2 rs) (hK : Tabs w) :
    Calls Tryd.prog 3 #[v1, v2] w fun e w' => e = .returned (.bool true) ∧ Ext w w' := by
  have H1 := Lib.hid h1
  have H2 := Lib.hid h2
  have HK := Lib.hid hK
  obtain ⟨⟨_, a1, c1, rfl, hc1, hm1, _, _⟩, _, hl1⟩ := h1
  obtain ⟨⟨_, a2, c2, rfl, hc2, hm2, _, _⟩, _, hl2⟩ := h2
  have HC1 := Lib.hid hc1
  have HC2 := Lib.hid hc2
  clear hK hc1 hm1 hc2 hm2
  go_enter Tryd.func3, Tryd.ntmps3
  go_wp2_with fail
  refine (lawWakes _ HK.out).mono ?_
  rintro e W1 ⟨rfl, x1⟩
  go_upto_block 0 with fail
  go_cut [5, 6, 7, 8] from 22 to 63 (fun t5 t6 t7 t8 wx => Ext w wx)
  case first =>
    go_wp2_with fail
    go_loopg [5, 6, 7, 8, 22] l.length (fun g s5 s6 s7 s8 s22 wr => ∃ k : Nat, k ≤ l.length ∧ l.length - k ≤ g ∧ s22 = .int .i64 (k : Int) ∧ Ext w wr)
    case atStart => exact ⟨0, by omega, by omega, rfl, x1⟩
    case round =>
      obtain ⟨k, hk, hg, rfl, xr⟩ := hrel
      by_cases hlt : k < l.length
      · skip
        obtain ⟨⟨pb, off, cap, e, hlc, hcm, g⟩, hok⟩ : (∃ b off cap, (.slice a1 l.length c1 : Value) = .slice (some ⟨b, off, none⟩) l.length cap ∧ l.length ≤ cap ∧ cap ≤ 9223372036854775807 ∧ ∀ j, j < 7 → w.cell? ⟨b, off + k * 7 + j, none⟩ = (ntxC l[k])[j]?) ∧ ntxOk w l[k] := ⟨sl_elem ntxC H1.out.1 (fun x => rfl) (by decide) k hlt, H1.out.2.1 _ (List.getElem_mem hlt)⟩
        simp only [Value.slice.injEq, true_and] at e
        obtain ⟨rfl, rfl⟩ := e
        obtain ⟨⟨n, ⟨an, cn⟩⟩, hx⟩ : ∃ x, l[k] = x := ⟨_, rfl⟩
        rw [hx] at g hok
        clear hx
        obtain ⟨ho, hb, hbl⟩ := hok
        have e0 : wr.cell? ⟨pb, off + k * 7, none⟩ = some (.int .i64 n.kind) := xr.cell (g 0 (by decide))
        have e1 : wr.cell? ⟨pb, off + k * 7 + 1, none⟩ = some (.int .u32 (n.view : Int)) := xr.cell (g 1 (by decide))
        have e2 : wr.cell? ⟨pb, off + k * 7 + 2, none⟩ = some (.int .u32 (n.mark.1 : Int)) := xr.cell (g 2 (by decide))
        have e3 : wr.cell? ⟨pb, off + k * 7 + 3, none⟩ = some (.int .u32 (n.mark.2 : Int)) := xr.cell (g 3 (by decide))
        have e4 : wr.cell? ⟨pb, off + k * 7 + 4, none⟩ = some (.int .u32 (n.prev.1 : Int)) := xr.cell (g 4 (by decide))
        have e5 : wr.cell? ⟨pb, off + k * 7 + 5, none⟩ = some (.int .u32 (n.prev.2 : Int)) := xr.cell (g 5 (by decide))
        have e6 : wr.cell? ⟨pb, off + k * 7 + 6, none⟩ = some (.slice an n.bytes.length cn) := xr.cell (g 6 (by decide))
        have hlp : pb < wr.heap.size := World.block_lt_of_cell? _ _ e0
        clear g
        have HX := Lib.hid xr
        have HO := Lib.hid ho
        have HB := Lib.hid hb
        have HBL := Lib.hid hbl
        obtain ⟨b1, m1⟩ : n.bytes.length ≤ cn ∧ cn ≤ 9223372036854775807 := by obtain ⟨_, ca, e, b1, m1, _⟩ := hb.opened; simp only [Value.slice.injEq, true_and] at e; obtain ⟨_, rfl⟩ := e; exact ⟨b1, m1⟩
        clear ho hb hbl xr
        go_upto_region 6 with (((with_reducible refine at_store 30 (.tmp 6) (.tmp 26) ?_); go_must (refine wpl_store rfl 30 (.tmp 6) (.tmp 26) rfl wr.heap.size #[.int .i64 n.kind, .int .u32 (n.view : Int), .int .u32 (n.mark.1 : Int), .int .u32 (n.mark.2 : Int), .int .u32 (n.prev.1 : Int), .int .u32 (n.prev.2 : Int), (.slice an n.bytes.length cn)] (by rfl) (by rfl) 30 _ (heap_alloc_new wr _) (by kernel_rfl) rfl (nt_one _ _ _ _) ?_)))
        have hsN := HX.out.size
        refine wp_forget (fun W => Ext wr W ∧ W.heap[wr.heap.size]? = some (.cells #[.int .i64 n.kind, .int .u32 (n.view : Int), .int .u32 (n.mark.1 : Int), .int .u32 (n.mark.2 : Int), .int .u32 (n.prev.1 : Int), .int .u32 (n.prev.2 : Int), (.slice an n.bytes.length cn)] 30 (0, 0))) ⟨ext_new _ _ _, new_row _ _ _ _⟩ ?_
        rintro W1 ⟨y, bN⟩
        obtain ⟨BN, hB⟩ : ∃ x, x = wr.heap.size := ⟨_, rfl⟩
        rw [← hB] at bN hsN
        rw [← hB]
        clear hB
        have HX := Lib.hid (HX.out.trans y)
        clear y
        clear e0 e1 e2 e3 e4 e5 e6 hlp
        by_cases h16 : k = 16
        ·
          subst h16
          go_wp2_with fail
          go_meet
          exact HX.out
        ·
          have h16' : ((k : Int) == 16) = false := by rw [beq_eq_false_iff_ne]; omega
          clear h16
          have cN := block_all (blk_old (o := .cells #[] 5) bN)
          have cN0 := block_all bN
          have o0 := World.ownsRow_made (base := W1.heap.size) (e := 5) (size := 1) W1 #[] 0 (Nat.le_refl _) (by decide) rfl
          obtain ⟨M, hM⟩ : ∃ M, min n.bytes.length 40001 = M := ⟨_, rfl⟩
          have hMl : M ≤ n.bytes.length := by omega
          have hM3 : M ≤ 40001 := by omega
          have hmi : (if (40001 : Int) < (n.bytes.length : Int) then (40001 : Int) else (n.bytes.length : Int)) = (M : Int) := by split <;> omega
          have hMc : M ≤ cn := by omega
          have hMc' : (M : Int) ≤ (cn : Int) := by omega
          have hM0 : (0 : Int) ≤ (M : Int) := by omega
          have hq := isB_upto (HB.out.ext HX.out) M hMl
          have hql : (n.bytes.take M).length = M := by rw [List.length_take]; omega
          have HQ := Lib.hid (show IsSl W1 (.slice an M cn) 1 M ((n.bytes.take M).map bc) by unfold IsB at hq; rw [hql] at hq; exact hq)
          have HQL := Lib.hid hql
          have hs1 := HX.out.size
          clear hM hq hql
          go_upto_region 8 with (at_builtin; go_must (refine wp_app tyB rfl _ _ rfl W1.heap.size _ 0 [] o0 (by rfl) _ M ((n.bytes.take M).map bc) (HQ.out.ext ((Ext.refl _).alloc _)) (by rfl) (bc_one _) (by omega) (by omega) (by simp) ?_); intro v4 w4 own4 gr4; rw [Nat.zero_add, List.nil_append] at own4; obtain ⟨a4, c4, rfl⟩ := own_shape own4; have x4 := own_base o0 gr4 ((Ext.refl W1).alloc _) (Nat.le_refl _); have cN := block_all (x4.keeps bN); have ff := fun i => block_free (x4.keeps bN) i)
          obtain ⟨n1, hn1⟩ : ∃ x, ({ n with bytes := n.bytes.take M } : Nt) = x := ⟨_, rfl⟩
          have hn1b : n1.bytes = n.bytes.take M := by rw [← hn1]
          have hn1l : n1.bytes.length = M := by rw [hn1b]; exact HQL.out
          have bN := x4.keeps bN
          have bn1 : (w4.setCell ⟨BN, 6, none⟩ (.slice a4 M c4)).heap[BN]? = some (.cells #[.int .i64 n1.kind, .int .u32 (n1.view : Int), .int .u32 (n1.mark.1 : Int), .int .u32 (n1.mark.2 : Int), .int .u32 (n1.prev.1 : Int), .int .u32 (n1.prev.2 : Int), (.slice a4 M c4)] 30 (0, 0)) := by
            have := block_setCell bN (i := 6) (.slice a4 M c4)
            rw [← hn1]
            simpa using this
          have gr := grown_setCell w4 BN 6 (.slice a4 M c4)
          have own := ownsRow_base (ownsRow_grown own4 gr (own_neT own4 bN (by decide))) hs1
          have HX := Lib.hid ((HX.out.trans x4).grown gr (fun k hk => by cases hk; omega))
          have HO1 := Lib.hid (show NtOk n1 from by rw [← hn1]; exact ⟨HO.out.kind, HO.out.view, HO.out.mark, HO.out.prev⟩)
          generalize w4.setCell ⟨BN, 6, none⟩ (.slice a4 M c4) = W4 at *
          have own : OwnB W4 w.heap.size (.slice a4 n1.bytes.length c4) n1.bytes := by unfold OwnB; rw [hn1l, hn1b]; exact own
          rw [← hn1l] at bn1
          have hNl : n1.bytes.length ≤ 40001 := by omega
          clear gr own4 gr4 x4 bN cN cN0 ff o0 hmi hMc hMc' hM0 hn1 hn1b hn1l
          have bN := bn1
          clear bn1
          have cN := block_all bN
          cases hn : notedB n1 with
          | false =>
            have HN := Lib.hid hn
            clear hn
            go_wp2_with fail
            refine (bkEncode _ _ n1 (IsB.of_owns own) HO1.out (HK.out.ext HX.out)).mono ?_
            rintro e W5 ⟨y, ⟨hz, rfl⟩ | ⟨hz, _⟩⟩
            rotate_left
            · exact absurd hz (by rw [HN.out]; decide)
            clear hz cN
            have bN := y.keeps bN
            have own := ownsRow_ext own y
            have HX := Lib.hid (HX.out.trans y)
            clear y
            have cN := block_all bN
            go_wp2_with fail
            refine (rbNoted _ _ n1 (IsB.of_owns own)).mono ?_
            rintro e W6 ⟨rfl, y⟩
            rw [HN.out]
            clear cN
            have bN := y.keeps bN
            have own := ownsRow_ext own y
            have HX := Lib.hid (HX.out.trans y)
            clear y
            go_wp2_with fail
            go_roundg (l.length - (k + 1))
            case measure => omega
            case rel => exact ⟨k + 1, by omega, by omega, by go_num, HX.out⟩
          | true =>
            have HN := Lib.hid hn
            have hnl := noted_len hn
            clear hn
            go_wp2_with fail
            refine (bkEncode _ _ n1 (IsB.of_owns own) HO1.out (HK.out.ext HX.out)).mono ?_
            rintro e W5 ⟨y, ⟨hz, _⟩ | ⟨hz, v5, rfl, own5⟩⟩
            · exact absurd hz (by rw [HN.out]; decide)
            have hs4 := HX.out.size
            clear hz cN
            obtain ⟨a5, c5, rfl⟩ := own_shape own5
            have own5 := ownsRow_base own5 hs4
            have bN := y.keeps bN
            have own := ownsRow_ext own y
            have HX := Lib.hid (HX.out.trans y)
            clear y
            have cN := block_all bN
            go_wp2_with fail
            refine (rbNoted _ _ n1 (IsB.of_owns own)).mono ?_
            rintro e W6 ⟨rfl, y⟩
            rw [HN.out]
            clear cN
            have bN := y.keeps bN
            have own := ownsRow_ext own y
            have own5 := ownsRow_ext own5 y
            have HX := Lib.hid (HX.out.trans y)
            clear y
            have cN := block_all bN
            go_wp2_with fail
            refine (rbBytes _ _ n1 (IsB.of_owns own) HO1.out (by omega)).mono ?_
            rintro e W7 ⟨v7, rfl, own7, y⟩
            clear cN
            have bN := y.keeps bN
            have own := ownsRow_ext own y
            have own5 := ownsRow_ext own5 y
            have HX := Lib.hid (HX.out.trans y)
            clear y
            have hee : (encN n1 == encN n1) = true := by simp
            go_wp2_with fail
            refine (bytesEqual _ _ _ (encN n1) (encN n1) (IsB.of_owns own5) (IsB.of_owns own7)).mono ?_
            rintro e w' ⟨rfl, rfl⟩
            rw [hee]
            go_wp2_with fail
            go_roundg (l.length - (k + 1))
            case measure => omega
            case rel => exact ⟨k + 1, by omega, by omega, by go_num, HX.out⟩
      · obtain rfl : k = l.length := by omega
        go_wp2_with fail
        go_meet
        exact xr
  case rest =>
    obtain ⟨W2, rfl⟩ : ∃ x, x = wc := ⟨_, rfl⟩
    have x2 := hcut
    clear hcut x1
    go_upto_block 2 with fail
    go_cut [9, 10, 11, 12, 13, 14, 15, 16, 17] from 66 to 120 (fun t9 t10 t11 t12 t13 t14 t15 t16 t17 wx => Ext w wx)
    case first =>
      go_wp2_with fail
      go_loopg [9, 10, 11, 12, 13, 14, 15, 16, 17, 66] rs.length (fun g s9 s10 s11 s12 s13 s14 s15 s16 s17 s66 wr => ∃ k : Nat, k ≤ rs.length ∧ rs.length - k ≤ g ∧ s66 = .int .i64 (k : Int) ∧ Ext w wr)
      case atStart => exact ⟨0, by omega, by omega, rfl, x2⟩
      case round =>
        obtain ⟨k, hk, hg, rfl, xr⟩ := hrel
        by_cases hlt : k < rs.length
        · skip
          obtain ⟨wL, rfl⟩ : ∃ x, x = wr := ⟨_, rfl⟩
          obtain ⟨⟨pb, off, cap, e, hlc, hcm, g⟩, hok⟩ : (∃ b off cap, (.slice a2 rs.length c2 : Value) = .slice (some ⟨b, off, none⟩) rs.length cap ∧ rs.length ≤ cap ∧ cap ≤ 9223372036854775807 ∧ ∀ j, j < 1 → w.cell? ⟨b, off + k * 1 + j, none⟩ = (bsxC rs[k])[j]?) ∧ bsxOk w rs[k] := ⟨sl_elem bsxC H2.out.1 (fun x => rfl) (by decide) k hlt, H2.out.2.1 _ (List.getElem_mem hlt)⟩
          simp only [Value.slice.injEq, true_and] at e
          obtain ⟨rfl, rfl⟩ := e
          obtain ⟨⟨x, ⟨ax, cx⟩⟩, hx⟩ : ∃ x, rs[k] = x := ⟨_, rfl⟩
          rw [hx] at g hok
          clear hx
          obtain ⟨hb, hbl⟩ := hok
          have e0 : wL.cell? ⟨pb, off + k, none⟩ = some (.slice ax x.length cx) := by have := xr.cell (g 0 (by decide)); simpa using this
          clear g
          have HX := Lib.hid xr
          have HB := Lib.hid hb
          have HBL := Lib.hid hbl
          obtain ⟨b1, m1⟩ : x.length ≤ cx ∧ cx ≤ 9223372036854775807 := by obtain ⟨_, ca, e, b1, m1, _⟩ := hb.opened; simp only [Value.slice.injEq, true_and] at e; obtain ⟨_, rfl⟩ := e; exact ⟨b1, m1⟩
          clear hb hbl xr
          by_cases h16 : k = 16
          ·
            subst h16
            go_wp2_with fail
            go_meet
            exact HX.out
          ·
            have h16' : ((k : Int) == 16) = false := by rw [beq_eq_false_iff_ne]; omega
            clear h16
            have o0 := World.ownsRow_made (base := wL.heap.size) (e := 5) (size := 1) wL #[] 0 (Nat.le_refl _) (by decide) rfl
            obtain ⟨M, hM⟩ : ∃ M, min x.length 2000 = M := ⟨_, rfl⟩
            have hMl : M ≤ x.length := by omega
            have hM3 : M ≤ 2000 := by omega
            have hmi : (if (2000 : Int) < (x.length : Int) then (2000 : Int) else (x.length : Int)) = (M : Int) := by split <;> omega
            have hMc : M ≤ cx := by omega
            have hMc' : (M : Int) ≤ (cx : Int) := by omega
            have hM0 : (0 : Int) ≤ (M : Int) := by omega
            have hq := isB_upto (HB.out.ext HX.out) M hMl
            have hql : (x.take M).length = M := by rw [List.length_take]; omega
            have HQ := Lib.hid (show IsSl wL (.slice ax M cx) 1 M ((x.take M).map bc) by unfold IsB at hq; rw [hql] at hq; exact hq)
            have hs1 := HX.out.size
            obtain ⟨b, hb⟩ : ∃ b, x.take M = b := ⟨_, rfl⟩
            rw [hb] at hql HQ
            have HQL := Lib.hid hql
            clear hM hq hql hb
            go_upto_region 20 with (at_builtin; go_must (refine wp_app tyB rfl _ _ rfl wL.heap.size _ 0 [] o0 (by rfl) _ M (b.map bc) (HQ.out.ext ((Ext.refl _).alloc _)) (by rfl) (bc_one _) (by omega) (by omega) (by simp) ?_); intro v4 w4 own4 gr4; rw [Nat.zero_add, List.nil_append] at own4; obtain ⟨a4, c4, rfl⟩ := own_shape own4; have x4 := own_base o0 gr4 ((Ext.refl wL).alloc _) (Nat.le_refl _))
            have own := ownsRow_base own4 hs1
            have HX := Lib.hid (HX.out.trans x4)
            clear own4 gr4 x4 o0 hmi hMc hMc' hM0 e0
            have o0 := World.ownsRow_made (base := w4.heap.size) (e := 5) (size := 1) w4 #[] 0 (Nat.le_refl _) (by decide) rfl
            have hs4 := HX.out.size
            have hM2 : M ≤ 2000 := hM3
            have HOW := Lib.hid own
            go_upto_region 21 with (at_builtin; go_must (refine wp_app tyB rfl _ _ rfl w4.heap.size _ 0 [] o0 (by rfl) _ M (b.map bc) ((IsSl.of_owns HOW.out).ext ((Ext.refl _).alloc _)) (by rfl) (bc_one _) (by omega) (by omega) (by simp) ?_); intro v5 w5 own5 gr5; rw [Nat.zero_add, List.nil_append] at own5; obtain ⟨a5, c5, rfl⟩ := own_shape own5; have x5 := own_base o0 gr5 ((Ext.refl w4).alloc _) (Nat.le_refl _))
            have own5 := ownsRow_base own5 hs4
            have own := ownsRow_ext own x5
            have HX := Lib.hid (HX.out.trans x5)
            clear gr5 x5 o0 HOW
            have hbl : b.length = M := HQL.out
            have own : OwnB w5 w.heap.size (.slice a4 b.length c4) b := by unfold OwnB; rw [hbl]; exact own
            have own5 : OwnB w5 w.heap.size (.slice a5 b.length c5) b := by unfold OwnB; rw [hbl]; exact own5
            rw [← hbl]
            have hbm : b.length ≤ 2000 := by omega
            clear hbl
            have OB := Lib.hid own
            have OB5 := Lib.hid own5
            go_wp2_with fail
            refine (bkDecodeA _ _ b (IsB.of_owns own5) (by omega) (HK.out.ext HX.out)).mono ?_
            rintro e w6 ⟨y, v6, rfl, own6⟩
            obtain ⟨a6, c6, rfl⟩ := own_shape own6
            have own6b := own6
            have X5 := y
            have HX5 := HX
            have own := ownsRow_ext own y
            have own5 := ownsRow_ext own5 y
            have HX := Lib.hid (HX.out.trans y)
            clear y
            go_upto_region 22 with (((with_reducible refine at_store 30 (.tmp 13) (.tmp 86) ?_); go_must (refine wpl_store rfl 30 (.tmp 13) (.tmp 86) rfl w6.heap.size #[.int .i64 (decA b).kind, .int .u32 ((decA b).view : Int), .int .u32 ((decA b).mark.1 : Int), .int .u32 ((decA b).mark.2 : Int), .int .u32 ((decA b).prev.1 : Int), .int .u32 ((decA b).prev.2 : Int), (.slice a6 (decA b).bytes.length c6)] (by rfl) (by rfl) 30 _ (heap_alloc_new w6 _) (by kernel_rfl) rfl (nt_one _ _ _ _) ?_)))
            have hsD := HX.out.size
            refine wp_forget (fun W => Ext w6 W ∧ W.heap[w6.heap.size]? = some (.cells #[.int .i64 (decA b).kind, .int .u32 ((decA b).view : Int), .int .u32 ((decA b).mark.1 : Int), .int .u32 ((decA b).mark.2 : Int), .int .u32 ((decA b).prev.1 : Int), .int .u32 ((decA b).prev.2 : Int), (.slice a6 (decA b).bytes.length c6)] 30 (0, 0))) ⟨ext_new _ _ _, new_row _ _ _ _⟩ ?_
            rintro W21 ⟨y, bD⟩
            obtain ⟨BD, hB⟩ : ∃ x, x = w6.heap.size := ⟨_, rfl⟩
            rw [← hB] at bD hsD
            rw [← hB]
            clear hB
            have own := ownsRow_ext own y
            have own5 := ownsRow_ext own5 y
            have own6 := ownsRow_ext own6 y
            have X5 := X5.trans y
            have HX := Lib.hid (HX.out.trans y)
            clear y
            go_wp2_with fail
            refine (rbDecodeA _ _ b (IsB.of_owns own) (by omega)).mono ?_
            rintro e w8 ⟨y, v8, rfl, own8⟩
            obtain ⟨a8, c8, rfl⟩ := own_shape own8
            have bD := y.keeps bD
            have own := ownsRow_ext own y
            have own5 := ownsRow_ext own5 y
            have own6 := ownsRow_ext own6 y
            have X5 := X5.trans y
            have HX := Lib.hid (HX.out.trans y)
            clear y
            go_upto_region 23 with (((with_reducible refine at_store 30 (.tmp 15) (.tmp 91) ?_); go_must (refine wpl_store rfl 30 (.tmp 15) (.tmp 91) rfl w8.heap.size #[.int .i64 (decA b).kind, .int .u32 ((decA b).view : Int), .int .u32 ((decA b).mark.1 : Int), .int .u32 ((decA b).mark.2 : Int), .int .u32 ((decA b).prev.1 : Int), .int .u32 ((decA b).prev.2 : Int), (.slice a8 (decA b).bytes.length c8)] (by rfl) (by rfl) 30 _ (heap_alloc_new w8 _) (by kernel_rfl) rfl (nt_one _ _ _ _) ?_)))
            have l_D_E := block_lt bD
            have hsE := HX.out.size
            refine wp_forget (fun W => Ext w8 W ∧ W.heap[w8.heap.size]? = some (.cells #[.int .i64 (decA b).kind, .int .u32 ((decA b).view : Int), .int .u32 ((decA b).mark.1 : Int), .int .u32 ((decA b).mark.2 : Int), .int .u32 ((decA b).prev.1 : Int), .int .u32 ((decA b).prev.2 : Int), (.slice a8 (decA b).bytes.length c8)] 30 (0, 0))) ⟨ext_new _ _ _, new_row _ _ _ _⟩ ?_
            rintro W22 ⟨y, bE⟩
            obtain ⟨BE, hB⟩ : ∃ x, x = w8.heap.size := ⟨_, rfl⟩
            rw [← hB] at bE hsE l_D_E
            rw [← hB]
            clear hB
            have bD := y.keeps bD
            have own := ownsRow_ext own y
            have own5 := ownsRow_ext own5 y
            have own6 := ownsRow_ext own6 y
            have X5 := X5.trans y
            have own8 := ownsRow_ext own8 y
            have HX := Lib.hid (HX.out.trans y)
            clear y
            have cD := block_all bD
            have cE := block_all bE
            have hss := sameN_self (decA b)
            go_wp2_with fail
            refine (rbSameNote _ _ _ (decA b) (decA b) (IsB.of_owns own6) (IsB.of_owns own8)).mono ?_
            rintro e w10 ⟨rfl, y⟩
            rw [hss]
            clear hss cD cE
            have bD := y.keeps bD
            have bE := y.keeps bE
            have own := ownsRow_ext own y
            have own5 := ownsRow_ext own5 y
            have own6 := ownsRow_ext own6 y
            have X5 := X5.trans y
            have own8 := ownsRow_ext own8 y
            have HX := Lib.hid (HX.out.trans y)
            clear y
            have cD := block_all bD
            obtain ⟨L, hL⟩ : ∃ L, (decA b).bytes.length = L := ⟨_, rfl⟩
            have hLb : L ≤ 40000 := by rw [← hL]; exact decA_len b
            have hLb' : (L : Int) ≤ 40000 := by omega
            have hrow := byteRow_map (decA b).bytes
            have hLl : ((decA b).bytes.map bc).length = L := by rw [List.length_map, hL]
            generalize (decA b).bytes.map bc = xs0 at *
            rw [hL] at own6 bD cD ⊢
            clear own8 bE
            have hbz := HX5.out.size
            skip
            go_upto_block 4 with fail
            go_cut [17] from 105 to 115 (fun t17 wx => Ext w5 wx)
            case first =>
              clear own own5
              go_wp2_with fail
              go_loopg [17, 105] L (fun g s17 s105 wr => ∃ j : Nat, j ≤ L ∧ L - j ≤ g ∧ s105 = .int .i64 (j : Int) ∧ wr.heap[BD]? = some (.cells #[.int .i64 (decA b).kind, .int .u32 ((decA b).view : Int), .int .u32 ((decA b).mark.1 : Int), .int .u32 ((decA b).mark.2 : Int), .int .u32 ((decA b).prev.1 : Int), .int .u32 ((decA b).prev.2 : Int), (.slice a6 L c6)] 30 (0, 0)) ∧ (∃ xs, wr.ownsRow w5.heap.size 5 1 (.slice a6 L c6) L xs ∧ byteRow xs) ∧ Ext w5 wr)
              case atStart => exact ⟨0, by omega, by omega, rfl, bD, ⟨_, own6, hrow⟩, X5⟩
              case round =>
                clear bD own6 hrow X5 cD
                obtain ⟨j, hj, hgj, rfl, bD, ⟨xs, own6, hrow⟩, X5⟩ := hrel
                by_cases hjl : j < L
                · obtain ⟨gq, cq, e, hgb, hgl⟩ := own_row own6 (by omega)
                  simp only [Value.slice.injEq, true_and] at e
                  obtain ⟨rfl, rfl⟩ := e
                  have hxl : xs.length = L := by have := own6.1; omega
                  obtain ⟨z, hz⟩ := hrow j (by omega)
                  have hc := own6.cellAt j (by omega)
                  rw [hz] at hc
                  have hf := own6.frozenAt j
                  have cD := block_all bD
                  have hnD := own_neT own6 bD (by decide)
                  have HXL := Lib.hid hxl
                  have HZ := Lib.hid hz
                  clear hxl hz
                  go_wp2_with fail
                  go_roundg (L - (j + 1))
                  case measure => omega
                  case rel =>
                    have hgD : BD ≠ gq := fun q => hnD (by rw [q]; rfl)
                    refine ⟨j + 1, by omega, by omega, by go_num, grown_other (grown_setCell _ _ _ _) bD hgD, ⟨_, (own6.stored j _).1, byteRow_set hrow j _⟩, X5.setCell (by simpa using hgb) _⟩
                · obtain rfl : j = L := by omega
                  have cD := block_all bD
                  go_wp2_with fail
                  go_meet
                  exact X5
            case rest =>
              have own := ownsRow_ext OB.out hcut
              have own5 := ownsRow_ext OB5.out hcut
              have HX := Lib.hid (HX5.out.trans hcut)
              clear hcut bD own6 cD X5
              have hbb : (b == b) = true := by simp
              go_wp2_with fail
              refine (bytesEqual _ _ _ b b (IsB.of_owns own5) (IsB.of_owns own)).mono ?_
              rintro e w' ⟨rfl, rfl⟩
              rw [hbb]
              go_wp2_with fail
              go_roundg (rs.length - (k + 1))
              case measure => omega
              case rel => exact ⟨k + 1, by omega, by omega, by go_num, HX.out⟩
        · obtain rfl : k = rs.length := by omega
          go_wp2_with fail
          go_meet
          exact xr
    case rest =>
      go_wp2_with fail
      go_ret
      exact ⟨rfl, hcut⟩
end Go.Proofs.YtkcddcomjbihgaaDoor
