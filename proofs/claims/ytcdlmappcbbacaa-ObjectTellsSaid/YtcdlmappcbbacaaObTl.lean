/- The walk of the law ObjectTells. -/
import Derived.Test.YtcdlmappcbbacaaObLk
import Derived.Test.YtcdlmappcbbacaaObSs
import Derived.Test.YtcdlmappcbbacaaObV
import Derived.Test.YtcdlmappcbbacaaObF
import Derived.Test.YtcdlmappcbbacaaObOp
import Derived.Test.YtcdlmappcbbacaaObP
import Derived.Test.YtcdlmappcbbacaaObG
namespace Go.Proofs.Ytcdlmappcbbacaa
open Go.RowKit
set_option linter.unusedVariables false
set_option linter.unusedSimpArgs false

theorem links_32 {o : ObjL} (h : ObjOk o) : ∀ q ∈ linksL o, q.length = 32 := by
  intro q hq
  unfold linksL at hq
  split at hq
  · rcases List.mem_append.1 hq with h1 | h1
    · obtain ⟨e, he, rfl⟩ := List.mem_map.1 h1
      exact (h.ents e he).1
    · split at h1
      · rcases List.mem_cons.1 h1 with rfl | h2
        · exact h.tree
        · exact h.pars _ h2
      · cases h1
  · cases hq
theorem large_not {o : ObjL} (h : largeB o = false) : o.bytes.length ≤ 10000 ∧ o.ents.length ≤ 200 ∧ o.pars.length ≤ 200 := by
  unfold largeB at h
  simp only [Bool.or_eq_false_iff, decide_eq_false_iff_not] at h
  omega
theorem bne_self (b : Bool) : (b != b) = false := by simp

set_option maxHeartbeats 8000000 in
set_option maxRecDepth 100000 in
theorem walkTells0 (w : World) (QA QB : Array Value) (va1 va2 va3 vb1 vb2 vb3 : Value) (a b : ObjL) (s : ByteArray) (ha : IsObj w QA va1 va2 va3 a) (hb : IsObj w QB vb1 vb2 vb3 b) (hs : s.size ≤ 140737488355328) :
    Calls Try.prog 5 #[.agg QA, .agg QB, .string s] w fun e w' => e = .returned (.bool true) ∧ Below w.heap.size w w' := by
  obtain ⟨zI, tyI⟩ := tyIds
  have ho := ha.ok
  obtain ⟨ae, ce, rfl⟩ := sl_len ha.ve
  obtain ⟨ap, cp, rfl⟩ := sl_len ha.vp
  have b3 := blk_old (o := .cells QB 30) (heap_alloc_new w (.cells QA 30))
  have b4 := blk_new (w := w.alloc (.cells QA 30)) (b := w.heap.size + 1) (o := .cells QB 30) (by simp)
  have X0 : Ext w ((w.alloc (.cells QA 30)).alloc (.cells QB 30)) := ((Ext.refl w).alloc _).alloc _
  have HA := Lib.hid (ha.ext X0)
  have HB := Lib.hid (hb.ext X0)
  clear ha hb
  go_enter Try.func5, Try.ntmps5
  go_wp2_with fail
  generalize (w.alloc (.cells QA 30)).alloc (.cells QB 30) = w0 at *
  generalize hG : w.heap.size = G at *
  refine (wakes05 _).mono ?_
  rintro e w1 ⟨rfl, x1⟩
  have b31 := x1.keeps b3
  have b41 := x1.keeps b4
  go_wp2_with ((with_reducible refine at_load 30 (.tmp 3) ?_); refine wpl_load (by rfl) 30 (.tmp 3) rfl G (by rfl) 30 QA (0, 0) _ b31 Try.underlying30 rfl HA.out.info ?_)
  refine Calls.mono (lawLarge _ _ _ _ _ a (HA.out.ext x1)) ?_
  rintro e w2 ⟨rfl, x2⟩
  have b32 := x2.keeps b31
  have b42 := x2.keeps b41
  have X2 := x1.trans x2
  cases hla : largeB a with
  | true =>
    go_wp2
    go_ret
    exact ⟨rfl, X0.trans X2⟩
  | false =>
  obtain ⟨l1, l2, l3⟩ := large_not hla
  go_wp2_with ((with_reducible refine at_load 30 (.tmp 4) ?_); refine wpl_load (by rfl) 30 (.tmp 4) rfl (G + 1) (by rfl) 30 QB (0, 0) _ b42 Try.underlying30 rfl HB.out.info ?_)
  refine Calls.mono (lawLarge _ _ _ _ _ b (HB.out.ext X2)) ?_
  rintro e w3 ⟨rfl, x3⟩
  have X3 := X2.trans x3
  cases hlb : largeB b with
  | true =>
    go_wp2
    go_ret
    exact ⟨rfl, X0.trans X3⟩
  | false =>
  by_cases hss : (5000 : Int) < (s.size : Int)
  · go_wp2
    go_ret
    exact ⟨rfl, X0.trans X3⟩
  have ba := X3.keeps b3
  have bb := X3.keeps b4
  have hiba : (Try.prog.info? 30).map (·.size) = some QA.toList.length := by rw [Array.length_toList]; exact HA.out.info
  have hibb : (Try.prog.info? 30).map (·.size) = some QB.toList.length := by rw [Array.length_toList]; exact HB.out.info
  have Xd := X3
  clear b31 b41 b32 b42 x1 x2 x3 X2 X3
  go_wp2_with fail
  refine wp_region_ext (by kernel_rfl) fun wd hqd xd hHeld => ?_
  have ba := xd.keeps ba
  have bb := xd.keeps bb
  have Xd := Xd.trans xd
  refine wpAnyH_take (i := 0) (v := ?va0) rfl (by kernel_rfl) (by kernel_rfl) (by kernel_rfl) (fun _ _ _ h => h) (Or.inl ⟨by rfl, ?hya0⟩) hHeld ?_
  case hya0 => (intro w hSw; go_simp; try with_reducible rfl)
  simp only [Act.put, List.setIfInBounds_toArray, List.set_cons_zero, List.set_cons_succ, List.getElem_toArray, List.getElem_cons_zero, List.getElem_cons_succ]
  refine wpAnyH_take (i := 2) (v := ?va2) rfl (by kernel_rfl) (by kernel_rfl) (by kernel_rfl) (fun _ _ _ h => h) (Or.inl ⟨by rfl, ?hya2⟩) hHeld ?_
  case hya2 => (intro w hSw; go_simp; try with_reducible rfl)
  simp only [Act.put, List.setIfInBounds_toArray, List.set_cons_zero, List.set_cons_succ, List.getElem_toArray, List.getElem_cons_zero, List.getElem_cons_succ]
  refine wpAnyH_all (rs := [1]) (by kernel_rfl) (by simp) ?_
  intro i hi; obtain rfl : i = 1 := by simpa using hi
  refine wpOp_run rfl (by rfl) ?_
  go_simp
  refine Calls.mono (objName _ s (by omega)) ?_
  rintro ee wa ⟨rfl, xa⟩
  have ba := xa.keeps ba
  have bb := xa.keeps bb
  have Xd := Xd.trans xa
  refine wpAnyH_call (xa) fun hHeld => ?_
  try simp only [Act.put, List.setIfInBounds_toArray, List.set_cons_zero, List.set_cons_succ, List.getElem_toArray, List.getElem_cons_zero, List.getElem_cons_succ]
  refine wpAnyH_all (rs := [3]) (by kernel_rfl) (by simp) ?_
  intro i hi; obtain rfl : i = 3 := by simpa using hi
  refine wpOp_run rfl (by rfl) ?_
  go_simp
  refine Calls.mono (refName _ s (by omega)) ?_
  rintro ee wb ⟨rfl, hwb⟩
  subst hwb
  refine wpAnyH_call ((Ext.refl _)) fun hHeld => ?_
  try simp only [Act.put, List.setIfInBounds_toArray, List.set_cons_zero, List.set_cons_succ, List.getElem_toArray, List.getElem_cons_zero, List.getElem_cons_succ]
  refine wpAnyH_take (i := 4) (v := ?va4) rfl (by kernel_rfl) (by kernel_rfl) (by kernel_rfl) (fun _ _ _ h => h) (Or.inl ⟨by rfl, ?hya4⟩) hHeld ?_
  case hya4 => (intro w hSw; have k := bne_self (nameB s); go_simp; try with_reducible rfl)
  simp only [Act.put, List.setIfInBounds_toArray, List.set_cons_zero, List.set_cons_succ, List.getElem_toArray, List.getElem_cons_zero, List.getElem_cons_succ]
  refine wpAnyH_take (i := 5) (v := ?va5) rfl (by kernel_rfl) (by kernel_rfl) (by kernel_rfl) (fun _ _ _ h => h) (Or.inl ⟨by rfl, ?hya5⟩) hHeld ?_
  case hya5 => (intro w hSw; go_simp; try with_reducible rfl)
  simp only [Act.put, List.setIfInBounds_toArray, List.set_cons_zero, List.set_cons_succ, List.getElem_toArray, List.getElem_cons_zero, List.getElem_cons_succ]
  refine wpAnyH_take (i := 6) rfl (by kernel_rfl) (by kernel_rfl) (by kernel_rfl) (fun _ _ _ h => h) (yieldsIf_load_mid (by rfl) _ _ rfl _ _ rfl (QA.toList) _ (fun w h => rangeAt_of (h.keeps ba)) Try.underlying30 rfl hiba) hHeld ?_
  simp only [Act.put, List.setIfInBounds_toArray, List.set_cons_zero, List.set_cons_succ, List.getElem_toArray, List.getElem_cons_zero, List.getElem_cons_succ]
  refine wpAnyH_take (i := 7) rfl (by kernel_rfl) (by kernel_rfl) (by kernel_rfl) (fun _ _ _ h => h) (yieldsIf_load_mid (by rfl) _ _ rfl _ _ rfl (QB.toList) _ (fun w h => rangeAt_of (h.keeps bb)) Try.underlying30 rfl hibb) hHeld ?_
  simp only [Act.put, List.setIfInBounds_toArray, List.set_cons_zero, List.set_cons_succ, List.getElem_toArray, List.getElem_cons_zero, List.getElem_cons_succ]
  refine wpAnyH_take (i := 9) rfl (by kernel_rfl) (by kernel_rfl) (by kernel_rfl) (fun _ _ _ h => h) (yieldsIf_load_mid (by rfl) _ _ rfl _ _ rfl (QA.toList) _ (fun w h => rangeAt_of (h.keeps ba)) Try.underlying30 rfl hiba) hHeld ?_
  simp only [Act.put, List.setIfInBounds_toArray, List.set_cons_zero, List.set_cons_succ, List.getElem_toArray, List.getElem_cons_zero, List.getElem_cons_succ]
  refine wpAnyH_take (i := 10) rfl (by kernel_rfl) (by kernel_rfl) (by kernel_rfl) (fun _ _ _ h => h) (yieldsIf_load_mid (by rfl) _ _ rfl _ _ rfl (QB.toList) _ (fun w h => rangeAt_of (h.keeps bb)) Try.underlying30 rfl hibb) hHeld ?_
  simp only [Act.put, List.setIfInBounds_toArray, List.set_cons_zero, List.set_cons_succ, List.getElem_toArray, List.getElem_cons_zero, List.getElem_cons_succ]
  refine wpAnyH_all (rs := [8]) (by kernel_rfl) (by simp) ?_
  intro i hi; obtain rfl : i = 8 := by simpa using hi
  refine wpOp_run rfl (by rfl) ?_
  go_simp
  refine Calls.mono (objSame _ _ _ _ _ _ _ _ _ a b (HA.out.ext Xd) (HB.out.ext Xd)) ?_
  rintro ee wc ⟨rfl, xc⟩
  have ba := xc.keeps ba
  have bb := xc.keeps bb
  have Xd := Xd.trans xc
  refine wpAnyH_call (xc) fun hHeld => ?_
  try simp only [Act.put, List.setIfInBounds_toArray, List.set_cons_zero, List.set_cons_succ, List.getElem_toArray, List.getElem_cons_zero, List.getElem_cons_succ]
  refine wpAnyH_all (rs := [11]) (by kernel_rfl) (by simp) ?_
  intro i hi; obtain rfl : i = 11 := by simpa using hi
  refine wpOp_run rfl (by rfl) ?_
  go_simp
  refine Calls.mono (refSameO _ _ _ _ _ _ _ _ _ a b (HA.out.ext Xd) (HB.out.ext Xd)) ?_
  rintro ee we ⟨rfl, xe⟩
  have ba := xe.keeps ba
  have bb := xe.keeps bb
  have Xd := Xd.trans xe
  refine wpAnyH_call (xe) fun hHeld => ?_
  try simp only [Act.put, List.setIfInBounds_toArray, List.set_cons_zero, List.set_cons_succ, List.getElem_toArray, List.getElem_cons_zero, List.getElem_cons_succ]
  refine wpAnyH_take (i := 12) (v := ?va12) rfl (by kernel_rfl) (by kernel_rfl) (by kernel_rfl) (fun _ _ _ h => h) (Or.inl ⟨by rfl, ?hya12⟩) hHeld ?_
  case hya12 => (intro w hSw; have k := bne_self (sameB a b); go_simp; try with_reducible rfl)
  simp only [Act.put, List.setIfInBounds_toArray, List.set_cons_zero, List.set_cons_succ, List.getElem_toArray, List.getElem_cons_zero, List.getElem_cons_succ]
  refine wpAnyH_take (i := 13) (v := ?va13) rfl (by kernel_rfl) (by kernel_rfl) (by kernel_rfl) (fun _ _ _ h => h) (Or.inl ⟨by rfl, ?hya13⟩) hHeld ?_
  case hya13 => (intro w hSw; go_simp; try with_reducible rfl)
  simp only [Act.put, List.setIfInBounds_toArray, List.set_cons_zero, List.set_cons_succ, List.getElem_toArray, List.getElem_cons_zero, List.getElem_cons_succ]
  refine wpAnyH_take (i := 14) (v := ?va14) rfl (by kernel_rfl) (by kernel_rfl) (by kernel_rfl) (fun _ _ _ h => h) (Or.inl ⟨by rfl, ?hya14⟩) hHeld ?_
  case hya14 => (intro w hSw; go_simp; try with_reducible rfl)
  simp only [Act.put, List.setIfInBounds_toArray, List.set_cons_zero, List.set_cons_succ, List.getElem_toArray, List.getElem_cons_zero, List.getElem_cons_succ]
  refine wpAnyH_take (i := 15) rfl (by kernel_rfl) (by kernel_rfl) (by kernel_rfl) (fun _ _ _ h => h) (yieldsIf_load_mid (by rfl) _ _ rfl _ _ rfl (QA.toList) _ (fun w h => rangeAt_of (h.keeps ba)) Try.underlying30 rfl hiba) hHeld ?_
  simp only [Act.put, List.setIfInBounds_toArray, List.set_cons_zero, List.set_cons_succ, List.getElem_toArray, List.getElem_cons_zero, List.getElem_cons_succ]
  refine wpAnyH_take (i := 16) rfl (by kernel_rfl) (by kernel_rfl) (by kernel_rfl) (fun _ _ _ h => h) (yieldsIf_load_mid (by rfl) _ _ rfl _ _ rfl (QA.toList) _ (fun w h => rangeAt_of (h.keeps ba)) Try.underlying30 rfl hiba) hHeld ?_
  simp only [Act.put, List.setIfInBounds_toArray, List.set_cons_zero, List.set_cons_succ, List.getElem_toArray, List.getElem_cons_zero, List.getElem_cons_succ]
  refine wpAnyH_all (rs := [17]) (by kernel_rfl) (by simp) ?_
  intro i hi; obtain rfl : i = 17 := by simpa using hi
  refine wpOp_run rfl (by rfl) ?_
  go_simp
  refine Calls.mono (lawCopied _ _ _ _ _ a (HA.out.ext Xd) l1 l2 l3) ?_
  rintro ee wf ⟨QC, vc1, vc2, vc3, rfl, hC, xf⟩
  have ba := xf.keeps ba
  have bb := xf.keeps bb
  have Xd := Xd.trans xf
  refine wpAnyH_call (xf) fun hHeld => ?_
  try simp only [Act.put, List.setIfInBounds_toArray, List.set_cons_zero, List.set_cons_succ, List.getElem_toArray, List.getElem_cons_zero, List.getElem_cons_succ]
  refine wpAnyH_all (rs := [18]) (by kernel_rfl) (by simp) ?_
  intro i hi; obtain rfl : i = 18 := by simpa using hi
  refine wpOp_run rfl (by rfl) ?_
  go_simp
  refine Calls.mono (objSame _ _ _ _ _ _ _ _ _ a a (HA.out.ext Xd) hC) ?_
  rintro ee wg ⟨rfl, xg⟩
  have ba := xg.keeps ba
  have bb := xg.keeps bb
  have Xd := Xd.trans xg
  refine wpAnyH_call (xg) fun hHeld => ?_
  try simp only [Act.put, List.setIfInBounds_toArray, List.set_cons_zero, List.set_cons_succ, List.getElem_toArray, List.getElem_cons_zero, List.getElem_cons_succ]
  refine wpAnyH_take (i := 19) (v := ?va19) rfl (by kernel_rfl) (by kernel_rfl) (by kernel_rfl) (fun _ _ _ h => h) (Or.inl ⟨by rfl, ?hya19⟩) hHeld ?_
  case hya19 => (intro w hSw; have k := same_self a; go_simp; try with_reducible rfl)
  simp only [Act.put, List.setIfInBounds_toArray, List.set_cons_zero, List.set_cons_succ, List.getElem_toArray, List.getElem_cons_zero, List.getElem_cons_succ]
  refine wpAnyH_take (i := 20) (v := ?va20) rfl (by kernel_rfl) (by kernel_rfl) (by kernel_rfl) (fun _ _ _ h => h) (Or.inl ⟨by rfl, ?hya20⟩) hHeld ?_
  case hya20 => (intro w hSw; go_simp; try with_reducible rfl)
  simp only [Act.put, List.setIfInBounds_toArray, List.set_cons_zero, List.set_cons_succ, List.getElem_toArray, List.getElem_cons_zero, List.getElem_cons_succ]
  refine wpAnyH_done (by kernel_rfl) ?_ _
  refine NoPanic.normal ?_
  clear hHeld
  go_wp2_with ((with_reducible refine at_load 30 (.tmp 3) ?_); refine wpl_load (by rfl) 30 (.tmp 3) rfl G (by rfl) 30 QA (0, 0) _ ba Try.underlying30 rfl HA.out.info ?_)
  refine Calls.mono (refRightO _ QA _ _ _ a (HA.out.ext Xd)) ?_
  rintro e wR ⟨rfl, x8⟩
  have X8 := Xd.trans x8
  have b8 := x8.keeps ba
  clear ba bb
  cases hc : checkB a with
  | false =>
    have hwk : IsSl wR (.slice none 0 0) 32 (linksL a).length ((linksL a).flatMap idC) := by rw [show linksL a = [] from by unfold linksL; rw [hc]; rfl]; exact IsSl.nil _ _
    have Xk : Ext w0 wR := X8
    obtain ⟨ls, hls⟩ : ∃ ls, linksL a = ls := ⟨_, rfl⟩
    have hok32 : ∀ q ∈ ls, q.length = 32 := by rw [← hls]; exact links_32 HA.out.ok
    have bk := Xk.keeps b3
    rw [hls] at hwk
    obtain ⟨aw, cw, hvw⟩ := sl_len hwk
    rw [hvw] at hwk ⊢
    have HWK := Lib.hid hwk
    clear hwk hvw
    go_wp2_with ((with_reducible refine at_load 30 (.tmp 3) ?_); refine wpl_load (by rfl) 30 (.tmp 3) rfl G (by rfl) 30 QA (0, 0) _ bk Try.underlying30 rfl HA.out.info ?_)
    refine Calls.mono (lawCopied _ _ _ _ _ a (HA.out.ext Xk) l1 l2 l3) ?_
    rintro ee w5 ⟨QC, vc1, vc2, vc3, rfl, hC, x5⟩
    go_wp2_with fail
    refine Calls.mono (objLinks _ QC _ _ _ a hC) ?_
    rintro ee w6 ⟨vl, rfl, hl, x6⟩
    have hW := (HWK.out.ext x5).ext x6
    rw [hls] at hl
    obtain ⟨al, cl, rfl⟩ := sl_len hl
    have hlc := (sl_cap hl).2.1
    have hwc := (sl_cap hW).2.1
    have hlm := (sl_cap hl).2.2
    have XX := (X0.trans Xk).trans (x5.trans x6)
    have HL := Lib.hid hl
    have HW := Lib.hid hW
    clear hl hW hC
    go_wp2_with fail
    go_loopg [82] ls.length (fun g sI wr => ∃ i : Nat, i ≤ ls.length ∧ ls.length - i ≤ g ∧ sI = .int .i64 i ∧ Ext w6 wr)
    case atStart => exact ⟨0, Nat.zero_le _, by omega, rfl, Ext.refl _⟩
    case round =>
      obtain ⟨i, hi, hg, rfl, xr⟩ := hrel
      by_cases hlt : i < ls.length
      · obtain ⟨p1, o1, rfl, hr1⟩ := ids_at HL.out hok32 i hlt
        obtain ⟨p2, o2, rfl, hr2⟩ := ids_at HW.out hok32 i hlt
        have hr1 := rangeAt_ext hr1 xr
        have hr2 := rangeAt_ext hr2 xr
        have hq32 := hok32 _ (List.getElem_mem hlt)
        generalize ls[i] = q at *
        have i0 : (0 : Int) ≤ (i : Int) := Int.natCast_nonneg _
        have i1 : (i : Int) < (ls.length : Int) := by omega
        have hneq := fun w => neq_idC w q q hq32 hq32
        simp only [show idEq q q = true from by unfold idEq; simp, Bool.not_true] at hneq
        go_wp2_with fail
        refine wp_region_ext (by kernel_rfl) fun wd hqd xd hHeld => ?_
        refine wpAnyH_take (i := 0) (v := ?vt0) rfl (by kernel_rfl) (by kernel_rfl) (by kernel_rfl) (fun _ _ _ h => h) (Or.inl ⟨by rfl, ?hyt0⟩) hHeld ?_
        case hyt0 => (intro w hSw; go_simp; try with_reducible rfl)
        simp only [Act.put, List.setIfInBounds_toArray, List.set_cons_zero, List.set_cons_succ, List.getElem_toArray, List.getElem_cons_zero, List.getElem_cons_succ]
        refine wpAnyH_take (i := 1) (v := ?vt1) rfl (by kernel_rfl) (by kernel_rfl) (by kernel_rfl) (fun _ _ _ h => h) (Or.inl ⟨by rfl, ?hyt1⟩) hHeld ?_
        case hyt1 => (intro w hSw; go_simp; try with_reducible rfl)
        simp only [Act.put, List.setIfInBounds_toArray, List.set_cons_zero, List.set_cons_succ, List.getElem_toArray, List.getElem_cons_zero, List.getElem_cons_succ]
        refine wpAnyH_take (i := 2) (v := ?vt2) rfl (by kernel_rfl) (by kernel_rfl) (by kernel_rfl) (fun _ _ _ h => h) (Or.inl ⟨by rfl, ?hyt2⟩) hHeld ?_
        case hyt2 => (intro w hSw; go_simp; try with_reducible rfl)
        simp only [Act.put, List.setIfInBounds_toArray, List.set_cons_zero, List.set_cons_succ, List.getElem_toArray, List.getElem_cons_zero, List.getElem_cons_succ]
        refine wpAnyH_take (i := 3) rfl (by kernel_rfl) (by kernel_rfl) (by kernel_rfl) (fun _ _ _ h => h) (yieldsIf_load_mid (by rfl) _ _ rfl _ _ rfl (idC q) _ (fun w h => rangeAt_ext hr1 (xd.trans h)) Try.underlying26 rfl (idC_info hq32)) hHeld ?_
        simp only [Act.put, List.setIfInBounds_toArray, List.set_cons_zero, List.set_cons_succ, List.getElem_toArray, List.getElem_cons_zero, List.getElem_cons_succ]
        refine wpAnyH_take (i := 4) (v := ?vt4) rfl (by kernel_rfl) (by kernel_rfl) (by kernel_rfl) (fun _ _ _ h => h) (Or.inl ⟨by rfl, ?hyt4⟩) hHeld ?_
        case hyt4 => (intro w hSw; go_simp; try with_reducible rfl)
        simp only [Act.put, List.setIfInBounds_toArray, List.set_cons_zero, List.set_cons_succ, List.getElem_toArray, List.getElem_cons_zero, List.getElem_cons_succ]
        refine wpAnyH_take (i := 5) (v := ?vt5) rfl (by kernel_rfl) (by kernel_rfl) (by kernel_rfl) (fun _ _ _ h => h) (Or.inl ⟨by rfl, ?hyt5⟩) hHeld ?_
        case hyt5 => (intro w hSw; go_simp; try with_reducible rfl)
        simp only [Act.put, List.setIfInBounds_toArray, List.set_cons_zero, List.set_cons_succ, List.getElem_toArray, List.getElem_cons_zero, List.getElem_cons_succ]
        refine wpAnyH_take (i := 6) (v := ?vt6) rfl (by kernel_rfl) (by kernel_rfl) (by kernel_rfl) (fun _ _ _ h => h) (Or.inl ⟨by rfl, ?hyt6⟩) hHeld ?_
        case hyt6 => (intro w hSw; go_simp; try with_reducible rfl)
        simp only [Act.put, List.setIfInBounds_toArray, List.set_cons_zero, List.set_cons_succ, List.getElem_toArray, List.getElem_cons_zero, List.getElem_cons_succ]
        refine wpAnyH_take (i := 7) rfl (by kernel_rfl) (by kernel_rfl) (by kernel_rfl) (fun _ _ _ h => h) (yieldsIf_load_mid (by rfl) _ _ rfl _ _ rfl (idC q) _ (fun w h => rangeAt_ext hr2 (xd.trans h)) Try.underlying26 rfl (idC_info hq32)) hHeld ?_
        simp only [Act.put, List.setIfInBounds_toArray, List.set_cons_zero, List.set_cons_succ, List.getElem_toArray, List.getElem_cons_zero, List.getElem_cons_succ]
        refine wpAnyH_take (i := 8) (v := ?vt8) rfl (by kernel_rfl) (by kernel_rfl) (by kernel_rfl) (fun _ _ _ h => h) (Or.inl ⟨by rfl, ?hyt8⟩) hHeld ?_
        case hyt8 => (intro w hSw; have k := hneq w; go_simp; try with_reducible rfl)
        simp only [Act.put, List.setIfInBounds_toArray, List.set_cons_zero, List.set_cons_succ, List.getElem_toArray, List.getElem_cons_zero, List.getElem_cons_succ]
        refine wpAnyH_done (by kernel_rfl) ?_ _
        refine NoPanic.normal ?_
        go_wp2_with fail
        go_roundg (ls.length - (i + 1))
        case measure => omega
        case rel => exact ⟨i + 1, by omega, by omega, by go_num, xr.trans xd⟩
      · have hie : i = ls.length := by omega
        subst hie
        go_wp2
        go_ret
        exact ⟨rfl, XX.trans xr⟩
  | true =>
    have hat := obj_at b8 HA.out.eq ho
    have c0 := hat.c0
    have c2 := hat.c2
    have ctree := hat.c3
    have cpar := hat.c4
    have HA8 := Lib.hid (HA.out.ext X8)
    have hve := Lib.hid HA8.out.ve
    have hvp := Lib.hid HA8.out.vp
    have hbn := ho.ents
    have hce : a.ents.length ≤ ce := by obtain ⟨_, _, _, e, h, _⟩ := hve.out; simp only [Value.slice.injEq] at e; omega
    have HL3 := Lib.hid (fun k => links_3 hc k)
    have HLN := Lib.hid (fun k => links_n hc k)
    have HLL := Lib.hid (links_len hc)
    clear hat
    obtain ⟨o, hoa⟩ : ∃ o, o = a := ⟨_, rfl⟩
    have HOA := Lib.hid hoa
    obtain ⟨es, hes⟩ : ∃ es, es = a.ents := ⟨_, rfl⟩
    have HES := Lib.hid hes
    have l2e := l2
    rw [← hes] at hbn hce hve c2 l2e
    clear hes hoa
    go_wp2_with fail
    have x0 := Ext.refl wR
    go_loopg [7, 51] es.length (fun g sL sI wr => ∃ i : Nat, i ≤ es.length ∧ es.length - i ≤ g ∧ sI = .int .i64 i ∧ wr.ownsRow wR.heap.size 26 32 sL i (lkC es i) ∧ Ext wR wr)
    case atStart => exact ⟨0, Nat.zero_le _, by omega, rfl, World.ownsRow_nil _ _ _ _, x0⟩
    case round =>
      clear x0
      obtain ⟨i, hi, hg, rfl, own, xr⟩ := hrel
      by_cases hlt : i < es.length
      · obtain ⟨p, off, rfl, hra⟩ := ent_at hve.out hbn i hlt
        have hok := hbn _ (List.getElem_mem hlt)
        have hnx := lk_next hlt
        have hra := rangeAt_ext hra xr
        generalize es[i] = e at *
        have HNX := Lib.hid hnx
        clear hnx
        have hl34 := entC_len hok
        have hinf := ent_info hok
        have hone := ent_one e
        have hi32 := id_info hok.1
        have i0 : (0 : Int) ≤ (i : Int) := Int.natCast_nonneg _
        have i1 : (i : Int) < (es.length : Int) := by omega
        have bn := heap_alloc_new wr (.cells (entC e).toArray 43)
        have xa : Ext wR (wr.alloc (.cells (entC e).toArray 43)) := xr.alloc _
        have owna := own.alloc (.cells (entC e).toArray 43)
        have hrid : (wr.alloc (.cells (entC e).toArray 43)).rangeAt wr.heap.size 2 (e.id.map bc) := fun j v hj => by
          rw [block_cell bn, List.getElem?_toArray, show entC e = [.string e.name, .bool e.folder] ++ e.id.map bc from rfl, List.getElem?_append_right (by simp), show 2 + j - [Value.string e.name, Value.bool e.folder].length = j from by simp]
          exact hj
        have hbl := fun w => build_one (P := Try.prog) w 27 26 32 Try.underlying27 infoIdS (by omega) (by omega) (e.id.map bc) (by rw [List.length_map]; exact hok.1)
        go_wp2_with (first
          | ((with_reducible refine at_load 43 (.tmp 53) ?_); refine wpl_mid (by rfl) 43 (.tmp 53) rfl p (off + i * 34) (by rfl) (entC e) _ hra Try.underlying43 rfl hinf ?_)
          | ((with_reducible refine at_store 43 (.tmp 9) (.tmp 54) ?_); refine wpl_store (by rfl) 43 (.tmp 9) (.tmp 54) rfl wr.heap.size (entC e).toArray (by rfl) (by rfl) 43 _ (heap_alloc_new _ _) (by simpa using hinf) (by simp [hl34]) (all_oneCell_toArray hone) ?_; rw [World.setRow_alloc_new])
          | ((with_reducible refine at_load 26 (.tmp 56) ?_); refine wpl_mid (by rfl) 26 (.tmp 56) rfl wr.heap.size 2 (by rfl) (e.id.map bc) _ hrid Try.underlying26 rfl hi32 ?_)
          | ((with_reducible refine at_build1 27 (.tmp 57) ?_); refine wpl_buildOne (by rfl) 27 (.tmp 57) rfl (e.id.map bc) (by rfl) (hbl _) ?_)
          | (at_builtin; refine wp_app (w := (wr.alloc (.cells (entC e).toArray 43)).alloc (.cells (e.id.map bc).toArray 26)) tyI rfl (.tmp 55) (.tmp 58) rfl wR.heap.size _ i _ (owna.alloc _) (by rfl) _ 1 (e.id.map bc) (sl_one_new (w := wr.alloc (.cells (entC e).toArray 43)) (n := 32) (e := 26) (Q := e.id.map bc) rfl (by rw [List.length_map]; exact hok.1)) (by rfl) (bc_one _) (by omega) (by omega) (xa.alloc _).size ?_; intro v6 w6 own6 gr6))
        go_roundg (es.length - (i + 1))
        case measure => omega
        case rel =>
          refine ⟨i + 1, by omega, by omega, by go_num, ?_, own_base (owna.alloc _) gr6 (xa.alloc _) (Nat.le_refl _)⟩
          rw [HNX.out]
          exact own6
      · have hie : i = es.length := by omega
        subst hie
        have c0 := xr.cell c0
        by_cases hk : a.kind = 3
        · have hl3 := HL3.out hk
          have hll := HLL.out
          rw [if_pos hk] at hll
          rw [← HES.out] at hl3 hll
          have HL0 := Lib.hid hl3
          have HLE0 := Lib.hid hll
          rw [hk] at c0
          clear hl3 hll hk
          go_wp2_with fail
          refine wp_region_S (fun v => Ext wR v) (by kernel_rfl) (fun w' h => xr.trans h) fun wd hqd xd hHeld => ?_
          refine wpAnyH_take (i := 0) (v := ?vr0) rfl (by kernel_rfl) (by kernel_rfl) (by kernel_rfl) (fun _ _ _ h => h) (Or.inl ⟨by rfl, ?hyr0⟩) hHeld ?_
          case hyr0 => (intro w hSw; go_simp; try with_reducible rfl)
          simp only [Act.put, List.setIfInBounds_toArray, List.set_cons_zero, List.set_cons_succ, List.getElem_toArray, List.getElem_cons_zero, List.getElem_cons_succ]
          refine wpAnyH_take (i := 1) (v := ?vr1) rfl (by kernel_rfl) (by kernel_rfl) (by kernel_rfl) (fun _ _ _ h => h) (Or.inl ⟨by rfl, ?hyr1⟩) hHeld ?_
          case hyr1 => (intro w hSw; go_simp; try with_reducible rfl)
          simp only [Act.put, List.setIfInBounds_toArray, List.set_cons_zero, List.set_cons_succ, List.getElem_toArray, List.getElem_cons_zero, List.getElem_cons_succ]
          refine wpAnyH_take (i := 2) rfl (by kernel_rfl) (by kernel_rfl) (by kernel_rfl) (fun _ _ _ h => h) (yieldsIf_load_mid (by rfl) _ _ rfl _ _ rfl (a.tree.map bc) _ (fun w h => rangeAt_ext ctree h) Try.underlying26 rfl (id_info ho.tree)) hHeld ?_
          simp only [Act.put, List.setIfInBounds_toArray, List.set_cons_zero, List.set_cons_succ, List.getElem_toArray, List.getElem_cons_zero, List.getElem_cons_succ]
          refine wpAnyH_take (i := 5) (v := ?vr5) rfl (by kernel_rfl) (by kernel_rfl) (by kernel_rfl) (fun _ _ _ h => h) (Or.inl ⟨by rfl, ?hyr5⟩) hHeld ?_
          case hyr5 => (intro w hSw; go_simp; try with_reducible rfl)
          simp only [Act.put, List.setIfInBounds_toArray, List.set_cons_zero, List.set_cons_succ, List.getElem_toArray, List.getElem_cons_zero, List.getElem_cons_succ]
          refine wpAnyH_take (i := 6) (v := ?vr6) rfl (by kernel_rfl) (by kernel_rfl) (by kernel_rfl) (fun _ _ _ h => h) (Or.inl ⟨by rfl, ?hyr6⟩) hHeld ?_
          case hyr6 => (intro w hSw; have k := hSw.cell cpar; go_simp; try with_reducible rfl)
          simp only [Act.put, List.setIfInBounds_toArray, List.set_cons_zero, List.set_cons_succ, List.getElem_toArray, List.getElem_cons_zero, List.getElem_cons_succ]
          have own := ownsRow_ext own xd
          refine wpAnyH_all (rs := [3]) (by kernel_rfl) (by simp) ?_
          intro i hi; obtain rfl : i = 3 := by simpa using hi
          have hbl := fun w => build_one (P := Try.prog) w 27 26 32 Try.underlying27 infoIdS (by omega) (by omega) (a.tree.map bc) (by rw [List.length_map]; exact ho.tree)
          refine wpOp_run rfl (by rfl) ?_
          refine wp_buildOne 27 (.tmp 66) rfl (a.tree.map bc) (by rfl) (hbl _) ?_
          have hHeld := hHeld.alloc (.cells (a.tree.map bc).toArray 26)
          have own := own.alloc (.cells (a.tree.map bc).toArray 26)
          refine ⟨hHeld, ?_⟩
          try simp only [Act.put, List.setIfInBounds_toArray, List.set_cons_zero, List.set_cons_succ, List.getElem_toArray, List.getElem_cons_zero, List.getElem_cons_succ]
          refine wpAnyH_all (rs := [4]) (by kernel_rfl) (by simp) ?_
          intro i hi; obtain rfl : i = 4 := by simpa using hi
          refine wpOp_run rfl (by rfl) ?_
          refine wp_appO (w := wd.alloc (.cells (a.tree.map bc).toArray 26)) tyI (.tmp 64) (.tmp 67) rfl wR.heap.size _ es.length _ own (by rfl) _ 1 (a.tree.map bc) (sl_one_new (w := wd) (n := 32) (e := 26) (Q := a.tree.map bc) rfl (by rw [List.length_map]; exact ho.tree)) (by rfl) (bc_one _) (by omega) (by omega) hHeld.size ?_
          intro v7 w7 own7 gr7
          have hHeld := own_base own gr7 hHeld (Nat.le_refl _)
          refine ⟨hHeld, ?_⟩
          try simp only [Act.put, List.setIfInBounds_toArray, List.set_cons_zero, List.set_cons_succ, List.getElem_toArray, List.getElem_cons_zero, List.getElem_cons_succ]
          refine wpAnyH_all (rs := [7]) (by kernel_rfl) (by simp) ?_
          intro i hi; obtain rfl : i = 7 := by simpa using hi
          refine wpOp_run rfl (by rfl) ?_
          refine wp_appO tyI (.tmp 68) (.tmp 70) rfl wR.heap.size v7 (es.length + 1) _ own7 (by rfl) (.slice ap a.pars.length cp) a.pars.length (a.pars.flatMap idC) (hvp.out.ext hHeld) (by rfl) (ids_one _) (by omega) (by omega) hHeld.size ?_
          intro v8 w8 own8 gr8
          have hHeld := own_base own7 gr8 hHeld (Nat.le_refl _)
          refine ⟨hHeld, ?_⟩
          try simp only [Act.put, List.setIfInBounds_toArray, List.set_cons_zero, List.set_cons_succ, List.getElem_toArray, List.getElem_cons_zero, List.getElem_cons_succ]
          refine wpAnyH_take (i := 8) (v := ?vr8) rfl (by kernel_rfl) (by kernel_rfl) (by kernel_rfl) (fun _ _ _ h => h) (Or.inl ⟨by rfl, ?hyr8⟩) hHeld ?_
          case hyr8 => (intro w hSw; go_simp; try with_reducible rfl)
          simp only [Act.put, List.setIfInBounds_toArray, List.set_cons_zero, List.set_cons_succ, List.getElem_toArray, List.getElem_cons_zero, List.getElem_cons_succ]
          refine wpAnyH_done (by kernel_rfl) ?_ _
          refine NoPanic.normal ?_
          have hwk : IsSl w8 v8 32 (linksL a).length ((linksL a).flatMap idC) := by rw [HL0.out, HLE0.out, show es.length + (1 + a.pars.length) = es.length + 1 + a.pars.length from by omega]; exact IsSl.of_owns own8
          have Xk : Ext w0 w8 := (X8.trans hHeld)
          obtain ⟨ls, hls⟩ : ∃ ls, linksL a = ls := ⟨_, rfl⟩
          have hok32 : ∀ q ∈ ls, q.length = 32 := by rw [← hls]; exact links_32 HA.out.ok
          have bk := Xk.keeps b3
          rw [hls] at hwk
          obtain ⟨aw, cw, hvw⟩ := sl_len hwk
          rw [hvw] at hwk ⊢
          have HWK := Lib.hid hwk
          clear hwk hvw
          go_wp2_with ((with_reducible refine at_load 30 (.tmp 3) ?_); refine wpl_load (by rfl) 30 (.tmp 3) rfl G (by rfl) 30 QA (0, 0) _ bk Try.underlying30 rfl HA.out.info ?_)
          refine Calls.mono (lawCopied _ _ _ _ _ a (HA.out.ext Xk) l1 l2 l3) ?_
          rintro ee w5 ⟨QC, vc1, vc2, vc3, rfl, hC, x5⟩
          go_wp2_with fail
          refine Calls.mono (objLinks _ QC _ _ _ a hC) ?_
          rintro ee w6 ⟨vl, rfl, hl, x6⟩
          have hW := (HWK.out.ext x5).ext x6
          rw [hls] at hl
          obtain ⟨al, cl, rfl⟩ := sl_len hl
          have hlc := (sl_cap hl).2.1
          have hwc := (sl_cap hW).2.1
          have hlm := (sl_cap hl).2.2
          have XX := (X0.trans Xk).trans (x5.trans x6)
          have HL := Lib.hid hl
          have HW := Lib.hid hW
          clear hl hW hC
          go_wp2_with fail
          go_loopg [82] ls.length (fun g sI wr => ∃ i : Nat, i ≤ ls.length ∧ ls.length - i ≤ g ∧ sI = .int .i64 i ∧ Ext w6 wr)
          case atStart => exact ⟨0, Nat.zero_le _, by omega, rfl, Ext.refl _⟩
          case round =>
            obtain ⟨i, hi, hg, rfl, xr⟩ := hrel
            by_cases hlt : i < ls.length
            · obtain ⟨p1, o1, rfl, hr1⟩ := ids_at HL.out hok32 i hlt
              obtain ⟨p2, o2, rfl, hr2⟩ := ids_at HW.out hok32 i hlt
              have hr1 := rangeAt_ext hr1 xr
              have hr2 := rangeAt_ext hr2 xr
              have hq32 := hok32 _ (List.getElem_mem hlt)
              generalize ls[i] = q at *
              have i0 : (0 : Int) ≤ (i : Int) := Int.natCast_nonneg _
              have i1 : (i : Int) < (ls.length : Int) := by omega
              have hneq := fun w => neq_idC w q q hq32 hq32
              simp only [show idEq q q = true from by unfold idEq; simp, Bool.not_true] at hneq
              go_wp2_with fail
              refine wp_region_ext (by kernel_rfl) fun wd hqd xd hHeld => ?_
              refine wpAnyH_take (i := 0) (v := ?vu0) rfl (by kernel_rfl) (by kernel_rfl) (by kernel_rfl) (fun _ _ _ h => h) (Or.inl ⟨by rfl, ?hyu0⟩) hHeld ?_
              case hyu0 => (intro w hSw; go_simp; try with_reducible rfl)
              simp only [Act.put, List.setIfInBounds_toArray, List.set_cons_zero, List.set_cons_succ, List.getElem_toArray, List.getElem_cons_zero, List.getElem_cons_succ]
              refine wpAnyH_take (i := 1) (v := ?vu1) rfl (by kernel_rfl) (by kernel_rfl) (by kernel_rfl) (fun _ _ _ h => h) (Or.inl ⟨by rfl, ?hyu1⟩) hHeld ?_
              case hyu1 => (intro w hSw; go_simp; try with_reducible rfl)
              simp only [Act.put, List.setIfInBounds_toArray, List.set_cons_zero, List.set_cons_succ, List.getElem_toArray, List.getElem_cons_zero, List.getElem_cons_succ]
              refine wpAnyH_take (i := 2) (v := ?vu2) rfl (by kernel_rfl) (by kernel_rfl) (by kernel_rfl) (fun _ _ _ h => h) (Or.inl ⟨by rfl, ?hyu2⟩) hHeld ?_
              case hyu2 => (intro w hSw; go_simp; try with_reducible rfl)
              simp only [Act.put, List.setIfInBounds_toArray, List.set_cons_zero, List.set_cons_succ, List.getElem_toArray, List.getElem_cons_zero, List.getElem_cons_succ]
              refine wpAnyH_take (i := 3) rfl (by kernel_rfl) (by kernel_rfl) (by kernel_rfl) (fun _ _ _ h => h) (yieldsIf_load_mid (by rfl) _ _ rfl _ _ rfl (idC q) _ (fun w h => rangeAt_ext hr1 (xd.trans h)) Try.underlying26 rfl (idC_info hq32)) hHeld ?_
              simp only [Act.put, List.setIfInBounds_toArray, List.set_cons_zero, List.set_cons_succ, List.getElem_toArray, List.getElem_cons_zero, List.getElem_cons_succ]
              refine wpAnyH_take (i := 4) (v := ?vu4) rfl (by kernel_rfl) (by kernel_rfl) (by kernel_rfl) (fun _ _ _ h => h) (Or.inl ⟨by rfl, ?hyu4⟩) hHeld ?_
              case hyu4 => (intro w hSw; go_simp; try with_reducible rfl)
              simp only [Act.put, List.setIfInBounds_toArray, List.set_cons_zero, List.set_cons_succ, List.getElem_toArray, List.getElem_cons_zero, List.getElem_cons_succ]
              refine wpAnyH_take (i := 5) (v := ?vu5) rfl (by kernel_rfl) (by kernel_rfl) (by kernel_rfl) (fun _ _ _ h => h) (Or.inl ⟨by rfl, ?hyu5⟩) hHeld ?_
              case hyu5 => (intro w hSw; go_simp; try with_reducible rfl)
              simp only [Act.put, List.setIfInBounds_toArray, List.set_cons_zero, List.set_cons_succ, List.getElem_toArray, List.getElem_cons_zero, List.getElem_cons_succ]
              refine wpAnyH_take (i := 6) (v := ?vu6) rfl (by kernel_rfl) (by kernel_rfl) (by kernel_rfl) (fun _ _ _ h => h) (Or.inl ⟨by rfl, ?hyu6⟩) hHeld ?_
              case hyu6 => (intro w hSw; go_simp; try with_reducible rfl)
              simp only [Act.put, List.setIfInBounds_toArray, List.set_cons_zero, List.set_cons_succ, List.getElem_toArray, List.getElem_cons_zero, List.getElem_cons_succ]
              refine wpAnyH_take (i := 7) rfl (by kernel_rfl) (by kernel_rfl) (by kernel_rfl) (fun _ _ _ h => h) (yieldsIf_load_mid (by rfl) _ _ rfl _ _ rfl (idC q) _ (fun w h => rangeAt_ext hr2 (xd.trans h)) Try.underlying26 rfl (idC_info hq32)) hHeld ?_
              simp only [Act.put, List.setIfInBounds_toArray, List.set_cons_zero, List.set_cons_succ, List.getElem_toArray, List.getElem_cons_zero, List.getElem_cons_succ]
              refine wpAnyH_take (i := 8) (v := ?vu8) rfl (by kernel_rfl) (by kernel_rfl) (by kernel_rfl) (fun _ _ _ h => h) (Or.inl ⟨by rfl, ?hyu8⟩) hHeld ?_
              case hyu8 => (intro w hSw; have k := hneq w; go_simp; try with_reducible rfl)
              simp only [Act.put, List.setIfInBounds_toArray, List.set_cons_zero, List.set_cons_succ, List.getElem_toArray, List.getElem_cons_zero, List.getElem_cons_succ]
              refine wpAnyH_done (by kernel_rfl) ?_ _
              refine NoPanic.normal ?_
              go_wp2_with fail
              go_roundg (ls.length - (i + 1))
              case measure => omega
              case rel => exact ⟨i + 1, by omega, by omega, by go_num, xr.trans xd⟩
            · have hie : i = ls.length := by omega
              subst hie
              go_wp2
              go_ret
              exact ⟨rfl, XX.trans xr⟩
        · have hln := HLN.out hk
          have hll := HLL.out
          rw [if_neg hk, Nat.add_zero] at hll
          rw [← HES.out] at hln hll
          have HL0 := Lib.hid hln
          have HLE0 := Lib.hid hll
          have hk3 : (a.kind == 3) = false := by simpa using hk
          clear hln hll hk
          have hwk := IsSl.of_owns own
          rw [← HL0.out, ← HLE0.out] at hwk
          have Xk : Ext w0 wr := (X8.trans xr)
          obtain ⟨ls, hls⟩ : ∃ ls, linksL a = ls := ⟨_, rfl⟩
          have hok32 : ∀ q ∈ ls, q.length = 32 := by rw [← hls]; exact links_32 HA.out.ok
          have bk := Xk.keeps b3
          rw [hls] at hwk
          obtain ⟨aw, cw, hvw⟩ := sl_len hwk
          rw [hvw] at hwk ⊢
          have HWK := Lib.hid hwk
          clear hwk hvw
          go_wp2_with ((with_reducible refine at_load 30 (.tmp 3) ?_); refine wpl_load (by rfl) 30 (.tmp 3) rfl G (by rfl) 30 QA (0, 0) _ bk Try.underlying30 rfl HA.out.info ?_)
          refine Calls.mono (lawCopied _ _ _ _ _ a (HA.out.ext Xk) l1 l2 l3) ?_
          rintro ee w5 ⟨QC, vc1, vc2, vc3, rfl, hC, x5⟩
          go_wp2_with fail
          refine Calls.mono (objLinks _ QC _ _ _ a hC) ?_
          rintro ee w6 ⟨vl, rfl, hl, x6⟩
          have hW := (HWK.out.ext x5).ext x6
          rw [hls] at hl
          obtain ⟨al, cl, rfl⟩ := sl_len hl
          have hlc := (sl_cap hl).2.1
          have hwc := (sl_cap hW).2.1
          have hlm := (sl_cap hl).2.2
          have XX := (X0.trans Xk).trans (x5.trans x6)
          have HL := Lib.hid hl
          have HW := Lib.hid hW
          clear hl hW hC
          go_wp2_with fail
          go_loopg [82] ls.length (fun g sI wr => ∃ i : Nat, i ≤ ls.length ∧ ls.length - i ≤ g ∧ sI = .int .i64 i ∧ Ext w6 wr)
          case atStart => exact ⟨0, Nat.zero_le _, by omega, rfl, Ext.refl _⟩
          case round =>
            obtain ⟨i, hi, hg, rfl, xr⟩ := hrel
            by_cases hlt : i < ls.length
            · obtain ⟨p1, o1, rfl, hr1⟩ := ids_at HL.out hok32 i hlt
              obtain ⟨p2, o2, rfl, hr2⟩ := ids_at HW.out hok32 i hlt
              have hr1 := rangeAt_ext hr1 xr
              have hr2 := rangeAt_ext hr2 xr
              have hq32 := hok32 _ (List.getElem_mem hlt)
              generalize ls[i] = q at *
              have i0 : (0 : Int) ≤ (i : Int) := Int.natCast_nonneg _
              have i1 : (i : Int) < (ls.length : Int) := by omega
              have hneq := fun w => neq_idC w q q hq32 hq32
              simp only [show idEq q q = true from by unfold idEq; simp, Bool.not_true] at hneq
              go_wp2_with fail
              refine wp_region_ext (by kernel_rfl) fun wd hqd xd hHeld => ?_
              refine wpAnyH_take (i := 0) (v := ?vv0) rfl (by kernel_rfl) (by kernel_rfl) (by kernel_rfl) (fun _ _ _ h => h) (Or.inl ⟨by rfl, ?hyv0⟩) hHeld ?_
              case hyv0 => (intro w hSw; go_simp; try with_reducible rfl)
              simp only [Act.put, List.setIfInBounds_toArray, List.set_cons_zero, List.set_cons_succ, List.getElem_toArray, List.getElem_cons_zero, List.getElem_cons_succ]
              refine wpAnyH_take (i := 1) (v := ?vv1) rfl (by kernel_rfl) (by kernel_rfl) (by kernel_rfl) (fun _ _ _ h => h) (Or.inl ⟨by rfl, ?hyv1⟩) hHeld ?_
              case hyv1 => (intro w hSw; go_simp; try with_reducible rfl)
              simp only [Act.put, List.setIfInBounds_toArray, List.set_cons_zero, List.set_cons_succ, List.getElem_toArray, List.getElem_cons_zero, List.getElem_cons_succ]
              refine wpAnyH_take (i := 2) (v := ?vv2) rfl (by kernel_rfl) (by kernel_rfl) (by kernel_rfl) (fun _ _ _ h => h) (Or.inl ⟨by rfl, ?hyv2⟩) hHeld ?_
              case hyv2 => (intro w hSw; go_simp; try with_reducible rfl)
              simp only [Act.put, List.setIfInBounds_toArray, List.set_cons_zero, List.set_cons_succ, List.getElem_toArray, List.getElem_cons_zero, List.getElem_cons_succ]
              refine wpAnyH_take (i := 3) rfl (by kernel_rfl) (by kernel_rfl) (by kernel_rfl) (fun _ _ _ h => h) (yieldsIf_load_mid (by rfl) _ _ rfl _ _ rfl (idC q) _ (fun w h => rangeAt_ext hr1 (xd.trans h)) Try.underlying26 rfl (idC_info hq32)) hHeld ?_
              simp only [Act.put, List.setIfInBounds_toArray, List.set_cons_zero, List.set_cons_succ, List.getElem_toArray, List.getElem_cons_zero, List.getElem_cons_succ]
              refine wpAnyH_take (i := 4) (v := ?vv4) rfl (by kernel_rfl) (by kernel_rfl) (by kernel_rfl) (fun _ _ _ h => h) (Or.inl ⟨by rfl, ?hyv4⟩) hHeld ?_
              case hyv4 => (intro w hSw; go_simp; try with_reducible rfl)
              simp only [Act.put, List.setIfInBounds_toArray, List.set_cons_zero, List.set_cons_succ, List.getElem_toArray, List.getElem_cons_zero, List.getElem_cons_succ]
              refine wpAnyH_take (i := 5) (v := ?vv5) rfl (by kernel_rfl) (by kernel_rfl) (by kernel_rfl) (fun _ _ _ h => h) (Or.inl ⟨by rfl, ?hyv5⟩) hHeld ?_
              case hyv5 => (intro w hSw; go_simp; try with_reducible rfl)
              simp only [Act.put, List.setIfInBounds_toArray, List.set_cons_zero, List.set_cons_succ, List.getElem_toArray, List.getElem_cons_zero, List.getElem_cons_succ]
              refine wpAnyH_take (i := 6) (v := ?vv6) rfl (by kernel_rfl) (by kernel_rfl) (by kernel_rfl) (fun _ _ _ h => h) (Or.inl ⟨by rfl, ?hyv6⟩) hHeld ?_
              case hyv6 => (intro w hSw; go_simp; try with_reducible rfl)
              simp only [Act.put, List.setIfInBounds_toArray, List.set_cons_zero, List.set_cons_succ, List.getElem_toArray, List.getElem_cons_zero, List.getElem_cons_succ]
              refine wpAnyH_take (i := 7) rfl (by kernel_rfl) (by kernel_rfl) (by kernel_rfl) (fun _ _ _ h => h) (yieldsIf_load_mid (by rfl) _ _ rfl _ _ rfl (idC q) _ (fun w h => rangeAt_ext hr2 (xd.trans h)) Try.underlying26 rfl (idC_info hq32)) hHeld ?_
              simp only [Act.put, List.setIfInBounds_toArray, List.set_cons_zero, List.set_cons_succ, List.getElem_toArray, List.getElem_cons_zero, List.getElem_cons_succ]
              refine wpAnyH_take (i := 8) (v := ?vv8) rfl (by kernel_rfl) (by kernel_rfl) (by kernel_rfl) (fun _ _ _ h => h) (Or.inl ⟨by rfl, ?hyv8⟩) hHeld ?_
              case hyv8 => (intro w hSw; have k := hneq w; go_simp; try with_reducible rfl)
              simp only [Act.put, List.setIfInBounds_toArray, List.set_cons_zero, List.set_cons_succ, List.getElem_toArray, List.getElem_cons_zero, List.getElem_cons_succ]
              refine wpAnyH_done (by kernel_rfl) ?_ _
              refine NoPanic.normal ?_
              go_wp2_with fail
              go_roundg (ls.length - (i + 1))
              case measure => omega
              case rel => exact ⟨i + 1, by omega, by omega, by go_num, xr.trans xd⟩
            · have hie : i = ls.length := by omega
              subst hie
              go_wp2
              go_ret
              exact ⟨rfl, XX.trans xr⟩
theorem walkObjectTells (w : World) (va : Value) (a : ObjL) (ha : ArgObj w va a) (vb : Value) (b : ObjL) (hb : ArgObj w vb b) (s : ByteArray) (hs : s.size ≤ 140737488351232) :
    Calls Try.prog 5 #[va, vb, .string s] w fun e w' => e = .returned (.bool true) ∧ Below w.heap.size w w' := by
  obtain ⟨QA, a1, a2, a3, rfl, ha⟩ := ha
  obtain ⟨QB, b1, b2, b3, rfl, hb⟩ := hb
  exact walkTells0 w QA QB a1 a2 a3 b1 b2 b3 a b s ha hb (by omega)
end Go.Proofs.Ytcdlmappcbbacaa
