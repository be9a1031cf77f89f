/- Backup: one letter; Tick. -/
import Derived.Test.YtkcddcomjbihgaaDoorBkM
namespace Go.Proofs.YtkcddcomjbihgaaDoor
open Go.RowKit
set_option linter.unusedVariables false
set_option linter.unusedSimpArgs false

theorem own_new (w : World) (l : List Value) (n size base : Nat) (e : TypeId) (hb : base ≤ w.heap.size) (hl : l.length = n * size) (hm : n ≤ maxLen) : (w.alloc (.cells l.toArray e)).ownsRow base e size (.slice (some ⟨w.heap.size, 0, none⟩) n n) n l :=
  ⟨hl, .inr ⟨w.heap.size, n, l.toArray, rfl, hb, heap_alloc_new w _, Nat.le_refl _, hm, by simp [hl], by simp [← hl]⟩⟩
/-- A row of one letter, new. -/
theorem lt_one {w : World} {base : Nat} {e : LtE} {u : Hd} (hb : base ≤ w.heap.size) (h : OwnB w base (.slice u.1 e.b.length u.2) e.b) : LtOwn (w.alloc (.cells (ltV e u).toArray 88)) base (.slice (some ⟨w.heap.size, 0, none⟩) 1 1) [e] [u] := by
  refine ⟨rfl, ?_, ?_⟩
  · have := own_new w (ltV e u) 1 2 base 88 hb rfl (by decide)
    simpa [ltCs] using this
  · intro i hi v hv
    obtain rfl : i = 0 := by simp at hi; omega
    simp only [List.getElem?_cons_zero, Option.some.injEq] at hv
    subst hv
    exact ownsRow_ext h ((Ext.refl w).alloc _)
theorem m0Ok : mkOk m0 := ⟨by decide, by decide⟩
def tickErr (p : Pr) : Int := if rightB p = false then 360 else 0
def tickL (p : Pr) (us : List Hd) : List LtE :=
  if rightB p = false then [] else if secB p = true then [⟨otherI p, encN ⟨1, p.v.n, lastM p, m0, []⟩⟩] else if p.known = true then behL p p.acked us else []
def TickPost (w : World) (p : Pr) (us : List Hd) (e : Ending) (w' : World) : Prop := ∃ v uo, e = .returned (.tuple #[v, .int .i64 (tickErr p)]) ∧ LtOwn w' w.heap.size v (tickL p us) uo ∧ Ext w w'
set_option maxHeartbeats 2000000 in
set_option maxRecDepth 100000 in
theorem bkTick (w : World) (vl : Value) (p : Pr) (us : List Hd) (hok : ∀ e ∈ p.log, lgOk e) (hbl : ∀ e ∈ p.log, e.b.length ≤ 50000) (hus : IsLgU w vl p.log us) (hp : PrOk p) (hK : Tabs w) :
    Calls Tryd.prog 20 #[.agg #[.int .i64 p.me, .int .u32 (p.v.n : Int), .int .i64 p.v.p, .int .i64 p.v.b, .int .u32 (p.base.1 : Int), .int .u32 (p.base.2 : Int), vl, .bool p.known, .bool p.joined, .bool p.instep, .int .u32 (p.acked : Int)]] w (TickPost w p us) := by
  obtain ⟨ao, cap, rfl, -⟩ := hus.opened
  go_enter Tryd.func20, Tryd.ntmps20
  go_upto_region 1 with fail
  refine wp_forget (fun W => IsLgU W (.slice ao p.log.length cap) p.log us ∧ Tabs W ∧ Ext w W ∧ W.heap[w.heap.size]? = some (.cells #[.int .i64 p.me, .int .u32 (p.v.n : Int), .int .i64 p.v.p, .int .i64 p.v.b, .int .u32 (p.base.1 : Int), .int .u32 (p.base.2 : Int), (.slice ao p.log.length cap), .bool p.known, .bool p.joined, .bool p.instep, .int .u32 (p.acked : Int)] 47 (0, 0))) ⟨hus.ext ((Ext.refl w).alloc _), hK.ext ((Ext.refl w).alloc _), (Ext.refl w).alloc _, heap_alloc_new w _⟩ ?_
  rintro W ⟨hus, hK, X, bP⟩
  have hl : IsLg W (.slice ao p.log.length cap) p.log := ⟨hok, us, hus⟩
  have HX := Lib.hid X
  have HL := Lib.hid hl
  have HU := Lib.hid hus
  have HK := Lib.hid hK
  have hc := block_all bP
  clear X hl hus hK
  cases hr : rightB p with
  | false =>
    have HR := Lib.hid hr
    have HE := Lib.hid (show tickErr p = 360 by unfold tickErr; rw [if_pos hr])
    have HT := Lib.hid (show tickL p us = [] by unfold tickL; rw [if_pos hr])
    clear hr
    go_wp2_with fail
    refine (bkCheckF _ _ p HL.out hp HR.out).mono ?_
    rintro e w1 ⟨rfl, y⟩
    go_wp2_with fail
    exact bodyPost_ret (results_tmp2 (t := 2) (u := 3) rfl _ _ _) rfl ⟨.slice none 0 0, [], by rw [HE.out]; rfl, by rw [HT.out]; exact LtOwn.nil _ _, HX.out.trans y⟩
  | true =>
    have HR := Lib.hid hr
    have r1 := Lib.hid (show ¬ rightB p = false by rw [hr]; decide)
    have HE := Lib.hid (show tickErr p = 0 by unfold tickErr; rw [if_neg (by rw [hr]; decide)])
    clear hr
    go_wp2_with fail
    refine (bkCheckT _ _ p HL.out hp HR.out).mono ?_
    rintro e w1 ⟨rfl, y⟩
    have bP := y.keeps bP
    have HX := Lib.hid (HX.out.trans y)
    have HL := Lib.hid (HL.out.ext y)
    have HU := Lib.hid (HU.out.ext y)
    have HK := Lib.hid (HK.out.ext y)
    have hc := block_all bP
    clear y
    go_wp2_with fail
    refine (bkSecond _ _ p).mono ?_
    rintro e w2 ⟨rfl, y⟩
    have bP := y.keeps bP
    have HX := Lib.hid (HX.out.trans y)
    have HL := Lib.hid (HL.out.ext y)
    have HU := Lib.hid (HU.out.ext y)
    have HK := Lib.hid (HK.out.ext y)
    have hc := block_all bP
    have hXz := HX.out.size
    clear y
    cases hs : secB p with
    | true =>
      have HT := Lib.hid (show tickL p us = [⟨otherI p, encN ⟨1, p.v.n, lastM p, m0, []⟩⟩] by unfold tickL; rw [if_neg r1.out, if_pos hs])
      have HM := Lib.hid (lastM_ok hp hok)
      clear hs
      have KP := fun v (h : Ext w2 v) => block_all (h.keeps bP)
      clear hc bP
      go_upto_region 4 with fail
      refine wp_region_G 7 (fun v => Ext w2 v) (by kernel_rfl) fun wd hqd hHeld => ?_
      refine G_take (i := 0) (u := ?va0) rfl (by kernel_rfl) (by kernel_rfl) (by kernel_rfl) (fun _ _ _ h => h) rfl (by kernel_rfl) (by decide) (by rfl) (Or.inl ⟨by rfl, ?hya0⟩) hHeld ?_
      case hya0 => (intro w hSw; go_simp; try with_reducible rfl)
      simp only [Act.put, List.setIfInBounds_toArray, List.set_cons_zero, List.set_cons_succ, List.getElem_toArray, List.getElem_cons_zero, List.getElem_cons_succ]
      refine G_take (i := 1) (u := ?va1) rfl (by kernel_rfl) (by kernel_rfl) (by kernel_rfl) (fun _ _ _ h => h) rfl (by kernel_rfl) (by decide) (by rfl) (Or.inl ⟨by rfl, ?hya1⟩) hHeld ?_
      case hya1 => (intro w hSw; go_simp; try with_reducible rfl)
      simp only [Act.put, List.setIfInBounds_toArray, List.set_cons_zero, List.set_cons_succ, List.getElem_toArray, List.getElem_cons_zero, List.getElem_cons_succ]
      refine G_all (rs := [2]) (by kernel_rfl) (by simp) ?_
      intro i hi; obtain rfl : i = 2 := by simpa using hi
      refine wpOp_run rfl (by rfl) ?_
      go_simp
      refine Calls.mono (bkLast _ _ p (HL.out.ext hHeld)) ?_
      rintro e w4 ⟨rfl, x4⟩
      have hHeld := hHeld.trans x4
      first | refine ⟨fun _ => hHeld, ?_⟩ | refine ⟨hHeld, ?_⟩
      try simp only [Act.put, List.setIfInBounds_toArray, List.set_cons_zero, List.set_cons_succ, List.getElem_toArray, List.getElem_cons_zero, List.getElem_cons_succ]
      refine G_pure (i := 3) (u := ?va3) rfl (by kernel_rfl) (by kernel_rfl) (by kernel_rfl) (fun _ _ _ h => h) (by decide) (Or.inl ⟨by rfl, ?hya3⟩) hHeld ?_
      case hya3 => (intro w hSw; go_simp; try with_reducible rfl)
      simp only [Act.put, List.setIfInBounds_toArray, List.set_cons_zero, List.set_cons_succ, List.getElem_toArray, List.getElem_cons_zero, List.getElem_cons_succ]
      refine G_all (rs := [4]) (by kernel_rfl) (by simp) ?_
      intro i hi; obtain rfl : i = 4 := by simpa using hi
      refine wpOp_run rfl (by rfl) ?_
      go_simp
      refine Calls.mono (bkLetter _ _ (.slice none 0 0) p ⟨1, 0, lastM p, m0, []⟩ (IsB.nil _) hp ⟨(by show i64Ok 1; constructor <;> decide), (by show (0:Nat) < _; omega), HM.out, m0Ok⟩ (by show (0:Nat) ≤ _; omega) (HK.out.ext hHeld)) ?_
      rintro e w5 ⟨v5, rfl, own5, x5⟩
      have own5 := ownsRow_base own5 (Nat.le_trans hXz hHeld.size)
      obtain ⟨a5, c5, rfl⟩ := own_shape own5
      have hHeld := hHeld.trans x5
      first | refine ⟨fun _ => hHeld, ?_⟩ | refine ⟨hHeld, ?_⟩
      try simp only [Act.put, List.setIfInBounds_toArray, List.set_cons_zero, List.set_cons_succ, List.getElem_toArray, List.getElem_cons_zero, List.getElem_cons_succ]
      refine G_all (rs := [5]) (by kernel_rfl) (by simp) ?_
      intro i hi; obtain rfl : i = 5 := by simpa using hi
      refine wpOp_run rfl (by rfl) ?_
      refine wp_buildOne 49 (.tmp 15) rfl (ltV ⟨otherI p, encN ⟨1, p.v.n, lastM p, m0, []⟩⟩ (a5, c5)) (by rfl) (build_one _ 49 88 2 Tryd.underlying49 infoLt2 (by omega) (by omega) _ rfl) ?_
      have xb : Ext w5 (w5.alloc (.cells (ltV ⟨otherI p, encN ⟨1, p.v.n, lastM p, m0, []⟩⟩ (a5, c5)).toArray 88)) := (Ext.refl w5).alloc _
      have LO := lt_one (Nat.le_trans hXz hHeld.size) (e := ⟨otherI p, encN ⟨1, p.v.n, lastM p, m0, []⟩⟩) (u := (a5, c5)) own5
      have hHeld := hHeld.trans xb
      first | refine ⟨fun _ => hHeld, ?_⟩ | refine ⟨hHeld, ?_⟩
      try simp only [Act.put, List.setIfInBounds_toArray, List.set_cons_zero, List.set_cons_succ, List.getElem_toArray, List.getElem_cons_zero, List.getElem_cons_succ]
      refine G_pure (i := 6) (u := ?va6) rfl (by kernel_rfl) (by kernel_rfl) (by kernel_rfl) (fun _ _ _ h => h) (by decide) (Or.inl ⟨by rfl, ?hya6⟩) hHeld ?_
      case hya6 => (intro w hSw; go_simp; try with_reducible rfl)
      simp only [Act.put, List.setIfInBounds_toArray, List.set_cons_zero, List.set_cons_succ, List.getElem_toArray, List.getElem_cons_zero, List.getElem_cons_succ]
      refine G_all (rs := [7]) (by kernel_rfl) (by simp) ?_
      intro i hi; obtain rfl : i = 7 := by simpa using hi
      refine wpOp_run rfl (by rfl) ?_
      go_simp
      try refine ⟨fun e => absurd e (by decide), ?_⟩
      refine G_free _ _ _ _ (by kernel_rfl) ?_
      try simp only [Act.put, List.setIfInBounds_toArray, List.set_cons_zero, List.set_cons_succ, List.getElem_toArray, List.getElem_cons_zero, List.getElem_cons_succ]
      refine wpAny_done (by kernel_rfl) ?_ _
      refine NoPanic.normal ?_
      go_wp2_with fail
      exact bodyPost_ret (results_tmp2 (t := 2) (u := 3) rfl _ _ _) rfl ⟨.slice (some ⟨w5.heap.size, 0, none⟩) 1 1, [(a5, c5)], by rw [HE.out]; rfl, by rw [HT.out]; exact LO, HX.out.trans hHeld⟩
    | false =>
      have r2 := Lib.hid (show ¬ secB p = true by rw [hs]; decide)
      clear hs
      cases hkn : p.known with
      | true =>
        have HT := Lib.hid (show tickL p us = behL p p.acked us by unfold tickL; rw [if_neg r1.out, if_neg r2.out, if_pos hkn])
        have C1 := fun v (h : Ext w2 v) => bkBehind v (.slice ao p.log.length cap) p us p.acked hok hbl (HU.out.ext h) hp hp.acked (HK.out.ext h)
        simp only [hkn] at C1
        have C1 := Lib.hid C1
        go_wp2_with fail
        refine (C1.out _ (Ext.refl _)).mono ?_
        rintro e w5 ⟨v5, u5, rfl, lo, y⟩
        go_wp2_with fail
        exact bodyPost_ret (results_tmp2 (t := 2) (u := 3) rfl _ _ _) rfl ⟨v5, u5, by rw [HE.out]; rfl, by rw [HT.out]; exact lo.base hXz, HX.out.trans y⟩
      | false =>
        have HT := Lib.hid (show tickL p us = [] by unfold tickL; rw [if_neg r1.out, if_neg r2.out, if_neg (by rw [hkn]; decide)])
        go_wp2_with fail
        exact bodyPost_ret (results_tmp2 (t := 2) (u := 3) rfl _ _ _) rfl ⟨.slice none 0 0, [], by rw [HE.out]; rfl, by rw [HT.out]; exact LtOwn.nil _ _, HX.out⟩
end Go.Proofs.YtkcddcomjbihgaaDoor
