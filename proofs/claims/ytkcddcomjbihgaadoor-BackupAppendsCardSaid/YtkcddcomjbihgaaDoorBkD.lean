/- Backup: Check. -/
import Derived.Test.YtkcddcomjbihgaaDoorBkC
import Derived.Test.YtkcddcomjbihgaaDoorRegG
import Derived.Test.YtkcddcomjbihgaaDoorRegC
import Derived.BigGuardPartIn
import Derived.Deep.DeepCutAuto
namespace Go.Proofs.YtkcddcomjbihgaaDoor
open Go.RowKit Go.Shelf
attribute [local go_sem] Oper.semAt_some
set_option linter.unusedVariables false
set_option linter.unusedSimpArgs false

def chk0 (p : Pr) : Bool := serverB p.me && (viewedB p.v || veq p.v v0) && decide (p.log.length ≤ 16)
def chk1 (p : Pr) : Bool := chk0 p && (meq p.base m0 && (p.log.length : Int) == 0 || decide (0 < p.base.1) && decide (p.base.1 ≤ p.v.n))
def okEn (vn : Nat) (x : En) : Bool := ((x.1.2 : Int) + 1) % 4294967296 == x.2.1.m.2 && decide (0 < x.2.1.m.2) && decide (x.1.1 ≤ x.2.1.m.1) && decide (x.2.1.m.1 ≤ vn) && decide (x.2.1.b.length ≤ 40000)
/-- What stands in memory as Check goes on. -/
def CkSt (w : World) (vl : Value) (p : Pr) (B : Nat) (c : Bool) (wx : World) : Prop :=
  Ext w wx ∧ wx.heap[B]? = some (.cells #[.bool c] 4 (0, 0)) ∧ wx.heap[w.heap.size]? = some (.cells #[.int .i64 p.me, .int .u32 (p.v.n : Int), .int .i64 p.v.p, .int .i64 p.v.b, .int .u32 (p.base.1 : Int), .int .u32 (p.base.2 : Int), vl, .bool p.known, .bool p.joined, .bool p.instep, .int .u32 (p.acked : Int)] 47 (0, 0)) ∧ wx.heap[w.heap.size + 1]? = some (.cells #[.int .u32 0, .int .u32 0] 27 (0, 0)) ∧ w.heap.size + 2 ≤ B
theorem CkSt.set {w : World} {vl : Value} {p : Pr} {B : Nat} {c : Bool} {wx : World} (h : CkSt w vl p B c wx) {d e : Bool} (hd : d = e) : CkSt w vl p B e (wx.setCell ⟨B, 0, none⟩ (.bool d)) := by
  subst hd
  obtain ⟨h1, h2, h3, h4, h5⟩ := h
  refine ⟨h1.setCell (by show _ ≤ B; omega) _, ?_, set_other h3 (by omega), set_other h4 (by omega), h5⟩
  have := block_setCell h2 (i := 0) (.bool d)
  simpa using this
theorem CkSt.ext {w : World} {vl : Value} {p : Pr} {B : Nat} {c : Bool} {wx wy : World} (h : CkSt w vl p B c wx) (x : Ext wx wy) : CkSt w vl p B c wy :=
  ⟨h.1.trans x, x.keeps h.2.1, x.keeps h.2.2.1, x.keeps h.2.2.2.1, h.2.2.2.2⟩
def CkD (w : World) (vl : Value) (p : Pr) (B : Nat) (c : Bool) (D : Nat) (wx : World) : Prop := CkSt w vl p B c wx ∧ wx.heap[D]? = some (.deferred (some []))
theorem CkD.set {w : World} {vl : Value} {p : Pr} {B D : Nat} {c : Bool} {wx : World} (h : CkD w vl p B c D wx) {d e : Bool} (hd : d = e) : CkD w vl p B e D (wx.setCell ⟨B, 0, none⟩ (.bool d)) :=
  ⟨h.1.set hd, (KeepsOthers.setCell wx ⟨B, 0, none⟩ _).same D _ h.2 rfl⟩
theorem CkD.ext {w : World} {vl : Value} {p : Pr} {B D : Nat} {c : Bool} {wx wy : World} (h : CkD w vl p B c D wx) (x : Ext wx wy) : CkD w vl p B c D wy := ⟨h.1.ext x, x.keeps h.2⟩
def chk4 (p : Pr) (c : Bool) : Bool := if (!primB p || p.v.b == 0) = true then c && !p.known else c
def chk5 (p : Pr) (c : Bool) : Bool := chk4 p c && (p.known || (p.acked : Int) == 0)
def chkE (p : Pr) (c : Bool) : Bool := chk5 p c && (!(p.joined && !secB p) && !(p.instep && !p.joined))
def chkAll (p : Pr) (us : List Hd) : Bool := chkE p (chk1 p && (entsL p.base p.log us).all (okEn p.v.n) && decide (p.acked ≤ (lastM p).2))
theorem bool_blk {w : World} {g : Nat} {a c : Bool} {t : TypeId} {f : Nat × Nat} (h : w.heap[g]? = some (.cells #[.bool a] t f)) (e : a = c) : w.heap[g]? = some (.cells #[.bool c] t f) := by rw [← e]; exact h
set_option maxHeartbeats 400000 in
theorem bkEntries (w : World) (vl : Value) (p : Pr) :
    Calls Tryd.prog 66 #[.agg #[.int .i64 p.me, .int .u32 (p.v.n : Int), .int .i64 p.v.p, .int .i64 p.v.b, .int .u32 (p.base.1 : Int), .int .u32 (p.base.2 : Int), vl, .bool p.known, .bool p.joined, .bool p.instep, .int .u32 (p.acked : Int)]] w fun e w' => e = .returned (.func (.func 90) #[] #[.pointer (some ⟨w.heap.size, 0, none⟩)]) ∧ w'.heap[w.heap.size]? = some (.cells #[.int .i64 p.me, .int .u32 (p.v.n : Int), .int .i64 p.v.p, .int .i64 p.v.b, .int .u32 (p.base.1 : Int), .int .u32 (p.base.2 : Int), vl, .bool p.known, .bool p.joined, .bool p.instep, .int .u32 (p.acked : Int)] 47 (0, 0)) ∧ Ext w w' := by
  go_enter Tryd.func66, Tryd.ntmps66
  go_wp2
  go_ret
  exact ⟨rfl, heap_alloc_new w _, (Ext.refl w).alloc _⟩
set_option maxHeartbeats 4000000 in
set_option maxRecDepth 100000 in
theorem bkCheckU (w : World) (vl : Value) (p : Pr) (us : List Hd) (hok : ∀ e ∈ p.log, lgOk e) (hus : IsLgU w vl p.log us) :
    Calls Tryd.prog 23 #[.agg #[.int .i64 p.me, .int .u32 (p.v.n : Int), .int .i64 p.v.p, .int .i64 p.v.b, .int .u32 (p.base.1 : Int), .int .u32 (p.base.2 : Int), vl, .bool p.known, .bool p.joined, .bool p.instep, .int .u32 (p.acked : Int)]] w fun e w' => e = .returned (.int .i64 (if chkAll p us = true then 0 else 360)) ∧ Ext w w' := by
  obtain ⟨ao, cap, rfl, b1, m1, z1, g1⟩ := hus.opened
  clear g1 z1
  obtain ⟨R, hR⟩ : ∃ R, (if chkAll p us = true then (0 : Int) else 360) = R := ⟨_, rfl⟩
  rw [hR]
  have HR := Lib.hid hR
  clear hR
  refine (callsIn_wide (n := 7)).1 ?_
  refine callsIn_of_wp_marks Tryd.func23 rfl trivial ?_ rfl
  simp only [Tryd.ntmps23, List.size_toArray, List.length_cons, List.length_nil, Nat.reduceAdd, Nat.reduceSub, Array.replicate_succ, Array.replicate_zero, List.push_toArray, List.append_toArray, List.nil_append, List.cons_append]
  refine wpIn_wide.2 ?_
  go_upto_region 2 with fail
  go_cut [4] from 7 to 27 (fun t4 wx => ∃ B, t4 = .pointer (some ⟨B, 0, none⟩) ∧ CkSt w (.slice ao p.log.length cap) p B (chk0 p) wx)
  case first =>
    have hveq := vwEql0
    have X := ((Ext.refl w).alloc (.cells #[.int .i64 p.me, .int .u32 (p.v.n : Int), .int .i64 p.v.p, .int .i64 p.v.b, .int .u32 (p.base.1 : Int), .int .u32 (p.base.2 : Int), (.slice ao p.log.length cap), .bool p.known, .bool p.joined, .bool p.instep, .int .u32 (p.acked : Int)] 47)).alloc (.cells #[.int .u32 0, .int .u32 0] 27)
    have hb := blk_old (o := .cells #[.int .u32 0, .int .u32 0] 27) (heap_alloc_new w (.cells #[.int .i64 p.me, .int .u32 (p.v.n : Int), .int .i64 p.v.p, .int .i64 p.v.b, .int .u32 (p.base.1 : Int), .int .u32 (p.base.2 : Int), (.slice ao p.log.length cap), .bool p.known, .bool p.joined, .bool p.instep, .int .u32 (p.acked : Int)] 47))
    have hn := blk_new (w := w.alloc (.cells #[.int .i64 p.me, .int .u32 (p.v.n : Int), .int .i64 p.v.p, .int .i64 p.v.b, .int .u32 (p.base.1 : Int), .int .u32 (p.base.2 : Int), (.slice ao p.log.length cap), .bool p.known, .bool p.joined, .bool p.instep, .int .u32 (p.acked : Int)] 47)) (b := w.heap.size + 1) (o := .cells #[.int .u32 0, .int .u32 0] 27) (by simp)
    go_wp2_with (first
      | ((go_at_call 65; go_must (skip)); refine (bkServer _ _).mono ?_; rintro e w1 ⟨rfl, rfl⟩)
      | ((go_at_call 59; go_must (skip)); refine (bkViewed _ p.v).mono ?_; rintro e w1 ⟨rfl, x1⟩; have X := X.trans x1; have hb := x1.keeps hb; have hn := x1.keeps hn; have hc := block_all hb))
    all_goals go_meet
    all_goals clear hveq
    all_goals have hz := X.size
    all_goals have hz2 := block_lt hn
    all_goals exact ⟨_, rfl, X.alloc _, bool_blk (blk_new (by first | rfl | simp)) (by simp [chk0, *]; try omega), blk_old hb, blk_old hn, by omega⟩
  case rest =>
    obtain ⟨B, rfl, hst⟩ := hcut
    go_upto_region 3 with fail
    go_cut [1] from 28 to 55 (fun t1 wx => t1 = .pointer (some ⟨w.heap.size, 0, none⟩) ∧ CkSt w (.slice ao p.log.length cap) p B (chk1 p) wx)
    case first =>
      have heq := mkEql
      have heq0 := mkEql0
      have ⟨X, hB, hb, hn, hlt⟩ := hst
      have HST := Lib.hid hst
      have cB := block_all hB
      have cb := block_all hb
      have cn := block_all hn
      have fB := fun i => block_free hB i
      have hlB := block_lt hB
      clear hst hB hb hn X
      go_wp2_with fail
      all_goals go_meet
      all_goals clear heq heq0 cB cb cn fB
      all_goals exact ⟨rfl, HST.out.set (by simp [chk1, *]; try (first | omega | (intro e; simp [e] at *)))⟩
    case rest =>
      obtain ⟨rfl, hst⟩ := hcut
      have ⟨X, hB, hb, hn, hlt⟩ := hst
      have cb := block_all hb
      go_wp2_with fail
      refine (bkEntries _ _ p).mono ?_
      rintro e w3 ⟨rfl, hb3, x3⟩
      have hst := hst.ext x3
      have X3 := X.trans x3
      have it := ent_it 6 (by omega) w w3 wc.heap.size _ p us (fun b => b < w3.heap.size ∧ b ≠ B) hus X3 hb3 (fun b hb => by have := X3.size; exact ⟨by omega, by omega⟩) ⟨block_lt hb3, by have := block_lt hB; omega⟩
      have hB3 := x3.keeps hB
      clear cb hB hb hn X
      go_wp2_with fail
      refine wpIn_wide.1 (wp_rangeD (enc := entE) 7 (by omega) (gf := 90) (lb := #[.pointer (some ⟨wc.heap.size, 0, none⟩)]) rfl (enters_of Tryd.func90 (by kernel_rfl) rfl) (fun _ => rfl) (xs := entsL p.base p.log us) (S := fun b => b < w3.heap.size ∧ b ≠ B) (fun b hb => hb.1) 1 it
        (fun pre N W => CkSt w (.slice ao p.log.length cap) p B (chk1 p && pre.all (okEn p.v.n)) W ∧ w3.heap.size ≤ W.heap.size)
        (fun _ _ _ => False)
        (fun x a' W => ∃ B5 B6, w3.heap.size + 3 ≤ B5 ∧ w3.heap.size + 3 ≤ B6 ∧ W.heap[B5]? = some (.cells #[.int .u32 (x.1.1 : Int), .int .u32 (x.1.2 : Int)] 27 (0, 0)) ∧ W.heap[B6]? = some (.cells #[.int .u32 (x.2.1.m.1 : Int), .int .u32 (x.2.1.m.2 : Int), (.slice x.2.2.1 x.2.1.b.length x.2.2.2)] 108 (0, 0)) ∧ a' = { tmps := #[Value.agg #[Value.int IntKind.i64 p.me, Value.int IntKind.u32 ↑p.v.n, Value.int IntKind.i64 p.v.p, Value.int IntKind.i64 p.v.b, Value.int IntKind.u32 ↑p.base.fst, Value.int IntKind.u32 ↑p.base.snd, Value.slice ao p.log.length cap, Value.bool p.known, Value.bool p.joined, Value.bool p.instep, Value.int IntKind.u32 ↑p.acked], Value.pointer (some { block := w.heap.size, off := 0 }), Value.int IntKind.i64 0, Value.pointer (some { block := w.heap.size + 1, off := 0 }), Value.pointer (some { block := B, off := 0 }), Value.pointer (some { block := B5, off := 0 }), Value.pointer (some { block := B6, off := 0 }), u7, u8, u9, u10, u11, u12, u13, u14, u15, u16, u17, u18, u19, u20, u21, u22, u23, u24, u25, u26, u27, u28, u29, u30, u31, u32, u33, u34, u35, u36, u37, u38, u39, u40, u41, u42, u43, u44, u45, u46, u47, u48, u49, u50, u51, u52, u53, u54, u55, Value.agg #[Value.int IntKind.i64 p.me, Value.int IntKind.u32 ↑p.v.n, Value.int IntKind.i64 p.v.p, Value.int IntKind.i64 p.v.b, Value.int IntKind.u32 ↑p.base.fst, Value.int IntKind.u32 ↑p.base.snd, Value.slice ao p.log.length cap, Value.bool p.known, Value.bool p.joined, Value.bool p.instep, Value.int IntKind.u32 ↑p.acked], Value.func (Fn.func 90) #[] #[Value.pointer (some { block := wc.heap.size, off := 0 })], Value.agg #[Value.int IntKind.u32 ↑x.fst.fst, Value.int IntKind.u32 ↑x.fst.snd], Value.agg #[Value.int IntKind.u32 ↑x.snd.fst.m.fst, Value.int IntKind.u32 ↑x.snd.fst.m.snd, Value.slice x.snd.snd.fst x.snd.fst.b.length x.snd.snd.snd], undef, undef, undef, undef, undef, undef, undef, undef, undef, undef, undef, undef, undef, undef, undef, undef, undef, undef, undef, undef, undef, undef, undef, undef, undef, undef, undef, undef, undef, undef, undef, undef, undef, undef, undef, undef, undef, undef, undef, undef, undef, undef, undef, undef, undef, undef, undef, undef, undef, undef, undef, undef, undef, undef, undef, undef, undef, undef, undef, undef, undef, undef, undef, undef, undef, undef, undef, undef, undef, undef, undef, undef, undef, undef, undef, undef, undef, undef, undef, undef, undef, undef, undef, undef, undef, undef, undef, undef, undef, undef, undef, undef, undef], defers := [] })
        ?ie ?im ?is ?ic ?ip ?xp ?ap ?h0 ?assign ?body ?done ?stop)
      case ie => exact fun pre N A B' ⟨h1, h2⟩ x => ⟨h1.ext x, Nat.le_trans h2 x.size⟩
      case im => exact fun pre N N' A h _ => h
      case is => exact fun pre N A h => h.2
      case ic =>
        rintro pre N A b i u ⟨⟨h1, h2, h3, h4, h5⟩, h6⟩ hb1 hb2
        have := X3.size
        have := block_lt hB3
        refine ⟨⟨h1.setCell (by show _ ≤ b; omega) _, set_other h2 (by omega), set_other h3 (by omega), set_other h4 (by omega), h5⟩, by simpa using h6⟩
      case ip =>
        rintro pre N A b o o' ⟨⟨h1, h2, h3, h4, h5⟩, h6⟩ hb ho hc
        have := X3.size
        have := block_lt hB3
        exact ⟨⟨h1.grown (grownBy_putObj' A b o') (fun k e => by cases e; omega), (put_otherG (by omega)).trans h2, (put_otherG (by omega)).trans h3, (put_otherG (by omega)).trans h4, h5⟩, by rw [put_size]; exact h6⟩
      case xp => intro c pre A b o o' h; exact h.elim
      case ap =>
        rintro x a' A b o o' ⟨B5, B6, h1, h2, h3, h4, h5⟩ hb ho hc
        refine ⟨B5, B6, h1, h2, (put_otherG (fun e => ?_)).trans h3, (put_otherG (fun e => ?_)).trans h4, h5⟩
        · subst e; rw [ho] at h3; cases h3; simp [Obj.isCells] at hc
        · subst e; rw [ho] at h4; cases h4; simp [Obj.isCells] at hc
      case h0 => exact ⟨by simpa using hst, Nat.le_refl _⟩
      case assign =>
        intro l x W K hws hK
        dsimp only [entE]
        gi_wp2
        exact hK _ _ (((Ext.refl W).alloc _).alloc _) ⟨W.heap.size, W.heap.size + 1, by omega, by omega, blk_old (heap_alloc_new W _), blk_new (by simp), rfl⟩
      case body =>
        rintro l pre x a' W N Bk hpx hN hNW hBk ⟨hs, hz⟩ ⟨B5, B6, l5, l6, b5, b6, rfl⟩
        obtain ⟨m, e, hd⟩ := x
        have HS := Lib.hid hs
        have ⟨X, hB, hb, hn, hlt⟩ := hs
        have hlB3 := block_lt hB3
        have hBW := block_lt hB
        have hno : ¬ Bk B := fun h => by
          rcases (hBk B h).2 with h | h | h
          · exact h.2 rfl
          · omega
          · omega
        have HKS := Lib.hid (show ∀ d, KeepS Bk W (W.setCell ⟨B, 0, none⟩ d) from fun d => KeepS.grown (grown_setCell W B 0 d) (fun b hb => (hBk b hb).1) hno)
        have HAL := Lib.hid (show (chk1 p && (pre ++ [(m, e, hd)]).all (okEn p.v.n)) = ((chk1 p && pre.all (okEn p.v.n)) && okEn p.v.n (m, e, hd)) by simp [Bool.and_assoc])
        generalize (chk1 p && pre.all (okEn p.v.n)) = ca at *
        have cB := block_all hB
        have fB := fun i => block_free hB i
        have cb := block_all hb
        have c5 := block_all b5
        have c6 := block_all b6
        have hl6 := block_lt b6
        have hl5 := block_lt b5
        clear hs hB hb hn b5 b6 X hBk hno it hst hb3
        gi_wp2
        all_goals
          clear cB fB cb c5 c6
          refine ⟨KeepO.setCell _ _ _, HKS.out _, HS.out.set (by rw [HAL.out]; simp [okEn, *]; try omega), by simpa using hz⟩
      case done =>
        rintro D W hD ⟨hs, hz⟩ hK
        have hall : (entsL p.base p.log us).all (okEn p.v.n) = true → True := fun _ => trivial
        clear hall it hst hb3
        obtain ⟨c2, hc2⟩ : ∃ c, (chk1 p && (entsL p.base p.log us).all (okEn p.v.n)) = c := ⟨_, rfl⟩
        rw [hc2] at hs
        have HC2 := Lib.hid hc2
        clear hc2
        go_upto_region 8 with fail
        go_cut [0, 1, 56] from 99 to 107 (fun t0 t1 t56 wx => t1 = .pointer (some ⟨w.heap.size, 0, none⟩) ∧ CkSt w (.slice ao p.log.length cap) p B (c2 && decide (p.acked ≤ (lastM p).2)) wx ∧ wx.heap[D]? = some (.deferred (some [])))
        case first =>
          have ⟨X, hB, hb, hn, hlt⟩ := hs
          have HS := Lib.hid hs
          have hvl := (⟨hok, us, hus⟩ : IsLg w (.slice ao p.log.length cap) p.log).ext X
          have KB := fun v (h : Ext W v) => block_all (h.keeps hB)
          have Kb := fun v (h : Ext W v) => block_all (h.keeps hb)
          have FB := fun v (h : Ext W v) i => block_free (h.keeps hB) i
          have HVL := Lib.hid hvl
          have hBW := block_lt hB
          have HK := Lib.hid hK
          clear hs hB hb hn hvl X
          cases c2 with
          | false =>
            refine wp_region_G 9 (fun v => Ext W v) (by kernel_rfl) fun wd hqd hHeld => ?_
            refine G_take (i := 0) (u := ?va0) rfl (by kernel_rfl) (by kernel_rfl) (by kernel_rfl) (fun _ _ _ h => h) rfl (by kernel_rfl) (by decide) (by rfl) (Or.inl ⟨by rfl, ?hya0⟩) hHeld ?_
            case hya0 => (intro w hSw; go_simp; try with_reducible rfl)
            simp only [Act.put, List.setIfInBounds_toArray, List.set_cons_zero, List.set_cons_succ, List.getElem_toArray, List.getElem_cons_zero, List.getElem_cons_succ]
            refine G_take (i := 1) (u := ?va1) rfl (by kernel_rfl) (by kernel_rfl) (by kernel_rfl) (fun _ _ _ h => h) rfl (by kernel_rfl) (by decide) (by rfl) (Or.inl ⟨by rfl, ?hya1⟩) hHeld ?_
            case hya1 => (intro w hSw; go_simp; try with_reducible rfl)
            simp only [Act.put, List.setIfInBounds_toArray, List.set_cons_zero, List.set_cons_succ, List.getElem_toArray, List.getElem_cons_zero, List.getElem_cons_succ]
            refine G_take (i := 2) (u := undef) rfl (by kernel_rfl) (by kernel_rfl) (by kernel_rfl) (fun _ _ _ h => h) rfl (by kernel_rfl) (by decide) (by rfl) (Or.inr ⟨by rfl, rfl⟩) hHeld ?_
            simp only [Act.put, List.setIfInBounds_toArray, List.set_cons_zero, List.set_cons_succ, List.getElem_toArray, List.getElem_cons_zero, List.getElem_cons_succ]
            refine G_take (i := 3) (u := undef) rfl (by kernel_rfl) (by kernel_rfl) (by kernel_rfl) (fun _ _ _ h => h) rfl (by kernel_rfl) (by decide) (by rfl) (Or.inr ⟨by rfl, rfl⟩) hHeld ?_
            simp only [Act.put, List.setIfInBounds_toArray, List.set_cons_zero, List.set_cons_succ, List.getElem_toArray, List.getElem_cons_zero, List.getElem_cons_succ]
            refine G_take (i := 4) (u := undef) rfl (by kernel_rfl) (by kernel_rfl) (by kernel_rfl) (fun _ _ _ h => h) rfl (by kernel_rfl) (by decide) (by rfl) (Or.inr ⟨by rfl, rfl⟩) hHeld ?_
            simp only [Act.put, List.setIfInBounds_toArray, List.set_cons_zero, List.set_cons_succ, List.getElem_toArray, List.getElem_cons_zero, List.getElem_cons_succ]
            refine G_take (i := 5) (u := undef) rfl (by kernel_rfl) (by kernel_rfl) (by kernel_rfl) (fun _ _ _ h => h) rfl (by kernel_rfl) (by decide) (by rfl) (Or.inr ⟨by rfl, rfl⟩) hHeld ?_
            simp only [Act.put, List.setIfInBounds_toArray, List.set_cons_zero, List.set_cons_succ, List.getElem_toArray, List.getElem_cons_zero, List.getElem_cons_succ]
            refine G_take (i := 6) (u := undef) rfl (by kernel_rfl) (by kernel_rfl) (by kernel_rfl) (fun _ _ _ h => h) rfl (by kernel_rfl) (by decide) (by rfl) (Or.inr ⟨by rfl, rfl⟩) hHeld ?_
            simp only [Act.put, List.setIfInBounds_toArray, List.set_cons_zero, List.set_cons_succ, List.getElem_toArray, List.getElem_cons_zero, List.getElem_cons_succ]
            refine G_take (i := 7) (u := undef) rfl (by kernel_rfl) (by kernel_rfl) (by kernel_rfl) (fun _ _ _ h => h) rfl (by kernel_rfl) (by decide) (by rfl) (Or.inr ⟨by rfl, rfl⟩) hHeld ?_
            simp only [Act.put, List.setIfInBounds_toArray, List.set_cons_zero, List.set_cons_succ, List.getElem_toArray, List.getElem_cons_zero, List.getElem_cons_succ]
            refine G_take (i := 8) (u := ?va8) rfl (by kernel_rfl) (by kernel_rfl) (by kernel_rfl) (fun _ _ _ h => h) rfl (by kernel_rfl) (by decide) (by rfl) (Or.inl ⟨by rfl, ?hya8⟩) hHeld ?_
            case hya8 => (intro w hSw; go_simp; try with_reducible rfl)
            simp only [Act.put, List.setIfInBounds_toArray, List.set_cons_zero, List.set_cons_succ, List.getElem_toArray, List.getElem_cons_zero, List.getElem_cons_succ]
            refine G_all (rs := [9]) (by kernel_rfl) (by simp) ?_
            intro i hi; obtain rfl : i = 9 := by simpa using hi
            refine wpOp_run rfl (by rfl) ?_
            have kk := KB _ hHeld
            have ff := FB _ hHeld
            go_simp
            try refine ⟨fun e => absurd e (by decide), ?_⟩
            refine G_free _ _ _ _ (by kernel_rfl) ?_
            try simp only [Act.put, List.setIfInBounds_toArray, List.set_cons_zero, List.set_cons_succ, List.getElem_toArray, List.getElem_cons_zero, List.getElem_cons_succ]
            refine wpAny_done (by kernel_rfl) ?_ _
            refine NoPanic.normal ?_
            go_wp2_with fail
            go_meet
            exact ⟨rfl, (HS.out.ext hHeld).set (by simp), (KeepsOthers.setCell wd ⟨B, 0, none⟩ _).same D _ (hHeld.keeps HK.out) rfl⟩
          | true =>
            generalize hM : lastM p = M at *
            have HM := Lib.hid hM
            clear hM
            have hf1 := mkField1
            refine wp_region_G 9 (fun v => Ext W v) (by kernel_rfl) fun wd hqd hHeld => ?_
            refine G_take (i := 0) (u := ?vb0) rfl (by kernel_rfl) (by kernel_rfl) (by kernel_rfl) (fun _ _ _ h => h) rfl (by kernel_rfl) (by decide) (by rfl) (Or.inl ⟨by rfl, ?hyb0⟩) hHeld ?_
            case hyb0 => (intro w hSw; go_simp; try with_reducible rfl)
            simp only [Act.put, List.setIfInBounds_toArray, List.set_cons_zero, List.set_cons_succ, List.getElem_toArray, List.getElem_cons_zero, List.getElem_cons_succ]
            refine G_take (i := 1) (u := ?vb1) rfl (by kernel_rfl) (by kernel_rfl) (by kernel_rfl) (fun _ _ _ h => h) rfl (by kernel_rfl) (by decide) (by rfl) (Or.inl ⟨by rfl, ?hyb1⟩) hHeld ?_
            case hyb1 => (intro w hSw; go_simp; try with_reducible rfl)
            simp only [Act.put, List.setIfInBounds_toArray, List.set_cons_zero, List.set_cons_succ, List.getElem_toArray, List.getElem_cons_zero, List.getElem_cons_succ]
            refine G_take (i := 2) (u := ?vb2) rfl (by kernel_rfl) (by kernel_rfl) (by kernel_rfl) (fun _ _ _ h => h) rfl (by kernel_rfl) (by decide) (by rfl) (Or.inl ⟨by rfl, ?hyb2⟩) hHeld ?_
            case hyb2 => (intro w hSw; go_simp; try with_reducible rfl)
            simp only [Act.put, List.setIfInBounds_toArray, List.set_cons_zero, List.set_cons_succ, List.getElem_toArray, List.getElem_cons_zero, List.getElem_cons_succ]
            refine G_take (i := 3) (u := ?vb3) rfl (by kernel_rfl) (by kernel_rfl) (by kernel_rfl) (fun _ _ _ h => h) rfl (by kernel_rfl) (by decide) (by rfl) (Or.inl ⟨by rfl, ?hyb3⟩) hHeld ?_
            case hyb3 => (intro w hSw; go_simp; try with_reducible rfl)
            simp only [Act.put, List.setIfInBounds_toArray, List.set_cons_zero, List.set_cons_succ, List.getElem_toArray, List.getElem_cons_zero, List.getElem_cons_succ]
            refine G_take (i := 4) (u := ?vb4) rfl (by kernel_rfl) (by kernel_rfl) (by kernel_rfl) (fun _ _ _ h => h) rfl (by kernel_rfl) (by decide) (by rfl) (Or.inl ⟨by rfl, ?hyb4⟩) hHeld ?_
            case hyb4 => (intro w hSw; go_simp; try with_reducible rfl)
            simp only [Act.put, List.setIfInBounds_toArray, List.set_cons_zero, List.set_cons_succ, List.getElem_toArray, List.getElem_cons_zero, List.getElem_cons_succ]
            refine G_all (rs := [5]) (by kernel_rfl) (by simp) ?_
            intro i hi; obtain rfl : i = 5 := by simpa using hi
            refine wpOp_run rfl (by rfl) ?_
            go_simp
            refine Calls.mono (bkLast _ _ p (HVL.out.ext hHeld)) ?_
            rintro e w4 ⟨rfl, x4⟩
            rw [HM.out]
            have hHeld := hHeld.trans x4
            first | refine ⟨fun _ => hHeld, ?_⟩ | refine ⟨hHeld, ?_⟩
            try simp only [Act.put, List.setIfInBounds_toArray, List.set_cons_zero, List.set_cons_succ, List.getElem_toArray, List.getElem_cons_zero, List.getElem_cons_succ]
            refine G_take (i := 6) (u := ?vb6) rfl (by kernel_rfl) (by kernel_rfl) (by kernel_rfl) (fun _ _ _ h => h) rfl (by kernel_rfl) (by decide) (by rfl) (Or.inl ⟨by rfl, ?hyb6⟩) hHeld ?_
            case hyb6 => (intro w hSw; go_simp; try with_reducible rfl)
            simp only [Act.put, List.setIfInBounds_toArray, List.set_cons_zero, List.set_cons_succ, List.getElem_toArray, List.getElem_cons_zero, List.getElem_cons_succ]
            refine G_take (i := 7) (u := ?vb7) rfl (by kernel_rfl) (by kernel_rfl) (by kernel_rfl) (fun _ _ _ h => h) rfl (by kernel_rfl) (by decide) (by rfl) (Or.inl ⟨by rfl, ?hyb7⟩) hHeld ?_
            case hyb7 => (intro w hSw; go_simp; try with_reducible rfl)
            simp only [Act.put, List.setIfInBounds_toArray, List.set_cons_zero, List.set_cons_succ, List.getElem_toArray, List.getElem_cons_zero, List.getElem_cons_succ]
            refine G_take (i := 8) (u := ?vb8) rfl (by kernel_rfl) (by kernel_rfl) (by kernel_rfl) (fun _ _ _ h => h) rfl (by kernel_rfl) (by decide) (by rfl) (Or.inl ⟨by rfl, ?hyb8⟩) hHeld ?_
            case hyb8 => (intro w hSw; go_simp; try with_reducible rfl)
            simp only [Act.put, List.setIfInBounds_toArray, List.set_cons_zero, List.set_cons_succ, List.getElem_toArray, List.getElem_cons_zero, List.getElem_cons_succ]
            refine G_all (rs := [9]) (by kernel_rfl) (by simp) ?_
            intro i hi; obtain rfl : i = 9 := by simpa using hi
            refine wpOp_run rfl (by rfl) ?_
            have kk := KB _ hHeld
            have ff := FB _ hHeld
            go_simp
            try refine ⟨fun e => absurd e (by decide), ?_⟩
            refine G_free _ _ _ _ (by kernel_rfl) ?_
            try simp only [Act.put, List.setIfInBounds_toArray, List.set_cons_zero, List.set_cons_succ, List.getElem_toArray, List.getElem_cons_zero, List.getElem_cons_succ]
            refine wpAny_done (by kernel_rfl) ?_ _
            refine NoPanic.normal ?_
            go_wp2_with fail
            go_meet
            exact ⟨rfl, (HS.out.ext hHeld).set (by simp [HM.out]), (KeepsOthers.setCell w4 ⟨B, 0, none⟩ _).same D _ (hHeld.keeps HK.out) rfl⟩
        case rest =>
          obtain ⟨rfl, hs, hK⟩ := hcut
          have hD : CkD w (.slice ao p.log.length cap) p B (c2 && decide (p.acked ≤ (lastM p).2)) D wc := ⟨hs, hK⟩
          clear hs hK
          have HR2 := Lib.hid (show (if chkE p (c2 && decide (p.acked ≤ (lastM p).2)) = true then (0 : Int) else 360) = R by rw [← HR.out]; unfold chkAll; rw [HC2.out])
          clear HR
          generalize (c2 && decide (p.acked ≤ (lastM p).2)) = c3 at *
          clear HC2 hB3 hz
          go_upto_region 9 with fail
          go_cut [0, 1, 4, 116] from 108 to 115 (fun t0 t1 t4 t116 wx => t1 = .pointer (some ⟨w.heap.size, 0, none⟩) ∧ t4 = .pointer (some ⟨B, 0, none⟩) ∧ t116 = .bool (!primB p || p.v.b == 0) ∧ CkD w (.slice ao p.log.length cap) p B c3 D wx)
          case first =>
            have ⟨⟨X, hB, hb, hn, hlt⟩, hK⟩ := hD
            have HD := Lib.hid hD
            have cb := block_all hb
            clear hD hB hn X hK
            go_wp2_with (first | ((go_at_call 55; go_must (skip)); refine (bkPrimary _ _ p).mono ?_; rintro e w4 ⟨rfl, x4⟩; have hb := x4.keeps hb; have cb := block_all hb))
            all_goals go_meet
            all_goals exact ⟨rfl, rfl, by simp [*], HD.out.ext x4⟩
          case rest =>
            obtain ⟨rfl, rfl, rfl, hD⟩ := hcut
            obtain ⟨cc, hcc⟩ : ∃ cc, (!primB p || p.v.b == 0) = cc := ⟨_, rfl⟩
            have H4 := Lib.hid (show chk4 p c3 = if cc = true then c3 && !p.known else c3 by unfold chk4; rw [hcc])
            rw [hcc]
            clear hcc
            go_upto_if 116 with fail
            go_cut [0, 1, 4] from 116 to 122 (fun t0 t1 t4 wx => t1 = .pointer (some ⟨w.heap.size, 0, none⟩) ∧ t4 = .pointer (some ⟨B, 0, none⟩) ∧ CkD w (.slice ao p.log.length cap) p B (chk4 p c3) D wx)
            case first =>
              have ⟨⟨X, hB, hb, hn, hlt⟩, hK⟩ := hD
              have HD := Lib.hid hD
              have cb := block_all hb
              have cB := block_all hB
              have fB := fun i => block_free hB i
              have hBl := block_lt hB
              clear hD hB hn X hK
              go_wp2_with fail
              all_goals go_meet
              all_goals first
                | exact ⟨rfl, rfl, HD.out.set (by rw [H4.out]; simp [*])⟩
                | exact ⟨rfl, rfl, by rw [H4.out, ‹cc = false›]; exact HD.out⟩
            case rest =>
              obtain ⟨rfl, rfl, hD⟩ := hcut
              have HR3 := Lib.hid (show (if ((chk4 p c3 && (p.known || (p.acked : Int) == 0)) && ((!(p.joined && !secB p)) && (!(p.instep && !p.joined)))) = true then (0 : Int) else 360) = R from HR2.out)
              clear HR2
              generalize chk4 p c3 = c4 at *
              go_upto_region 11 with fail
              go_cut [0, 1, 4] from 123 to 132 (fun t0 t1 t4 wx => t1 = .pointer (some ⟨w.heap.size, 0, none⟩) ∧ t4 = .pointer (some ⟨B, 0, none⟩) ∧ CkD w (.slice ao p.log.length cap) p B (c4 && (p.known || (p.acked : Int) == 0)) D wx)
              case first =>
                have ⟨⟨X, hB, hb, hn, hlt⟩, hK⟩ := hD
                have HD := Lib.hid hD
                have cb := block_all hb
                have cB := block_all hB
                have fB := fun i => block_free hB i
                have hBl := block_lt hB
                clear hD hB hn X hK
                go_wp2_with fail
                all_goals go_meet
                all_goals exact ⟨rfl, rfl, HD.out.set (by simp [*])⟩
              case rest =>
                obtain ⟨rfl, rfl, hD⟩ := hcut
                generalize (c4 && (p.known || (p.acked : Int) == 0)) = c5 at *
                have ⟨⟨X, hB, hb, hn, hlt⟩, hK⟩ := hD
                have cb := block_all hb
                have cB := block_all hB
                have HK := Lib.hid hK
                clear hD hB hn hK
                go_wp2_with fail
                rotate_right
                all_goals try (
                  refine (bkSecond _ _ { p with joined := true }).mono ?_
                  rintro e w4 ⟨he, x4⟩
                  obtain rfl : e = .returned (.bool (secB p)) := he
                  have X := X.trans x4
                  have hb := x4.keeps hb
                  have cb := block_all hb
                  have HK := Lib.hid (x4.keeps HK.out)
                  go_wp2_with fail)
                all_goals
                  refine ⟨by simp, .inl ⟨_, _, rfl, run_takeDeferred HK.out, ?_⟩⟩
                  have hX3 := X3.size
                  have XF := X.grown (grownBy_putObj' _ D (.deferred none)) (fun k e => by cases e; omega)
                  first
                    | (refine ⟨.int .i64 360, ?_, ?_, XF⟩
                       · (simp [results, Tryd.f23, go_sem]; done)
                       · (rw [← HR3.out]; simp [*]; done))
                    | (refine ⟨.int .i64 0, ?_, ?_, XF⟩
                       · (simp [results, Tryd.f23, go_sem]; done)
                       · (rw [← HR3.out]; simp [*]; done))
      case stop => intro D c pre W _ _ h _; exact h.elim
end Go.Proofs.YtkcddcomjbihgaaDoor
