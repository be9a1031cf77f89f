/- Backup: the document's Copy. -/
import Derived.Test.YtkcddcomjbihgaaDoorBkAd
namespace Go.Proofs.YtkcddcomjbihgaaDoor
open Go.RowKit
set_option linter.unusedVariables false
set_option linter.unusedSimpArgs false

theorem LgOwn.snoc {w w' : World} {base : Nat} {v v' : Value} {l : List LgE} {us : List Hd} (h : LgOwn w base v l us) {e : LgE} {u : Hd} (hb : OwnB w base (.slice u.1 e.b.length u.2) e.b) (own : w'.ownsRow base 108 3 v' (l.length + 1) (lgCs l us ++ lgV e u)) (gr : w.grownBy w' v.ownBlock) : LgOwn w' base v' (l ++ [e]) (us ++ [u]) := by
  have hlen := h.len
  refine ⟨by simp [hlen], ?_, ?_⟩
  · rw [lgCs_app _ _ _ _ hlen, List.length_append, List.length_singleton]
    exact own
  · intro i hi q hq
    by_cases hin : i < l.length
    · rw [List.getElem?_append_left (by omega)] at hq
      rw [List.getElem_append_left hin]
      exact own_thru (h.bs i hin q hq) h.own (by decide) gr
    · have hi' : i = l.length := by simp at hi; omega
      subst hi'
      rw [List.getElem?_append_right (by omega), hlen, Nat.sub_self] at hq
      simp only [List.getElem?_cons_zero, Option.some.injEq] at hq
      subst hq
      rw [List.getElem_append_right (by omega)]
      simp only [Nat.sub_self, List.getElem_cons_zero]
      exact own_thru hb h.own (by decide) gr
theorem LgOwn.grown {w w' : World} {base g : Nat} {v : Value} {l : List LgE} {us : List Hd} (h : LgOwn w base v l us) (gr : w.grownBy w' (some g)) {c : Array Value} {t : TypeId} {f : Nat × Nat} (hg : w.heap[g]? = some (.cells c t f)) (ht : t ≠ 108) (hb : t ≠ 5) : LgOwn w' base v l us :=
  ⟨h.len, ownsRow_grown h.own gr (own_neT h.own hg ht), fun i hi u hu => ownsRow_grown (h.bs i hi u hu) gr (own_neT (h.bs i hi u hu) hg hb)⟩
theorem LgOwn.newB {w w' : World} {base g : Nat} {v : Value} {l : List LgE} {us : List Hd} (h : LgOwn w base v l us) (gr : w.grownBy w' (some g)) (hg : w.heap.size ≤ g) : LgOwn w' base v l us :=
  ⟨h.len, ownsRow_grown h.own gr (own_ne h.own (.inr hg)), fun i hi u hu => ownsRow_grown (h.bs i hi u hu) gr (own_ne (h.bs i hi u hu) (.inr hg))⟩
theorem LgOwn.nil (w : World) (base : Nat) : LgOwn w base (.slice none 0 0) [] [] := ⟨rfl, World.ownsRow_nil _ _ _ _, fun i hi => absurd hi (by simp)⟩
/-- What Copy gives. -/
def CopyPost (w : World) (p : Pr) (e : Ending) (w' : World) : Prop := ∃ v us, e = .returned (.agg #[.int .i64 p.me, .int .u32 (p.v.n : Int), .int .i64 p.v.p, .int .i64 p.v.b, .int .u32 (p.base.1 : Int), .int .u32 (p.base.2 : Int), v, .bool p.known, .bool p.joined, .bool p.instep, .int .u32 (p.acked : Int)]) ∧ LgOwn w' w.heap.size v p.log us ∧ Ext w w'
set_option maxHeartbeats 4000000 in
set_option maxRecDepth 100000 in
theorem rbCopy (w : World) (vl : Value) (p : Pr) (h : IsLg w vl p.log) (hl : p.log.length ≤ 1000000) :
    Calls Tryd.prog 41 #[.agg #[.int .i64 p.me, .int .u32 (p.v.n : Int), .int .i64 p.v.p, .int .i64 p.v.b, .int .u32 (p.base.1 : Int), .int .u32 (p.base.2 : Int), vl, .bool p.known, .bool p.joined, .bool p.instep, .int .u32 (p.acked : Int)]] w (CopyPost w p) := by
  have HOK := Lib.hid h.ok
  obtain ⟨ao, cap, rfl, b1, m1, _, g1⟩ := h.opened
  have G1 := Lib.hid g1
  clear g1 h
  go_enter Tryd.func41, Tryd.ntmps41
  go_upto_region 1 with fail
  refine wp_forget (fun W => Ext w W ∧ W.heap[w.heap.size]? = some (.cells #[.int .i64 p.me, .int .u32 (p.v.n : Int), .int .i64 p.v.p, .int .i64 p.v.b, .int .u32 (p.base.1 : Int), .int .u32 (p.base.2 : Int), (.slice ao p.log.length cap), .bool p.known, .bool p.joined, .bool p.instep, .int .u32 (p.acked : Int)] 47 (0, 0)) ∧ W.heap[w.heap.size + 1]? = some (.cells #[.int .i64 (newP 0).me, .int .u32 ((newP 0).v.n : Int), .int .i64 (newP 0).v.p, .int .i64 (newP 0).v.b, .int .u32 ((newP 0).base.1 : Int), .int .u32 ((newP 0).base.2 : Int), (.slice none 0 0), .bool (newP 0).known, .bool (newP 0).joined, .bool (newP 0).instep, .int .u32 ((newP 0).acked : Int)] 47 (0, 0))) ⟨((Ext.refl w).alloc _).alloc _, blk_old (heap_alloc_new w _), blk_new (by simp)⟩ ?_
  rintro W ⟨X, bP, bZ⟩
  have HX := Lib.hid X
  have hc := block_all bP
  have hl' : (p.log.length : Int) ≤ 1000000 := by omega
  clear X
  go_wp2_with fail
  go_loopg [3, 5, 9] p.log.length (fun g s3 s5 s9 wr => ∃ k : Nat, k ≤ p.log.length ∧ p.log.length - k ≤ g ∧ s9 = .int .i64 (k : Int) ∧ (∃ us, LgOwn wr w.heap.size s3 (p.log.take k) us) ∧ Ext w wr ∧ wr.heap[w.heap.size]? = some (.cells #[.int .i64 p.me, .int .u32 (p.v.n : Int), .int .i64 p.v.p, .int .i64 p.v.b, .int .u32 (p.base.1 : Int), .int .u32 (p.base.2 : Int), (.slice ao p.log.length cap), .bool p.known, .bool p.joined, .bool p.instep, .int .u32 (p.acked : Int)] 47 (0, 0)) ∧ wr.heap[w.heap.size + 1]? = some (.cells #[.int .i64 (newP 0).me, .int .u32 ((newP 0).v.n : Int), .int .i64 (newP 0).v.p, .int .i64 (newP 0).v.b, .int .u32 ((newP 0).base.1 : Int), .int .u32 ((newP 0).base.2 : Int), (.slice none 0 0), .bool (newP 0).known, .bool (newP 0).joined, .bool (newP 0).instep, .int .u32 ((newP 0).acked : Int)] 47 (0, 0)))
  case atStart => exact ⟨0, by omega, by omega, rfl, ⟨[], LgOwn.nil _ _⟩, HX.out, bP, bZ⟩
  case round =>
    clear bP bZ hc HX
    obtain ⟨k, hk, hg, rfl, ⟨us, il⟩, xr, bP, bZ⟩ := hrel
    have HX := Lib.hid xr
    by_cases hlt : k < p.log.length
    · obtain ⟨pb, o, u, rfl, e0, e1, e2, e3⟩ := G1.out k hlt
      have e0 := xr.cell e0
      have e1 := xr.cell e1
      have e2 := xr.cell e2
      have e3 := e3.ext xr
      have hst : p.log.take (k + 1) = p.log.take k ++ [p.log[k]] := List.take_succ_eq_append_getElem hlt
      have hxl := (HOK.out _ (List.getElem_mem hlt)).2
      have hTl : (p.log.take k).length = k := by rw [List.length_take]; omega
      generalize p.log[k] = x at *
      generalize p.log.take k = Tk at *
      obtain ⟨xa, xc, rfl, hxc, hxm, -⟩ := e3.opened
      have HST := Lib.hid hst
      have E3 := Lib.hid e3
      have HTL := Lib.hid hTl
      have HXL := Lib.hid hxl
      obtain ⟨s3a, s3c, rfl⟩ := own_shape il.own
      clear hst e3 xr hTl hxl
      have hzP := block_lt bP
      have hzZ := block_lt bZ
      go_upto_region 5 with (((with_reducible refine at_store 108 (.tmp 5) (.tmp 12) ?_); go_must (refine wpl_store rfl 108 (.tmp 5) (.tmp 12) rfl wr.heap.size #[.int .u32 (x.m.1 : Int), .int .u32 (x.m.2 : Int), (.slice xa x.b.length xc)] (by rfl) (by rfl) 108 _ (heap_alloc_new wr _) (by kernel_rfl) rfl (by simp [Value.oneCell']) ?_)))
      refine wp_forget (fun W => Ext wr W ∧ W.heap[wr.heap.size]? = some (.cells #[.int .u32 (x.m.1 : Int), .int .u32 (x.m.2 : Int), (.slice xa x.b.length xc)] 108 (0, 0)) ∧ LgOwn W w.heap.size (.slice s3a Tk.length s3c) Tk us ∧ ∀ v, (.slice s3a Tk.length s3c : Value).ownBlock = some v → v < wr.heap.size) ⟨((Ext.refl wr).alloc _).grown grown_setRow (fun k hk => by cases hk; exact Nat.le_refl _), setRow_heap _ _ _ _ _ _ (heap_alloc_new wr _), ⟨il.len, ownsRow_grown (ownsRow_ext il.own ((Ext.refl wr).alloc _)) grown_setRow (own_ne il.own (.inr (Nat.le_refl _))), fun i hi u hu => ownsRow_grown (ownsRow_ext (il.bs i hi u hu) ((Ext.refl wr).alloc _)) grown_setRow (own_ne (il.bs i hi u hu) (.inr (Nat.le_refl _)))⟩, fun v hv => (il.own.lt v hv).2⟩ ?_
      rintro W5 ⟨y, bE, il5, hlow⟩
      have bP := y.keeps bP
      have bZ := y.keeps bZ
      have HX := Lib.hid (HX.out.trans y)
      have HB := Lib.hid (E3.out.ext y)
      obtain ⟨BE, hBE⟩ : ∃ x, x = wr.heap.size := ⟨_, rfl⟩
      rw [← hBE] at bE hzP hzZ hlow
      rw [← hBE]
      clear y e0 e1 e2 hBE il E3
      have cE := block_all (blk_old (o := .cells #[] 5) bE)
      have o0 := World.ownsRow_made (base := W5.heap.size) (e := 5) (size := 1) W5 #[] 0 (Nat.le_refl _) (by decide) rfl
      have hs5 := HX.out.size
      have hzE := block_lt bE
      have hxlen := HXL.out
      go_upto_region 6 with (at_builtin; go_must (refine wp_app tyB rfl _ _ rfl W5.heap.size _ 0 [] o0 (by rfl) _ x.b.length (x.b.map bc) (HB.out.ext ((Ext.refl _).alloc _)) (by rfl) (bc_one _) (by omega) (by omega) (by simp) ?_); intro v4 w4 own4 gr4; rw [Nat.zero_add, List.nil_append] at own4; obtain ⟨a4, c4, rfl⟩ := own_shape own4; have x4 := own_base o0 gr4 ((Ext.refl W5).alloc _) (Nat.le_refl _); have cE := block_all (x4.keeps bE); have ff := fun i => block_free (x4.keeps bE) i)
      have bE4 := x4.keeps bE
      have bE6 : (w4.setCell ⟨BE, 2, none⟩ (.slice a4 x.b.length c4)).heap[BE]? = some (.cells #[.int .u32 (x.m.1 : Int), .int .u32 (x.m.2 : Int), (.slice a4 x.b.length c4)] 108 (0, 0)) := by
        have := block_setCell bE4 (i := 2) (.slice a4 x.b.length c4)
        simpa using this
      have gr := grown_setCell w4 BE 2 (.slice a4 x.b.length c4)
      have il4 := il5.ext x4
      have hneE : (.slice s3a Tk.length s3c : Value).ownBlock ≠ some BE := fun q => by have := hlow BE q; omega
      have il6 : LgOwn (w4.setCell ⟨BE, 2, none⟩ (.slice a4 x.b.length c4)) w.heap.size (.slice s3a Tk.length s3c) Tk us := ⟨il4.len, ownsRow_grown il4.own gr hneE, fun i hi u hu => ownsRow_grown (il4.bs i hi u hu) gr (own_neT (il4.bs i hi u hu) bE4 (by decide))⟩
      have own6 := ownsRow_base (ownsRow_grown own4 gr (own_neT own4 bE4 (by decide))) hs5
      have bP := grown_other gr (x4.keeps bP) (by omega)
      have bZ := grown_other gr (x4.keeps bZ) (by omega)
      have HX := Lib.hid ((HX.out.trans x4).grown gr (fun k hk => by cases hk; omega))
      generalize w4.setCell ⟨BE, 2, none⟩ (.slice a4 x.b.length c4) = W6 at *
      clear gr il4 il5 own4 gr4 x4 bE4 bE cE ff o0 HB hneE hlow
      have cE := block_all bE6
      have hs6 := HX.out.size
      have hTk := HTL.out
      go_upto_region 7 with (at_builtin; go_must (refine wp_app tyLg rfl _ _ rfl w.heap.size _ Tk.length _ (il6.ext ((Ext.refl W6).alloc (.cells (lgV x (a4, c4)).toArray 108))).own (by rfl) _ 1 (lgV x (a4, c4)) (sl_one_new (w := W6) (n := 3) (e := 108) rfl rfl) (by rfl) (lgV_one _ _) (by omega) (by omega) (by simp; omega) ?_); intro v7 w7 own7 gr7)
      have xa := (Ext.refl W6).alloc (.cells (lgV x (a4, c4)).toArray 108)
      have il7 := (il6.ext xa).snoc (u := (a4, c4)) (ownsRow_ext own6 xa) own7 gr7
      have bP := grown_keep gr7 (xa.keeps bP) (own_neT (il6.ext xa).own (xa.keeps bP) (by decide))
      have bZ := grown_keep gr7 (xa.keeps bZ) (own_neT (il6.ext xa).own (xa.keeps bZ) (by decide))
      have HX := Lib.hid (own_base (il6.ext xa).own gr7 (HX.out.trans xa) (Nat.le_refl _))
      clear il6 own6 own7 gr7 xa cE bE6
      go_wp2_with fail
      go_roundg (p.log.length - (k + 1))
      case measure => omega
      case rel => exact ⟨k + 1, by omega, by omega, by go_num, ⟨_, by rw [HST.out]; exact il7⟩, HX.out, bP, bZ⟩
    · obtain rfl : k = p.log.length := by omega
      rw [List.take_length] at il
      obtain ⟨s3a, s3c, rfl⟩ := own_shape il.own
      have hzP := block_lt bP
      have hc := block_all bP
      have ff := fun i => block_free bP i
      go_upto_region 9 with fail
      have bP9 : (wr.setCell ⟨w.heap.size, 6, none⟩ (.slice s3a p.log.length s3c)).heap[w.heap.size]? = some (.cells #[.int .i64 p.me, .int .u32 (p.v.n : Int), .int .i64 p.v.p, .int .i64 p.v.b, .int .u32 (p.base.1 : Int), .int .u32 (p.base.2 : Int), (.slice s3a p.log.length s3c), .bool p.known, .bool p.joined, .bool p.instep, .int .u32 (p.acked : Int)] 47 (0, 0)) := by
        have := block_setCell bP (i := 6) (.slice s3a p.log.length s3c)
        simpa using this
      have gr := grown_setCell wr w.heap.size 6 (.slice s3a p.log.length s3c)
      have il := il.grown gr bP (by decide) (by decide)
      have bZ := grown_other gr bZ (by omega)
      have HX := Lib.hid (HX.out.grown gr (fun k hk => by cases hk; omega))
      generalize wr.setCell ⟨w.heap.size, 6, none⟩ (.slice s3a p.log.length s3c) = W9 at *
      clear gr hc ff bP xr
      have hc := block_all bP9
      have b9 := setRow_heap _ (w.heap.size + 1) _ #[.int .i64 p.me, .int .u32 (p.v.n : Int), .int .i64 p.v.p, .int .i64 p.v.b, .int .u32 (p.base.1 : Int), .int .u32 (p.base.2 : Int), (.slice s3a p.log.length s3c), .bool p.known, .bool p.joined, .bool p.instep, .int .u32 (p.acked : Int)] _ _ bZ
      have g9 := grown_setRow (w := W9) (g := w.heap.size + 1) (c := #[.int .i64 p.me, .int .u32 (p.v.n : Int), .int .i64 p.v.p, .int .i64 p.v.b, .int .u32 (p.base.1 : Int), .int .u32 (p.base.2 : Int), (.slice s3a p.log.length s3c), .bool p.known, .bool p.joined, .bool p.instep, .int .u32 (p.acked : Int)])
      have il := il.grown g9 bZ (by decide) (by decide)
      have ix := HX.out.grown g9 (fun k hk => by cases hk; omega)
      have IL := Lib.hid il
      clear g9 il
      go_wp2_with (((with_reducible refine at_store 47 (.tmp 2) (.tmp 25) ?_); go_must (refine wpl_store rfl 47 (.tmp 2) (.tmp 25) rfl (w.heap.size + 1) #[.int .i64 p.me, .int .u32 (p.v.n : Int), .int .i64 p.v.p, .int .i64 p.v.b, .int .u32 (p.base.1 : Int), .int .u32 (p.base.2 : Int), (.slice s3a p.log.length s3c), .bool p.known, .bool p.joined, .bool p.instep, .int .u32 (p.acked : Int)] (by rfl) (by rfl) 47 _ bZ (by kernel_rfl) rfl (pr_one _ _ _ _) ?_)))
      exact bodyPost_ret (results_cell_row rfl _ _ (w.heap.size + 1) _ _ _ _ (by rfl) b9 Tryd.underlying47 rfl (by kernel_rfl)) rfl ⟨_, us, rfl, IL.out, ix⟩
end Go.Proofs.YtkcddcomjbihgaaDoor

namespace Go.Proofs.YtkcddcomjbihgaaDoor
open Go.RowKit
set_option linter.unusedVariables false
set_option linter.unusedSimpArgs false

def cutE (e : LgE) : LgE := { e with b := e.b.take 100 }
def headP (p : Pr) : Pr := { p with log := p.log.take 17 }
/-- A peer that can be played in time. -/
def shortP (p : Pr) : Pr := { p with log := (p.log.take 17).map cutE }
theorem ownsRow_take {w : World} {base : Nat} {e : TypeId} {a : Option Addr} {n c m : Nat} {xs : List Value} (h : w.ownsRow base e 1 (.slice a n c) n xs) (hm : m ≤ n) : w.ownsRow base e 1 (.slice a m c) m (xs.take m) := by
  obtain ⟨hl, h2⟩ := h
  refine ⟨by rw [List.length_take]; omega, ?_⟩
  rcases h2 with ⟨h', rfl⟩ | ⟨g, cap, cur, h', hb, hg, hn, hc, hs, ht⟩
  · obtain rfl : m = 0 := by omega
    simp only [Value.slice.injEq, true_and] at h'
    obtain ⟨rfl, rfl⟩ := h'
    exact .inl ⟨rfl, rfl⟩
  · simp only [Value.slice.injEq, true_and] at h'
    obtain ⟨rfl, rfl⟩ := h'
    refine .inr ⟨g, c, cur, rfl, hb, hg, by omega, hc, hs, ?_⟩
    rw [← ht, List.take_take, Nat.min_eq_left (by omega), Nat.mul_one]
theorem lgCs_setE : ∀ (l : List LgE) (us : List Hd) (k : Nat) (e : LgE), us.length = l.length → ∀ (hk : k < l.length) (hu : k < us.length), e.m = l[k].m → lgCs (l.set k e) us = (lgCs l us).set (k * 3 + 2) (.slice us[k].1 e.b.length us[k].2)
  | x :: l, h :: us, 0, e, _, _, _, hm => by
    simp only [List.getElem_cons_zero] at hm
    simp [lgCs, lgV, hm]
  | x :: l, h :: us, k + 1, e, hl, hk, hu, hm => by
    simp only [List.getElem_cons_succ] at hm
    rw [List.set_cons_succ, lgCs, lgCs, lgCs_setE l us k e (by simpa using hl) (by simpa using hk) (by simpa using hu) hm, show (k + 1) * 3 + 2 = (k * 3 + 2) + 3 from by omega]
    simp [lgV]
  | [], [], k, _, _, hk, _, _ => absurd hk (by simp)
theorem LgOwn.cutAt {w : World} {base g n c : Nat} {l : List LgE} {us : List Hd} (h : LgOwn w base (.slice (some ⟨g, 0, none⟩) n c) l us) (hn : n = l.length) (k : Nat) (hk : k < l.length) (hu : k < us.length) (M : Nat) (hM : (cutE l[k]).b.length = M) :
    LgOwn (w.setCell ⟨g, k * 3 + 2, none⟩ (.slice us[k].1 M us[k].2)) base (.slice (some ⟨g, 0, none⟩) n c) (l.set k (cutE l[k])) us := by
  subst hn
  obtain ⟨cur, hg⟩ := own_ty h.own
  have gr := grown_setCell w g (k * 3 + 2) (.slice us[k].1 M us[k].2)
  refine ⟨by rw [List.length_set]; exact h.len, ?_, ?_⟩
  · rw [List.length_set, lgCs_setE l us k (cutE l[k]) h.len hk hu rfl, hM]
    exact (h.own.stored (k * 3 + 2) _).1
  · intro i hi u hu'
    rw [List.length_set] at hi
    by_cases e : k = i
    · subst e
      have hb := h.bs k hk us[k] (List.getElem?_eq_getElem hu)
      rw [List.getElem?_eq_getElem hu] at hu'
      obtain rfl := Option.some.inj hu'
      simp only [List.getElem_set_self]
      have hb2 := ownsRow_grown hb gr (own_neT hb hg (by decide))
      have hML : (cutE l[k]).b.length ≤ l[k].b.length := by show (l[k].b.take 100).length ≤ _; rw [List.length_take]; omega
      have := ownsRow_take hb2 hML
      rw [← List.map_take] at this
      have e2 : l[k].b.take (cutE l[k]).b.length = (cutE l[k]).b := by
        show l[k].b.take (l[k].b.take 100).length = l[k].b.take 100
        rw [List.length_take]
        by_cases h100 : 100 ≤ l[k].b.length
        · rw [Nat.min_eq_left h100]
        · rw [Nat.min_eq_right (by omega), List.take_of_length_le (by omega), List.take_of_length_le (by omega)]
      rw [e2] at this
      exact this
    · rw [List.getElem_set_ne e]
      have hb := h.bs i hi u hu'
      exact ownsRow_grown hb gr (own_neT hb hg (by decide))
def mixL (l : List LgE) (k : Nat) : List LgE := (l.take k).map cutE ++ l.drop k
theorem mixL_len (l : List LgE) (k : Nat) : (mixL l k).length = l.length := by simp [mixL]; omega
theorem mixL_get (l : List LgE) (k : Nat) (h : k < l.length) (h2 : k < (mixL l k).length) : (mixL l k)[k] = l[k] := by
  have : (mixL l k)[k]? = l[k]? := by
    unfold mixL
    have hl : ((l.take k).map cutE).length = k := by simp; omega
    rw [List.getElem?_append_right (by omega), hl, Nat.sub_self, List.getElem?_drop, Nat.add_zero]
  rw [List.getElem?_eq_getElem h2, List.getElem?_eq_getElem h] at this
  exact Option.some.inj this
theorem mixL_set (l : List LgE) (k : Nat) (h : k < l.length) : (mixL l k).set k (cutE l[k]) = mixL l (k + 1) := by
  unfold mixL
  rw [List.take_succ_eq_append_getElem h, List.drop_eq_getElem_cons h, List.map_append]
  have hl : ((l.take k).map cutE).length = k := by simp; omega
  rw [List.set_append_right _ _ (by omega), hl, Nat.sub_self, List.set_cons_zero, List.map_cons, List.map_nil, List.append_assoc]
  rfl
theorem mixL_all (l : List LgE) : mixL l l.length = l.map cutE := by simp [mixL]
theorem IsLgU.head {w : World} {ao : Option Addr} {n cap : Nat} {l : List LgE} {us : List Hd} (h : IsLgU w (.slice ao n cap) l us) (M : Nat) (hM : M ≤ l.length) : IsLgU w (.slice ao M cap) (l.take M) (us.take M) := by
  obtain ⟨hl, ⟨hc, ao', cap', e, h2, h3, h4, h5⟩, hb⟩ := h
  simp only [Value.slice.injEq] at e
  obtain ⟨rfl, rfl, rfl⟩ := e
  have hlt : ∀ (l : List LgE) (us : List Hd) (M : Nat), us.length = l.length → M ≤ l.length → lgCs (l.take M) (us.take M) = (lgCs l us).take (M * 3) := by
    intro l
    induction l with
    | nil => intro us M _ hM; obtain rfl : M = 0 := by simpa using hM
             cases us <;> simp [lgCs]
    | cons x l ih =>
      intro us M hl hM
      cases us with
      | nil => simp at hl
      | cons u us =>
        cases M with
        | zero => simp [lgCs]
        | succ M =>
          rw [List.take_succ_cons, List.take_succ_cons, lgCs, lgCs, ih us M (by simpa using hl) (by simpa using hM), show (M + 1) * 3 = M * 3 + 3 from by omega]
          simp [lgV]
  have hlen := lgCs_len l us hl
  have hml : (l.take M).length = M := by rw [List.length_take]; omega
  refine ⟨by simp [hl], ⟨?_, ao, cap, by rw [hml], by omega, h3, h4, ?_⟩, ?_⟩
  · rw [hlt l us M hl hM, List.length_take, hml, hlen]
    omega
  · rw [hlt l us M hl hM]
    intro i hi
    rw [List.length_take] at hi
    obtain ⟨b, off, e, c⟩ := h5 i (by omega)
    exact ⟨b, off, e, by rw [c, List.getElem?_take_of_lt (by omega)]⟩
  · intro i hi u hu
    have hi' : i < l.length := by omega
    rw [List.getElem?_take_of_lt (by omega)] at hu
    have := hb i hi' u hu
    rw [List.getElem_take]
    exact this
end Go.Proofs.YtkcddcomjbihgaaDoor

namespace Go.Proofs.YtkcddcomjbihgaaDoor
open Go.RowKit
set_option linter.unusedVariables false
set_option linter.unusedSimpArgs false

def ShortPost (w : World) (p : Pr) (e : Ending) (w' : World) : Prop := ∃ v us, e = .returned (.agg #[.int .i64 (shortP p).me, .int .u32 ((shortP p).v.n : Int), .int .i64 (shortP p).v.p, .int .i64 (shortP p).v.b, .int .u32 ((shortP p).base.1 : Int), .int .u32 ((shortP p).base.2 : Int), v, .bool (shortP p).known, .bool (shortP p).joined, .bool (shortP p).instep, .int .u32 ((shortP p).acked : Int)]) ∧ LgOwn w' w.heap.size v (shortP p).log us ∧ Ext w w'
set_option maxHeartbeats 4000000 in
set_option maxRecDepth 100000 in
theorem lawShort (w : World) (vl : Value) (p : Pr) (h : IsLg w vl p.log) :
    Calls Tryd.prog 17 #[.agg #[.int .i64 p.me, .int .u32 (p.v.n : Int), .int .i64 p.v.p, .int .i64 p.v.b, .int .u32 (p.base.1 : Int), .int .u32 (p.base.2 : Int), vl, .bool p.known, .bool p.joined, .bool p.instep, .int .u32 (p.acked : Int)]] w (ShortPost w p) := by
  obtain ⟨hok, us, hus⟩ := h
  obtain ⟨ao, cap, rfl, b1, m1, z1, -⟩ := hus.opened
  have HOK := Lib.hid hok
  have HUS := Lib.hid hus
  clear hok hus z1
  go_enter Tryd.func17, Tryd.ntmps17
  go_upto_region 1 with fail
  refine wp_forget (fun W => Ext w W ∧ W.heap[w.heap.size]? = some (.cells #[.int .i64 p.me, .int .u32 (p.v.n : Int), .int .i64 p.v.p, .int .i64 p.v.b, .int .u32 (p.base.1 : Int), .int .u32 (p.base.2 : Int), (.slice ao p.log.length cap), .bool p.known, .bool p.joined, .bool p.instep, .int .u32 (p.acked : Int)] 47 (0, 0)) ∧ W.heap[w.heap.size + 1]? = some (.cells #[.int .i64 (newP 0).me, .int .u32 ((newP 0).v.n : Int), .int .i64 (newP 0).v.p, .int .i64 (newP 0).v.b, .int .u32 ((newP 0).base.1 : Int), .int .u32 ((newP 0).base.2 : Int), (.slice none 0 0), .bool (newP 0).known, .bool (newP 0).joined, .bool (newP 0).instep, .int .u32 ((newP 0).acked : Int)] 47 (0, 0))) ⟨((Ext.refl w).alloc _).alloc _, blk_old (heap_alloc_new w _), blk_new (by simp)⟩ ?_
  rintro W ⟨X, bP, bZ⟩
  have HX := Lib.hid X
  have hc := block_all bP
  have ff := fun i => block_free bP i
  obtain ⟨n, hn⟩ : ∃ n, min p.log.length 17 = n := ⟨_, rfl⟩
  have hnl : n ≤ p.log.length := by omega
  have hn17 : n ≤ 17 := by omega
  have hmi : (if (17 : Int) < (p.log.length : Int) then (17 : Int) else (p.log.length : Int)) = (n : Int) := by split <;> omega
  have hnc : n ≤ cap := by omega
  have hnc' : (n : Int) ≤ (cap : Int) := by omega
  have hn0 : (0 : Int) ≤ (n : Int) := by omega
  have htk : p.log.take 17 = p.log.take n := by
    by_cases h17 : 17 ≤ p.log.length
    · rw [show n = 17 by omega]
    · rw [List.take_of_length_le (by omega), List.take_of_length_le (by omega)]
  have hU := HUS.out.head n hnl
  obtain ⟨p1, hp1⟩ : ∃ x, headP p = x := ⟨_, rfl⟩
  have hl1 : p1.log = p.log.take n := by rw [← hp1]; exact htk
  have hll : p1.log.length = n := by rw [hl1, List.length_take]; omega
  have HIL := Lib.hid (show IsLg W (.slice ao n cap) p1.log by rw [hl1]; exact ⟨fun e he => HOK.out e (List.mem_of_mem_take he), _, hU.ext X⟩)
  have HLL := Lib.hid hll
  have HP1 := Lib.hid hp1
  clear X hn htk hU hl1 hll
  go_upto_region 2 with fail
  have bP2 : (W.setCell ⟨w.heap.size, 6, none⟩ (.slice ao n cap)).heap[w.heap.size]? = some (.cells #[.int .i64 p1.me, .int .u32 (p1.v.n : Int), .int .i64 p1.v.p, .int .i64 p1.v.b, .int .u32 (p1.base.1 : Int), .int .u32 (p1.base.2 : Int), (.slice ao n cap), .bool p1.known, .bool p1.joined, .bool p1.instep, .int .u32 (p1.acked : Int)] 47 (0, 0)) := by
    have := block_setCell bP (i := 6) (.slice ao n cap)
    rw [← hp1]
    simpa [headP] using this
  have gr := grown_setCell W w.heap.size 6 (.slice ao n cap)
  have HX2 := Lib.hid (HX.out.grown gr (fun k hk => by cases hk; omega))
  have bZ := grown_other gr bZ (by omega)
  have HIL2 := Lib.hid (show IsLg (W.setCell ⟨w.heap.size, 6, none⟩ (.slice ao n cap)) (.slice ao n cap) p1.log by
    have hlow : ∀ q, q < w.heap.size → (W.setCell ⟨w.heap.size, 6, none⟩ (.slice ao n cap)).heap[q]? = w.heap[q]? := fun q hq => HX2.out.block hq
    have := HUS.out.head n hnl
    have hl1 : p1.log = p.log.take n := by
      rw [← hp1]
      show p.log.take 17 = _
      by_cases h17 : 17 ≤ p.log.length
      · rw [show n = 17 by omega]
      · rw [List.take_of_length_le (by omega), List.take_of_length_le (by omega)]
    rw [hl1]
    exact ⟨fun e he => HOK.out e (List.mem_of_mem_take he), _, this.ext HX2.out⟩)
  generalize W.setCell ⟨w.heap.size, 6, none⟩ (.slice ao n cap) = W2 at *
  clear gr HX HIL hc ff bP hmi hnc hnc' hp1
  have HX := HX2
  clear HX2
  have hc := block_all bP2
  go_wp2_with fail
  have hz2 := HX.out.size
  have HN17 := Lib.hid hn17
  refine (rbCopy _ _ p1 HIL2.out (by have := HLL.out; omega)).mono ?_
  rintro e W3 ⟨v3, u3, rfl, il, y⟩
  obtain ⟨a3, c3, rfl⟩ := own_shape il.own
  have hll := HLL.out
  rw [hll] at il ⊢
  have il := il.base hz2
  have bP3 := y.keeps bP2
  have bZ := y.keeps bZ
  have HX := Lib.hid (HX.out.trans y)
  clear y hc bP2 hll
  go_upto_region 3 with (((with_reducible refine at_store 47 (.tmp 1) (.tmp 13) ?_); go_must (refine wpl_store rfl 47 (.tmp 1) (.tmp 13) rfl w.heap.size #[.int .i64 p1.me, .int .u32 (p1.v.n : Int), .int .i64 p1.v.p, .int .i64 p1.v.b, .int .u32 (p1.base.1 : Int), .int .u32 (p1.base.2 : Int), (.slice a3 n c3), .bool p1.known, .bool p1.joined, .bool p1.instep, .int .u32 (p1.acked : Int)] (by rfl) (by rfl) 47 _ bP3 (by kernel_rfl) rfl (pr_one _ _ _ _) ?_)))
  have gr := grown_setRow (w := W3) (g := w.heap.size) (c := #[.int .i64 p1.me, .int .u32 (p1.v.n : Int), .int .i64 p1.v.p, .int .i64 p1.v.b, .int .u32 (p1.base.1 : Int), .int .u32 (p1.base.2 : Int), (.slice a3 n c3), .bool p1.known, .bool p1.joined, .bool p1.instep, .int .u32 (p1.acked : Int)])
  have bP := setRow_heap _ w.heap.size _ #[.int .i64 p1.me, .int .u32 (p1.v.n : Int), .int .i64 p1.v.p, .int .i64 p1.v.b, .int .u32 (p1.base.1 : Int), .int .u32 (p1.base.2 : Int), (.slice a3 n c3), .bool p1.known, .bool p1.joined, .bool p1.instep, .int .u32 (p1.acked : Int)] _ _ bP3
  have bZ := grown_other gr bZ (by omega)
  have il := il.grown gr bP3 (by decide) (by decide)
  have HX := Lib.hid (HX.out.grown gr (fun k hk => by cases hk; omega))
  generalize W3.setRow w.heap.size #[.int .i64 p1.me, .int .u32 (p1.v.n : Int), .int .i64 p1.v.p, .int .i64 p1.v.b, .int .u32 (p1.base.1 : Int), .int .u32 (p1.base.2 : Int), (.slice a3 n c3), .bool p1.known, .bool p1.joined, .bool p1.instep, .int .u32 (p1.acked : Int)] = W4 at *
  clear gr bP3
  have hc := block_all bP
  have hn17' : (n : Int) ≤ 17 := by have := HN17.out; omega
  have hmix0 : mixL p1.log 0 = p1.log := rfl
  clear hn17
  go_wp2_with fail
  go_loopg [3, 17] n (fun g s3 s17 wr => ∃ k : Nat, k ≤ n ∧ n - k ≤ g ∧ s17 = .int .i64 (k : Int) ∧ (∃ us, LgOwn wr w.heap.size (.slice a3 n c3) (mixL p1.log k) us) ∧ Ext w wr ∧ wr.heap[w.heap.size]? = some (.cells #[.int .i64 p1.me, .int .u32 (p1.v.n : Int), .int .i64 p1.v.p, .int .i64 p1.v.b, .int .u32 (p1.base.1 : Int), .int .u32 (p1.base.2 : Int), (.slice a3 n c3), .bool p1.known, .bool p1.joined, .bool p1.instep, .int .u32 (p1.acked : Int)] 47 (0, 0)) ∧ wr.heap[w.heap.size + 1]? = some (.cells #[.int .i64 (newP 0).me, .int .u32 ((newP 0).v.n : Int), .int .i64 (newP 0).v.p, .int .i64 (newP 0).v.b, .int .u32 ((newP 0).base.1 : Int), .int .u32 ((newP 0).base.2 : Int), (.slice none 0 0), .bool (newP 0).known, .bool (newP 0).joined, .bool (newP 0).instep, .int .u32 ((newP 0).acked : Int)] 47 (0, 0)))
  case atStart => exact ⟨0, by omega, by omega, rfl, ⟨u3, il⟩, HX.out, bP, bZ⟩
  case round =>
    clear bP bZ hc HX il hmix0
    obtain ⟨k, hk, hg, rfl, ⟨us, il⟩, xr, bP, bZ⟩ := hrel
    by_cases hlt : k < n
    · have hll := HLL.out
      have hml : (mixL p1.log k).length = n := by rw [mixL_len]; exact hll
      have hkm : k < (mixL p1.log k).length := by omega
      have hku : k < us.length := by rw [il.len]; exact hkm
      have hset := mixL_set p1.log k (by omega)
      have hge := mixL_get p1.log k (by omega) hkm
      have hcs := lgCs_get (mixL p1.log k) us k hkm hku
      have ilo := il.own
      rw [hml] at ilo
      obtain ⟨g, c3', e, hgb, hgl⟩ := own_row ilo (by omega)
      simp only [Value.slice.injEq, true_and] at e
      obtain ⟨rfl, rfl⟩ := e
      obtain ⟨x, hx⟩ : ∃ x, (mixL p1.log k)[k] = x := ⟨_, rfl⟩
      obtain ⟨⟨xa, xc⟩, hu⟩ : ∃ u, us[k] = u := ⟨_, rfl⟩
      have hb := il.bs k hkm us[k] (List.getElem?_eq_getElem hku)
      obtain ⟨M, hM⟩ : ∃ M, (cutE x).b.length = M := ⟨_, rfl⟩
      have hMm : min x.b.length 100 = M := by rw [← hM]; show _ = (x.b.take 100).length; rw [List.length_take]; omega
      have hcut := fun v (hv : Ext wr v) => (il.ext hv).cutAt hml.symm k hkm hku M (by rw [hx]; exact hM)
      have hgt := hcs.2.2
      rw [hx, hu] at hgt
      have KC := fun v (hv : Ext wr v) => hv.cell ((ilo.cellAt (k * 3 + 2) (by omega)).trans hgt)
      have KF := fun v (hv : Ext wr v) => ((il.ext hv).own)
      rw [hml] at KF
      rw [hu] at hcut hb
      rw [hge] at hx
      rw [hx] at hset
      rw [show (mixL p1.log k)[k] = x from by rw [hge]; exact hx] at hcut hb
      rw [hset] at hcut
      obtain ⟨_, _, eb, hbc, hbm, _⟩ := (IsB.of_owns hb).opened
      simp only [Value.slice.injEq, true_and] at eb
      obtain ⟨ea, rfl⟩ := eb
      clear ea
      have hmi : (if (100 : Int) < (x.b.length : Int) then (100 : Int) else (x.b.length : Int)) = (M : Int) := by split <;> omega
      have hMc : M ≤ xc := by omega
      have hMc' : (M : Int) ≤ (xc : Int) := by omega
      have hM0 : (0 : Int) ≤ (M : Int) := by omega
      have HX := Lib.hid xr
      have KP := fun v (hv : Ext wr v) => block_all (hv.keeps bP)
      have k1 : (k : Int) < (n : Int) := by omega
      have k0 : (0 : Int) ≤ (k : Int) := by omega
      have hgP : g ≠ w.heap.size := fun q => own_neT ilo bP (by decide) (by rw [← q]; rfl)
      have hgZ : g ≠ w.heap.size + 1 := fun q => own_neT ilo bZ (by decide) (by rw [← q]; rfl)
      have HCUT := Lib.hid hcut
      have HKF := Lib.hid KF
      have BP := Lib.hid bP
      have BZ := Lib.hid bZ
      have hgw : w.heap.size ≤ g := hgb
      clear hcut KF hset hge hcs hgt hx hu hb hM hMm hml hll il ilo bP bZ xr hkm hku
      go_upto_region 6 with fail
      refine wp_region_G 20 (fun v => Ext wr v) (by kernel_rfl) fun wd hqd hHeld => ?_
      refine G_pure (i := 0) (u := ?va0) rfl (by kernel_rfl) (by kernel_rfl) (by kernel_rfl) (fun _ _ _ h => h) (by decide) (Or.inl ⟨by rfl, ?hya0⟩) hHeld ?_
      case hya0 => (intro w hSw; go_simp; try with_reducible rfl)
      simp only [Act.put, List.setIfInBounds_toArray, List.set_cons_zero, List.set_cons_succ, List.getElem_toArray, List.getElem_cons_zero, List.getElem_cons_succ]
      refine G_take (i := 1) (u := ?va1) rfl (by kernel_rfl) (by kernel_rfl) (by kernel_rfl) (fun _ _ _ h => h) rfl (by kernel_rfl) (by decide) (by rfl) (Or.inl ⟨by rfl, ?hya1⟩) hHeld ?_
      case hya1 => (intro w hSw; have kk := KP _ hSw; go_simp; try with_reducible rfl)
      simp only [Act.put, List.setIfInBounds_toArray, List.set_cons_zero, List.set_cons_succ, List.getElem_toArray, List.getElem_cons_zero, List.getElem_cons_succ]
      refine G_pure (i := 2) (u := ?va2) rfl (by kernel_rfl) (by kernel_rfl) (by kernel_rfl) (fun _ _ _ h => h) (by decide) (Or.inl ⟨by rfl, ?hya2⟩) hHeld ?_
      case hya2 => (intro w hSw; go_simp; try with_reducible rfl)
      simp only [Act.put, List.setIfInBounds_toArray, List.set_cons_zero, List.set_cons_succ, List.getElem_toArray, List.getElem_cons_zero, List.getElem_cons_succ]
      refine G_pure (i := 3) (u := ?va3) rfl (by kernel_rfl) (by kernel_rfl) (by kernel_rfl) (fun _ _ _ h => h) (by decide) (Or.inl ⟨by rfl, ?hya3⟩) hHeld ?_
      case hya3 => (intro w hSw; go_simp; try with_reducible rfl)
      simp only [Act.put, List.setIfInBounds_toArray, List.set_cons_zero, List.set_cons_succ, List.getElem_toArray, List.getElem_cons_zero, List.getElem_cons_succ]
      refine G_take (i := 4) (u := ?va4) rfl (by kernel_rfl) (by kernel_rfl) (by kernel_rfl) (fun _ _ _ h => h) rfl (by kernel_rfl) (by decide) (by rfl) (Or.inl ⟨by rfl, ?hya4⟩) hHeld ?_
      case hya4 => (intro w hSw; have kk := KP _ hSw; go_simp; try with_reducible rfl)
      simp only [Act.put, List.setIfInBounds_toArray, List.set_cons_zero, List.set_cons_succ, List.getElem_toArray, List.getElem_cons_zero, List.getElem_cons_succ]
      refine G_pure (i := 5) (u := ?va5) rfl (by kernel_rfl) (by kernel_rfl) (by kernel_rfl) (fun _ _ _ h => h) (by decide) (Or.inl ⟨by rfl, ?hya5⟩) hHeld ?_
      case hya5 => (intro w hSw; go_simp; try with_reducible rfl)
      simp only [Act.put, List.setIfInBounds_toArray, List.set_cons_zero, List.set_cons_succ, List.getElem_toArray, List.getElem_cons_zero, List.getElem_cons_succ]
      refine G_pure (i := 6) (u := ?va6) rfl (by kernel_rfl) (by kernel_rfl) (by kernel_rfl) (fun _ _ _ h => h) (by decide) (Or.inl ⟨by rfl, ?hya6⟩) hHeld ?_
      case hya6 => (intro w hSw; go_simp; try with_reducible rfl)
      simp only [Act.put, List.setIfInBounds_toArray, List.set_cons_zero, List.set_cons_succ, List.getElem_toArray, List.getElem_cons_zero, List.getElem_cons_succ]
      refine G_pure (i := 7) (u := ?va7) rfl (by kernel_rfl) (by kernel_rfl) (by kernel_rfl) (fun _ _ _ h => h) (by decide) (Or.inl ⟨by rfl, ?hya7⟩) hHeld ?_
      case hya7 => (intro w hSw; go_simp; try with_reducible rfl)
      simp only [Act.put, List.setIfInBounds_toArray, List.set_cons_zero, List.set_cons_succ, List.getElem_toArray, List.getElem_cons_zero, List.getElem_cons_succ]
      refine G_take (i := 8) (u := ?va8) rfl (by kernel_rfl) (by kernel_rfl) (by kernel_rfl) (fun _ _ _ h => h) rfl (by kernel_rfl) (by decide) (by rfl) (Or.inl ⟨by rfl, ?hya8⟩) hHeld ?_
      case hya8 => (intro w hSw; have kk := KC _ hSw; go_simp; try with_reducible rfl)
      simp only [Act.put, List.setIfInBounds_toArray, List.set_cons_zero, List.set_cons_succ, List.getElem_toArray, List.getElem_cons_zero, List.getElem_cons_succ]
      refine G_pure (i := 9) (u := ?va9) rfl (by kernel_rfl) (by kernel_rfl) (by kernel_rfl) (fun _ _ _ h => h) (by decide) (Or.inl ⟨by rfl, ?hya9⟩) hHeld ?_
      case hya9 => (intro w hSw; go_simp; try with_reducible rfl)
      simp only [Act.put, List.setIfInBounds_toArray, List.set_cons_zero, List.set_cons_succ, List.getElem_toArray, List.getElem_cons_zero, List.getElem_cons_succ]
      refine G_take (i := 10) (u := ?va10) rfl (by kernel_rfl) (by kernel_rfl) (by kernel_rfl) (fun _ _ _ h => h) rfl (by kernel_rfl) (by decide) (by rfl) (Or.inl ⟨by rfl, ?hya10⟩) hHeld ?_
      case hya10 => (intro w hSw; have kk := KP _ hSw; go_simp; try with_reducible rfl)
      simp only [Act.put, List.setIfInBounds_toArray, List.set_cons_zero, List.set_cons_succ, List.getElem_toArray, List.getElem_cons_zero, List.getElem_cons_succ]
      refine G_pure (i := 11) (u := ?va11) rfl (by kernel_rfl) (by kernel_rfl) (by kernel_rfl) (fun _ _ _ h => h) (by decide) (Or.inl ⟨by rfl, ?hya11⟩) hHeld ?_
      case hya11 => (intro w hSw; go_simp; try with_reducible rfl)
      simp only [Act.put, List.setIfInBounds_toArray, List.set_cons_zero, List.set_cons_succ, List.getElem_toArray, List.getElem_cons_zero, List.getElem_cons_succ]
      refine G_pure (i := 12) (u := ?va12) rfl (by kernel_rfl) (by kernel_rfl) (by kernel_rfl) (fun _ _ _ h => h) (by decide) (Or.inl ⟨by rfl, ?hya12⟩) hHeld ?_
      case hya12 => (intro w hSw; go_simp; try with_reducible rfl)
      simp only [Act.put, List.setIfInBounds_toArray, List.set_cons_zero, List.set_cons_succ, List.getElem_toArray, List.getElem_cons_zero, List.getElem_cons_succ]
      refine G_pure (i := 13) (u := ?va13) rfl (by kernel_rfl) (by kernel_rfl) (by kernel_rfl) (fun _ _ _ h => h) (by decide) (Or.inl ⟨by rfl, ?hya13⟩) hHeld ?_
      case hya13 => (intro w hSw; go_simp; try with_reducible rfl)
      simp only [Act.put, List.setIfInBounds_toArray, List.set_cons_zero, List.set_cons_succ, List.getElem_toArray, List.getElem_cons_zero, List.getElem_cons_succ]
      refine G_take (i := 14) (u := ?va14) rfl (by kernel_rfl) (by kernel_rfl) (by kernel_rfl) (fun _ _ _ h => h) rfl (by kernel_rfl) (by decide) (by rfl) (Or.inl ⟨by rfl, ?hya14⟩) hHeld ?_
      case hya14 => (intro w hSw; have kk := KC _ hSw; go_simp; try with_reducible rfl)
      simp only [Act.put, List.setIfInBounds_toArray, List.set_cons_zero, List.set_cons_succ, List.getElem_toArray, List.getElem_cons_zero, List.getElem_cons_succ]
      refine G_take (i := 15) (u := ?va15) rfl (by kernel_rfl) (by kernel_rfl) (by kernel_rfl) (fun _ _ _ h => h) rfl (by kernel_rfl) (by decide) (by rfl) (Or.inl ⟨by rfl, ?hya15⟩) hHeld ?_
      case hya15 => (intro w hSw; go_simp; try with_reducible rfl)
      simp only [Act.put, List.setIfInBounds_toArray, List.set_cons_zero, List.set_cons_succ, List.getElem_toArray, List.getElem_cons_zero, List.getElem_cons_succ]
      refine G_take (i := 16) (u := ?va16) rfl (by kernel_rfl) (by kernel_rfl) (by kernel_rfl) (fun _ _ _ h => h) rfl (by kernel_rfl) (by decide) (by rfl) (Or.inl ⟨by rfl, ?hya16⟩) hHeld ?_
      case hya16 => (intro w hSw; go_simp; try with_reducible rfl)
      simp only [Act.put, List.setIfInBounds_toArray, List.set_cons_zero, List.set_cons_succ, List.getElem_toArray, List.getElem_cons_zero, List.getElem_cons_succ]
      refine G_pure (i := 17) (u := ?va17) rfl (by kernel_rfl) (by kernel_rfl) (by kernel_rfl) (fun _ _ _ h => h) (by decide) (Or.inl ⟨by rfl, ?hya17⟩) hHeld ?_
      case hya17 => (intro w hSw; go_simp; try with_reducible rfl)
      simp only [Act.put, List.setIfInBounds_toArray, List.set_cons_zero, List.set_cons_succ, List.getElem_toArray, List.getElem_cons_zero, List.getElem_cons_succ]
      refine G_pure (i := 18) (u := ?va18) rfl (by kernel_rfl) (by kernel_rfl) (by kernel_rfl) (fun _ _ _ h => h) (by decide) (Or.inl ⟨by rfl, ?hya18⟩) hHeld ?_
      case hya18 => (intro w hSw; go_simp; try with_reducible rfl)
      simp only [Act.put, List.setIfInBounds_toArray, List.set_cons_zero, List.set_cons_succ, List.getElem_toArray, List.getElem_cons_zero, List.getElem_cons_succ]
      refine G_pure (i := 19) (u := ?va19) rfl (by kernel_rfl) (by kernel_rfl) (by kernel_rfl) (fun _ _ _ h => h) (by decide) (Or.inl ⟨by rfl, ?hya19⟩) hHeld ?_
      case hya19 => (intro w hSw; go_simp; try with_reducible rfl)
      simp only [Act.put, List.setIfInBounds_toArray, List.set_cons_zero, List.set_cons_succ, List.getElem_toArray, List.getElem_cons_zero, List.getElem_cons_succ]
      refine G_all (rs := [20]) (by kernel_rfl) (by simp) ?_
      intro i hi; obtain rfl : i = 20 := by simpa using hi
      refine wpOp_run rfl (by rfl) ?_
      have kk := KC wd hHeld
      have hf := (HKF.out wd hHeld).frozenAt (k * 3 + 2)
      go_simp
      try refine ⟨fun e => absurd e (by decide), ?_⟩
      refine G_free _ _ _ _ (by kernel_rfl) ?_
      try simp only [Act.put, List.setIfInBounds_toArray, List.set_cons_zero, List.set_cons_succ, List.getElem_toArray, List.getElem_cons_zero, List.getElem_cons_succ]
      refine wpAny_done (by kernel_rfl) ?_ _
      refine NoPanic.normal ?_
      have il := HCUT.out _ hHeld
      have gr := grown_setCell wd g (k * 3 + 2) (.slice xa M xc)
      have bP := grown_other gr (hHeld.keeps BP.out) (fun q => hgP q.symm)
      have bZ := grown_other gr (hHeld.keeps BZ.out) (fun q => hgZ q.symm)
      have HX := Lib.hid ((HX.out.trans hHeld).grown gr (fun q hq => by cases hq; omega))
      clear KP KC HCUT HKF BP BZ hHeld kk hf gr hmi hMc hMc' hM0
      go_wp2_with fail
      go_roundg (n - (k + 1))
      case measure => omega
      case rel => exact ⟨k + 1, by omega, by omega, by go_num, ⟨_, il⟩, HX.out, bP, bZ⟩
    · obtain rfl : k = n := by omega
      have hc := block_all bP
      have hll := HLL.out
      have hsp : shortP p = { p1 with log := mixL p1.log k } := by
        rw [← HP1.out] at hll ⊢
        show ({ p with log := (p.log.take 17).map cutE } : Pr) = { p with log := mixL (p.log.take 17) k }
        have hl2 : (p.log.take 17).length = k := hll
        rw [← hl2, mixL_all]
      have hml : (mixL p1.log k).length = k := by rw [mixL_len]; exact hll
      have b9 := setRow_heap _ (w.heap.size + 1) _ #[.int .i64 p1.me, .int .u32 (p1.v.n : Int), .int .i64 p1.v.p, .int .i64 p1.v.b, .int .u32 (p1.base.1 : Int), .int .u32 (p1.base.2 : Int), (.slice a3 k c3), .bool p1.known, .bool p1.joined, .bool p1.instep, .int .u32 (p1.acked : Int)] _ _ bZ
      have g9 := grown_setRow (w := wr) (g := w.heap.size + 1) (c := #[.int .i64 p1.me, .int .u32 (p1.v.n : Int), .int .i64 p1.v.p, .int .i64 p1.v.b, .int .u32 (p1.base.1 : Int), .int .u32 (p1.base.2 : Int), (.slice a3 k c3), .bool p1.known, .bool p1.joined, .bool p1.instep, .int .u32 (p1.acked : Int)])
      have il := il.grown g9 bZ (by decide) (by decide)
      have ix := xr.grown g9 (fun q hq => by cases hq; omega)
      have IL := Lib.hid il
      have HSP := Lib.hid hsp
      clear g9 il hsp hml hll
      go_wp2_with (((with_reducible refine at_store 47 (.tmp 2) (.tmp 41) ?_); go_must (refine wpl_store rfl 47 (.tmp 2) (.tmp 41) rfl (w.heap.size + 1) #[.int .i64 p1.me, .int .u32 (p1.v.n : Int), .int .i64 p1.v.p, .int .i64 p1.v.b, .int .u32 (p1.base.1 : Int), .int .u32 (p1.base.2 : Int), (.slice a3 k c3), .bool p1.known, .bool p1.joined, .bool p1.instep, .int .u32 (p1.acked : Int)] (by rfl) (by rfl) 47 _ bZ (by kernel_rfl) rfl (pr_one _ _ _ _) ?_)))
      exact bodyPost_ret (results_cell_row rfl _ _ (w.heap.size + 1) _ _ _ _ (by rfl) b9 Tryd.underlying47 rfl (by kernel_rfl)) rfl ⟨.slice a3 k c3, us, by rw [HSP.out], by rw [HSP.out]; exact IL.out, ix⟩
end Go.Proofs.YtkcddcomjbihgaaDoor
