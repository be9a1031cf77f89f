/- Backup: kept. -/
import Derived.Test.YtkcddcomjbihgaaDoorBkG
import Derived.Test.YtkcddcomjbihgaaDoorApp
namespace Go.Proofs.YtkcddcomjbihgaaDoor
open Go.RowKit
set_option linter.unusedVariables false
set_option linter.unusedSimpArgs false

/-- A peer that keeps one entry more. -/
def keptP (p : Pr) (e : LgE) : Pr :=
  if 16 < p.log.length + 1 then { p with base := ((p.log ++ [e]).head?.map (·.m)).getD p.base, log := (p.log ++ [e]).tail } else { p with log := p.log ++ [e] }
theorem lgCs_app : ∀ (l : List LgE) (us : List Hd) (e : LgE) (u : Hd), us.length = l.length → lgCs (l ++ [e]) (us ++ [u]) = lgCs l us ++ lgV e u
  | [], [], e, u, _ => by simp [lgCs]
  | x :: l, y :: us, e, u, h => by
    rw [List.cons_append, List.cons_append, lgCs, lgCs, lgCs_app l us e u (by simpa using h), List.append_assoc]
theorem lgCs_tail : ∀ (l : List LgE) (us : List Hd), us.length = l.length → 0 < l.length → lgCs l.tail us.tail = (lgCs l us).drop 3
  | x :: l, y :: us, _, _ => by simp [lgCs, lgV]
  | [], _, _, h => absurd h (by simp)
theorem lgV_one (e : LgE) (u : Hd) : ∀ c ∈ lgV e u, c.oneCell' = true := by
  intro c hc
  simp only [lgV, List.mem_cons, List.not_mem_nil, or_false] at hc
  rcases hc with rfl | rfl | rfl <;> rfl
theorem infoLg3 : (Tryd.prog.info? 108).map (fun i => (i.zero.map (·.cells.size), i.size)) = some (some 3, 3) := by kernel_rfl
/-- What is owned stays owned where another row of the call's own, of other elements, grows. -/
theorem own_thru {w w' : World} {b1 b2 : Nat} {e1 e2 : TypeId} {s1 s2 : Nat} {v1 v2 : Value} {n1 n2 : Nat} {x1 x2 : List Value} (h : w.ownsRow b1 e1 s1 v1 n1 x1) (hr : w.ownsRow b2 e2 s2 v2 n2 x2) (hne : e2 ≠ e1) (gr : w.grownBy w' v2.ownBlock) : w'.ownsRow b1 e1 s1 v1 n1 x1 := by
  cases hg : v2.ownBlock with
  | none => rw [hg] at gr; exact ownsRow_ext h (grown_none gr)
  | some g =>
    rw [hg] at gr
    rcases hr.2 with ⟨rfl, _⟩ | ⟨g', cap, cur, rfl, _, hh, _⟩
    · simp [Value.ownBlock] at hg
    · simp only [Value.ownBlock, Option.some.injEq] at hg
      subst hg
      exact ownsRow_grown h gr (own_neT h hh hne)
theorem grown_newC {w w' : World} {r : Option Nat} (h : w.grownBy w' r) {g i : Nat} (hg : w.heap.size ≤ g) (u : Value) : w.grownBy (w'.setCell ⟨g, i, none⟩ u) r :=
  ⟨h.os, h.tape, h.output, by simpa using h.size, fun k hk hne => by rw [(grown_setCell w' g i u).block k (Nat.lt_of_lt_of_le hk h.size) (by simp; omega)]; exact h.block k hk hne⟩
theorem grown_newR {w w' : World} {r : Option Nat} (h : w.grownBy w' r) {g : Nat} (hg : w.heap.size ≤ g) (c : Array Value) : w.grownBy (w'.setRow g c) r :=
  ⟨h.os, h.tape, h.output, by rw [setRow_size]; exact h.size, fun k hk hne => by rw [(grown_setRow (w := w') (g := g) (c := c)).block k (Nat.lt_of_lt_of_le hk h.size) (by simp; omega)]; exact h.block k hk hne⟩
theorem LgOwn.base {w : World} {base b2 : Nat} {v : Value} {l : List LgE} {us : List Hd} (h : LgOwn w base v l us) (x : b2 ≤ base) : LgOwn w b2 v l us := ⟨h.len, ownsRow_base h.own x, fun i hi u hu => ownsRow_base (h.bs i hi u hu) x⟩
theorem LgFr.base {w : World} {base b2 : Nat} {v : Value} {l : List LgE} {us : List Hd} (h : LgFr w base v l us) (x : b2 ≤ base) : LgFr w b2 v l us := ⟨h.len, h.sl, fun b o s n c q => ⟨Nat.le_trans x (h.ge b o s n c q).1, (h.ge b o s n c q).2⟩, fun i hi u hu => ownsRow_base (h.bs i hi u hu) x⟩
/-- What gives a peer in memory from a block on. -/
def PrPost (W0 : World) (base : Nat) (K : Pr) (e : Ending) (w' : World) : Prop := ∃ v' us', e = .returned (.agg #[.int .i64 K.me, .int .u32 (K.v.n : Int), .int .i64 K.v.p, .int .i64 K.v.b, .int .u32 (K.base.1 : Int), .int .u32 (K.base.2 : Int), v', .bool K.known, .bool K.joined, .bool K.instep, .int .u32 (K.acked : Int)]) ∧ LgFr w' base v' K.log us' ∧ Ext W0 w'
def KeptPost (w W0 : World) (base : Nat) (v : Value) (K : Pr) (e : Ending) (w' : World) : Prop := PrPost W0 base K e w' ∧ w.grownBy w' v.ownBlock
set_option maxHeartbeats 4000000 in
set_option maxRecDepth 100000 in
theorem bkKept (w W0 : World) (base : Nat) (x0 : Ext W0 w) (h0 : W0.heap.size ≤ base) (hbw : base ≤ w.heap.size) (v vb : Value) (p : Pr) (us : List Hd) (h : LgOwn w base v p.log us) (m : Mk) (b : List UInt8) (hb : IsB w vb b) (hl : p.log.length ≤ 1000) (hbl : b.length ≤ 100000) :
    Calls Tryd.prog 56 #[.agg #[.int .i64 p.me, .int .u32 (p.v.n : Int), .int .i64 p.v.p, .int .i64 p.v.b, .int .u32 (p.base.1 : Int), .int .u32 (p.base.2 : Int), v, .bool p.known, .bool p.joined, .bool p.instep, .int .u32 (p.acked : Int)], .agg #[.int .u32 (m.1 : Int), .int .u32 (m.2 : Int)], vb] w (KeptPost w W0 base v (keptP p ⟨m, b⟩)) := by
  obtain ⟨a1, c1, rfl⟩ := own_shape h.own
  obtain ⟨ab, cb, rfl, -⟩ := hb.opened
  obtain ⟨K, hK⟩ : ∃ K, keptP p ⟨m, b⟩ = K := ⟨_, rfl⟩
  rw [hK]
  have HK := Lib.hid hK
  clear hK
  have XA : Ext w (((w.alloc (.cells #[.int .i64 p.me, .int .u32 (p.v.n : Int), .int .i64 p.v.p, .int .i64 p.v.b, .int .u32 (p.base.1 : Int), .int .u32 (p.base.2 : Int), (.slice a1 p.log.length c1), .bool p.known, .bool p.joined, .bool p.instep, .int .u32 (p.acked : Int)] 47)).alloc (.cells #[.int .u32 (m.1 : Int), .int .u32 (m.2 : Int)] 27)).alloc (.cells #[.int .i64 0, .int .u32 0, .int .i64 0, .int .i64 0, .int .u32 0, .int .u32 0, .slice none 0 0, .bool false, .bool false, .bool false, .int .u32 0] 47)) := (((Ext.refl w).alloc _).alloc _).alloc _
  have H1 := Lib.hid (h.ext XA)
  have HB := Lib.hid (hb.ext XA)
  have HX := Lib.hid (x0.trans XA)
  have HXA := Lib.hid XA
  clear h hb XA
  go_enter Tryd.func56, Tryd.ntmps56
  go_wp2_with fail
  refine wp_forget (fun W => LgOwn W base (.slice a1 p.log.length c1) p.log us ∧ IsB W (.slice ab b.length cb) b ∧ Ext W0 W ∧ Ext w W ∧ W.heap[w.heap.size]? = some (.cells #[.int .i64 p.me, .int .u32 (p.v.n : Int), .int .i64 p.v.p, .int .i64 p.v.b, .int .u32 (p.base.1 : Int), .int .u32 (p.base.2 : Int), (.slice a1 p.log.length c1), .bool p.known, .bool p.joined, .bool p.instep, .int .u32 (p.acked : Int)] 47 (0, 0)) ∧ W.heap[w.heap.size + 1]? = some (.cells #[.int .u32 (m.1 : Int), .int .u32 (m.2 : Int)] 27 (0, 0)) ∧ W.heap[w.heap.size + 2]? = some (.cells #[.int .i64 0, .int .u32 0, .int .i64 0, .int .i64 0, .int .u32 0, .int .u32 0, .slice none 0 0, .bool false, .bool false, .bool false, .int .u32 0] 47 (0, 0))) ⟨H1.out, HB.out, HX.out, HXA.out, blk_old (blk_old (heap_alloc_new w _)), blk_old (blk_new (by simp)), blk_new (by simp)⟩ ?_
  rintro W ⟨hO, hB, X, XW, bP, bM, bZ⟩
  clear H1 HB HX
  have KP := fun v (h : Ext W v) => block_all (h.keeps bP)
  have KM := fun v (h : Ext W v) => block_all (h.keeps bM)
  have HB := Lib.hid hB
  have HO := Lib.hid hO
  have BP := Lib.hid bP
  have BZ := Lib.hid bZ
  have hbW : base ≤ W.heap.size := by have := block_lt bP; omega
  have h0w : W0.heap.size ≤ w.heap.size := by omega
  clear hB hO bP bM bZ
  refine wp_region_G 7 (fun v => Ext W v) (by kernel_rfl) fun wd hqd hHeld => ?_
  refine G_pure (i := 0) (u := ?va0) rfl (by kernel_rfl) (by kernel_rfl) (by kernel_rfl) (fun _ _ _ h => h) (by decide) (Or.inl ⟨by rfl, ?hya0⟩) hHeld ?_
  case hya0 => (intro w hSw; go_simp; try with_reducible rfl)
  simp only [Act.put, List.setIfInBounds_toArray, List.set_cons_zero, List.set_cons_succ, List.getElem_toArray, List.getElem_cons_zero, List.getElem_cons_succ]
  refine G_take (i := 1) (u := ?va1) rfl (by kernel_rfl) (by kernel_rfl) (by kernel_rfl) (fun _ _ _ h => h) rfl (by kernel_rfl) (by decide) (by rfl) (Or.inl ⟨by rfl, ?hya1⟩) hHeld ?_
  case hya1 => (intro w hSw; go_simp; try with_reducible rfl)
  simp only [Act.put, List.setIfInBounds_toArray, List.set_cons_zero, List.set_cons_succ, List.getElem_toArray, List.getElem_cons_zero, List.getElem_cons_succ]
  refine C_take (i := 2) (u := ?va2) [5, 6, 7] rfl (by kernel_rfl) (by kernel_rfl) (by kernel_rfl) (fun _ _ _ h => h) (by kernel_rfl) (by kernel_rfl) (by kernel_rfl) (by kernel_rfl) (Or.inl ⟨by rfl, ?hya2⟩) hHeld ?_
  case hya2 => (intro w hSw; go_simp; try with_reducible rfl)
  simp only [Act.put, List.setIfInBounds_toArray, List.set_cons_zero, List.set_cons_succ, List.getElem_toArray, List.getElem_cons_zero, List.getElem_cons_succ]
  refine G_pure (i := 3) (u := ?va3) rfl (by kernel_rfl) (by kernel_rfl) (by kernel_rfl) (fun _ _ _ h => h) (by decide) (Or.inl ⟨by rfl, ?hya3⟩) hHeld ?_
  case hya3 => (intro w hSw; go_simp; try with_reducible rfl)
  simp only [Act.put, List.setIfInBounds_toArray, List.set_cons_zero, List.set_cons_succ, List.getElem_toArray, List.getElem_cons_zero, List.getElem_cons_succ]
  refine G_all (rs := [4]) (by kernel_rfl) (by simp) ?_
  intro i hi; obtain rfl : i = 4 := by simpa using hi
  refine wpOp_run rfl (by rfl) ?_
  go_simp
  refine Calls.mono (bytesClone _ _ b (HB.out.ext hHeld) (by omega)) ?_
  rintro e w9 ⟨v9, rfl, own9, x9⟩
  have own9 := ownsRow_base own9 (Nat.le_trans hbW hHeld.size)
  obtain ⟨a9, c9, rfl⟩ := own_shape own9
  have hHeld := hHeld.trans x9
  first | refine ⟨fun _ => hHeld, ?_⟩ | refine ⟨hHeld, ?_⟩
  try simp only [Act.put, List.setIfInBounds_toArray, List.set_cons_zero, List.set_cons_succ, List.getElem_toArray, List.getElem_cons_zero, List.getElem_cons_succ]
  refine G_pure (i := 5) (u := ?va5) rfl (by kernel_rfl) (by kernel_rfl) (by kernel_rfl) (fun _ _ _ h => h) (by decide) (Or.inl ⟨by rfl, ?hya5⟩) hHeld ?_
  case hya5 => (intro w hSw; go_simp; try with_reducible rfl)
  simp only [Act.put, List.setIfInBounds_toArray, List.set_cons_zero, List.set_cons_succ, List.getElem_toArray, List.getElem_cons_zero, List.getElem_cons_succ]
  refine G_all (rs := [6]) (by kernel_rfl) (by simp) ?_
  intro i hi; obtain rfl : i = 6 := by simpa using hi
  refine wpOp_run rfl (by rfl) ?_
  refine wp_buildOne 45 (.tmp 12) rfl (lgV ⟨m, b⟩ (a9, c9)) (by rfl) (build_one _ 45 108 3 Tryd.underlying45 infoLg3 (by omega) (by omega) _ rfl) ?_
  have xb : Ext w9 (w9.alloc (.cells (lgV ⟨m, b⟩ (a9, c9)).toArray 108)) := (Ext.refl w9).alloc _
  have hHeld := hHeld.trans xb
  first | refine ⟨fun _ => hHeld, ?_⟩ | refine ⟨hHeld, ?_⟩
  try simp only [Act.put, List.setIfInBounds_toArray, List.set_cons_zero, List.set_cons_succ, List.getElem_toArray, List.getElem_cons_zero, List.getElem_cons_succ]
  refine G_all (rs := [7]) (by kernel_rfl) (by simp) ?_
  intro i hi; obtain rfl : i = 7 := by simpa using hi
  refine wpOp_run rfl (by rfl) ?_
  refine wp_appO tyLg (.tmp 8) (.tmp 13) rfl base (.slice a1 p.log.length c1) p.log.length _ (HO.out.ext hHeld).own (by rfl) _ 1 (lgV ⟨m, b⟩ (a9, c9)) (sl_one_new (w := w9) (n := 3) (e := 108) rfl rfl) (by rfl) (lgV_one _ _) (by omega) (by omega) (Nat.le_trans hbW hHeld.size) ?_
  intro v10 w10 own10 gr10
  have bP10 := grown_keep gr10 (hHeld.keeps BP.out) (own_neT (HO.out.ext hHeld).own (hHeld.keeps BP.out) (by decide))
  obtain ⟨a10, c10, rfl⟩ := own_shape own10
  try refine ⟨fun e => absurd e (by decide), ?_⟩
  refine G_free _ _ _ _ (by kernel_rfl) ?_
  try simp only [Act.put, List.setIfInBounds_toArray, List.set_cons_zero, List.set_cons_succ, List.getElem_toArray, List.getElem_cons_zero, List.getElem_cons_succ]
  refine wpAny_take (i := 8) (v := ?va8) rfl (by kernel_rfl) (by kernel_rfl) (by kernel_rfl) (fun _ _ _ h => h) (Or.inl ⟨by rfl, ?hya8⟩) ?_
  case hya8 => (intro w ; go_simp; try with_reducible rfl)
  simp only [Act.put, List.setIfInBounds_toArray, List.set_cons_zero, List.set_cons_succ, List.getElem_toArray, List.getElem_cons_zero, List.getElem_cons_succ]
  refine wpAny_all (rs := [9]) (by kernel_rfl) (by simp) ?_
  intro i hi; obtain rfl : i = 9 := by simpa using hi
  refine wpOp_run rfl (by rfl) ?_
  have kk := block_all bP10
  have ff := fun i => block_free bP10 i
  go_simp
  try simp only [Act.put, List.setIfInBounds_toArray, List.set_cons_zero, List.set_cons_succ, List.getElem_toArray, List.getElem_cons_zero, List.getElem_cons_succ]
  refine wpAny_done (by kernel_rfl) ?_ _
  refine NoPanic.normal ?_
  have own10b := own10
  have hOx := HO.out.ext hHeld
  have L2 : LgOwn (w10.setCell ⟨w.heap.size, 6, none⟩ (.slice a10 (p.log.length + 1) c10)) base (.slice a10 (p.log.length + 1) c10) (p.log ++ [⟨m, b⟩]) (us ++ [(a9, c9)]) := by
    have hlen := HO.out.len
    refine ⟨by simp [hlen], ?_, ?_⟩
    · rw [lgCs_app _ _ _ _ hlen, List.length_append, List.length_singleton]
      exact ownsRow_grown own10 (grown_setCell _ _ _ _) (own_neT own10 bP10 (by decide))
    · intro i hi u hu
      by_cases hin : i < p.log.length
      · rw [List.getElem?_append_left (by omega)] at hu
        have h1 := own_thru (hOx.bs i hin u hu) hOx.own (by decide) gr10
        rw [List.getElem_append_left hin]
        exact ownsRow_grown h1 (grown_setCell _ _ _ _) (own_neT h1 bP10 (by decide))
      · have hi' : i = p.log.length := by simp at hi; omega
        subst hi'
        rw [List.getElem?_append_right (by omega), hlen, Nat.sub_self] at hu
        simp only [List.getElem?_cons_zero, Option.some.injEq] at hu
        subst hu
        rw [List.getElem_append_right (by omega)]
        simp only [Nat.sub_self, List.getElem_cons_zero]
        have h0 : OwnB (w9.alloc (.cells (lgV ⟨m, b⟩ (a9, c9)).toArray 108)) base (.slice a9 b.length c9) b := ownsRow_ext own9 xb
        have h1 := own_thru h0 hOx.own (by decide) gr10
        exact ownsRow_grown h1 (grown_setCell _ _ _ _) (own_neT h1 bP10 (by decide))
  have bP2 := block_setCell bP10 (i := 6) (.slice a10 (p.log.length + 1) c10)
  have bZ10 := grown_keep gr10 (hHeld.keeps BZ.out) (own_neT hOx.own (hHeld.keeps BZ.out) (by decide))
  have bZ2 := set_other bZ10 (r := w.heap.size) (i := 6) (u := .slice a10 (p.log.length + 1) c10) (by omega)
  have X2 := ((X.trans hHeld).grown gr10 (fun k hk => by have := (hOx.own.lt k hk).1; omega)).setCell (p := ⟨w.heap.size, 6, none⟩) h0w (.slice a10 (p.log.length + 1) c10)
  have GR := Lib.hid (grown_newC (grown_trans (ext_grown (XW.trans hHeld) _) gr10) (Nat.le_refl w.heap.size) (i := 6) (.slice a10 (p.log.length + 1) c10))
  have bP2 : (w10.setCell ⟨w.heap.size, 6, none⟩ (.slice a10 (p.log.length + 1) c10)).heap[w.heap.size]? = some (.cells #[.int .i64 p.me, .int .u32 (p.v.n : Int), .int .i64 p.v.p, .int .i64 p.v.b, .int .u32 (p.base.1 : Int), .int .u32 (p.base.2 : Int), (.slice a10 (p.log.length + 1) c10), .bool p.known, .bool p.joined, .bool p.instep, .int .u32 (p.acked : Int)] 47 (0, 0)) := by simpa using bP2
  generalize w10.setCell ⟨w.heap.size, 6, none⟩ (.slice a10 (p.log.length + 1) c10) = W2 at *
  clear own10 own10b hOx gr10 bP10 bZ10 own9 xb kk ff KP KM HO BP BZ
  have cP := block_all bP2
  by_cases h16 : 16 < p.log.length + 1
  · have hk1 : keptP p ⟨m, b⟩ = { p with base := ((p.log ++ [(⟨m, b⟩ : LgE)]).head?.map (·.m)).getD p.base, log := (p.log ++ [(⟨m, b⟩ : LgE)]).tail } := by unfold keptP; rw [if_pos h16]
    have hk2 := HK.out
    rw [hk1] at hk2
    obtain ⟨g, cg, he, hgb, hgl⟩ := own_row L2.own (by simp)
    simp only [Value.slice.injEq, List.length_append, List.length_singleton, true_and] at he
    obtain ⟨rfl, rfl⟩ := he
    have hcap : p.log.length + 1 ≤ c10 := by
      obtain ⟨_, ao, cap, e, hh, _⟩ := IsSl.of_owns L2.own
      simp only [Value.slice.injEq, List.length_append, List.length_singleton] at e hh
      omega
    have hc1 : c10 ≠ 1 := by omega
    have hlen2 : (p.log ++ [(⟨m, b⟩ : LgE)]).length = p.log.length + 1 := by simp
    have hus2 := L2.len
    clear hk1
    generalize p.log ++ [(⟨m, b⟩ : LgE)] = L at *
    generalize us ++ [(a9, c9)] = U at *
    have hown := L2.own
    rw [hlen2] at hown
    have q0 := hown.cellAt 0 (by omega)
    have q1 := hown.cellAt 1 (by omega)
    have hg3 := lgCs_get L U 0 (by omega) (by omega)
    have hfirst : (L.head?.map (·.m)).getD p.base = L[0].m := by rw [List.head?_eq_getElem?, List.getElem?_eq_getElem (by omega)]; rfl
    rw [hfirst] at hk2
    rw [hg3.1] at q0
    have q1 : W2.cell? ⟨g, 1, none⟩ = some (.int .u32 (L[0].m.2 : Int)) := q1.trans hg3.2.1
    have f1 : (1 : Int) ≤ (p.log.length : Int) + 1 := by omega
    obtain ⟨Z, hZ⟩ : ∃ Z : Array Value, #[Value.int .i64 0, .int .u32 0, .int .i64 0, .int .i64 0, .int .u32 0, .int .u32 0, .slice none 0 0, .bool false, .bool false, .bool false, .int .u32 0] = Z := ⟨_, rfl⟩
    rw [hZ] at bZ2
    have hZs : Z.size = 11 := by rw [← hZ]; rfl
    clear hZ
    have KP := fun v (h : Ext W2 v) => block_all (h.keeps bP2)
    have K0 := fun v (h : Ext W2 v) => h.cell q0
    have K1 := fun v (h : Ext W2 v) => h.cell q1
    have hlg0 : g < W2.heap.size := hgl
    have LFR : ∀ (W3 : World) (Y : Array Value), W2.grownBy W3 (some w.heap.size) → W3.heap[w.heap.size + 2]? = some (.cells Z 47 (0, 0)) → LgFr (W3.setRow (w.heap.size + 2) Y) base (.slice (some ⟨g, 3, none⟩) p.log.length (c10 - 1)) L.tail U.tail := by
      intro W3 Y gr bz
      have th : ∀ {e : TypeId} {s n : Nat} {v : Value} {xs : List Value}, 47 ≠ e → W2.ownsRow base e s v n xs → (W3.setRow (w.heap.size + 2) Y).ownsRow base e s v n xs := fun he h => by
        have h1 := ownsRow_grown h gr (own_neT h bP2 he)
        exact ownsRow_grown h1 grown_setRow (own_neT h1 bz he)
      refine ⟨by simp [hus2], ?_, ?_, ?_⟩
      · have h1 := (IsSl.of_owns (th (by decide) hown)).cut 1 (p.log.length + 1) (by omega) (Nat.le_refl _)
        rw [if_neg hc1] at h1
        simp only [Option.map_some, Addr.add_lit, Nat.zero_add, Nat.one_mul, Nat.add_sub_cancel] at h1
        rw [List.length_tail, hlen2, Nat.add_sub_cancel, lgCs_tail L U hus2 (by omega)]
        rw [List.take_of_length_le (by rw [List.length_drop, lgCs_len L U hus2]; omega)] at h1
        exact h1
      · intro b' o s n c q
        simp only [Value.slice.injEq, Option.some.injEq, Addr.mk.injEq] at q
        obtain ⟨⟨rfl, -⟩, -⟩ := q
        exact ⟨hgb, own_block (th (by decide) hown) rfl⟩
      · intro i hi u hu
        have hi' : i + 1 < L.length := by rw [List.length_tail] at hi; omega
        rw [List.getElem?_tail] at hu
        have := th (by decide) (L2.bs (i + 1) hi' u hu)
        rw [List.getElem_tail]
        exact this
    have HLF := Lib.hid LFR
    have HK2 := Lib.hid hk2
    have BP2 := Lib.hid bP2
    generalize L[0].m = M at *
    clear L2 hk2 hfirst hown hg3 LFR
    go_wp2_with fail
    refine wp_region_G 9 (fun v => Ext W2 v) (by kernel_rfl) fun wd hqd hHeld => ?_
    refine G_pure (i := 0) (u := ?vc0) rfl (by kernel_rfl) (by kernel_rfl) (by kernel_rfl) (fun _ _ _ h => h) (by decide) (Or.inl ⟨by rfl, ?hyc0⟩) hHeld ?_
    case hyc0 => (intro w hSw; go_simp; try with_reducible rfl)
    simp only [Act.put, List.setIfInBounds_toArray, List.set_cons_zero, List.set_cons_succ, List.getElem_toArray, List.getElem_cons_zero, List.getElem_cons_succ]
    refine G_take (i := 1) (u := ?vc1) rfl (by kernel_rfl) (by kernel_rfl) (by kernel_rfl) (fun _ _ _ h => h) rfl (by kernel_rfl) (by decide) (by rfl) (Or.inl ⟨by rfl, ?hyc1⟩) hHeld ?_
    case hyc1 => (intro w hSw; go_simp; try with_reducible rfl)
    simp only [Act.put, List.setIfInBounds_toArray, List.set_cons_zero, List.set_cons_succ, List.getElem_toArray, List.getElem_cons_zero, List.getElem_cons_succ]
    refine G_pure (i := 2) (u := ?vc2) rfl (by kernel_rfl) (by kernel_rfl) (by kernel_rfl) (fun _ _ _ h => h) (by decide) (Or.inl ⟨by rfl, ?hyc2⟩) hHeld ?_
    case hyc2 => (intro w hSw; go_simp; try with_reducible rfl)
    simp only [Act.put, List.setIfInBounds_toArray, List.set_cons_zero, List.set_cons_succ, List.getElem_toArray, List.getElem_cons_zero, List.getElem_cons_succ]
    refine G_pure (i := 3) (u := ?vc3) rfl (by kernel_rfl) (by kernel_rfl) (by kernel_rfl) (fun _ _ _ h => h) (by decide) (Or.inl ⟨by rfl, ?hyc3⟩) hHeld ?_
    case hyc3 => (intro w hSw; go_simp; try with_reducible rfl)
    simp only [Act.put, List.setIfInBounds_toArray, List.set_cons_zero, List.set_cons_succ, List.getElem_toArray, List.getElem_cons_zero, List.getElem_cons_succ]
    refine G_take (i := 4) (u := ?vc4) rfl (by kernel_rfl) (by kernel_rfl) (by kernel_rfl) (fun _ _ _ h => h) rfl (by kernel_rfl) (by decide) (by rfl) (Or.inl ⟨by rfl, ?hyc4⟩) hHeld ?_
    case hyc4 => (intro w hSw; go_simp; try with_reducible rfl)
    simp only [Act.put, List.setIfInBounds_toArray, List.set_cons_zero, List.set_cons_succ, List.getElem_toArray, List.getElem_cons_zero, List.getElem_cons_succ]
    refine G_pure (i := 5) (u := ?vc5) rfl (by kernel_rfl) (by kernel_rfl) (by kernel_rfl) (fun _ _ _ h => h) (by decide) (Or.inl ⟨by rfl, ?hyc5⟩) hHeld ?_
    case hyc5 => (intro w hSw; go_simp; try with_reducible rfl)
    simp only [Act.put, List.setIfInBounds_toArray, List.set_cons_zero, List.set_cons_succ, List.getElem_toArray, List.getElem_cons_zero, List.getElem_cons_succ]
    refine G_take (i := 6) (u := ?vc6) rfl (by kernel_rfl) (by kernel_rfl) (by kernel_rfl) (fun _ _ _ h => h) rfl (by kernel_rfl) (by decide) (by rfl) (Or.inl ⟨by rfl, ?hyc6⟩) hHeld ?_
    case hyc6 => (intro w hSw; go_simp; try with_reducible rfl)
    simp only [Act.put, List.setIfInBounds_toArray, List.set_cons_zero, List.set_cons_succ, List.getElem_toArray, List.getElem_cons_zero, List.getElem_cons_succ]
    refine G_pure (i := 7) (u := ?vc7) rfl (by kernel_rfl) (by kernel_rfl) (by kernel_rfl) (fun _ _ _ h => h) (by decide) (Or.inl ⟨by rfl, ?hyc7⟩) hHeld ?_
    case hyc7 => (intro w hSw; go_simp; try with_reducible rfl)
    simp only [Act.put, List.setIfInBounds_toArray, List.set_cons_zero, List.set_cons_succ, List.getElem_toArray, List.getElem_cons_zero, List.getElem_cons_succ]
    refine G_pure (i := 8) (u := ?vc8) rfl (by kernel_rfl) (by kernel_rfl) (by kernel_rfl) (fun _ _ _ h => h) (by decide) (Or.inl ⟨by rfl, ?hyc8⟩) hHeld ?_
    case hyc8 => (intro w hSw; go_simp; try with_reducible rfl)
    simp only [Act.put, List.setIfInBounds_toArray, List.set_cons_zero, List.set_cons_succ, List.getElem_toArray, List.getElem_cons_zero, List.getElem_cons_succ]
    refine G_all (rs := [9]) (by kernel_rfl) (by simp) ?_
    intro i hi; obtain rfl : i = 9 := by simpa using hi
    refine wpOp_run rfl (by rfl) ?_
    have kk := KP _ hHeld
    have ff := fun i => block_free (hHeld.keeps BP2.out) i
    go_simp
    try refine ⟨fun e => absurd e (by decide), ?_⟩
    refine G_free _ _ _ _ (by kernel_rfl) ?_
    try simp only [Act.put, List.setIfInBounds_toArray, List.set_cons_zero, List.set_cons_succ, List.getElem_toArray, List.getElem_cons_zero, List.getElem_cons_succ]
    refine wpAny_take (i := 10) (v := ?vc10) rfl (by kernel_rfl) (by kernel_rfl) (by kernel_rfl) (fun _ _ _ h => h) (Or.inl ⟨by rfl, ?hyc10⟩) ?_
    case hyc10 => (intro w ; go_simp; try with_reducible rfl)
    simp only [Act.put, List.setIfInBounds_toArray, List.set_cons_zero, List.set_cons_succ, List.getElem_toArray, List.getElem_cons_zero, List.getElem_cons_succ]
    refine wpAny_all (rs := [11]) (by kernel_rfl) (by simp) ?_
    intro i hi; obtain rfl : i = 11 := by simpa using hi
    refine wpOp_run rfl (by rfl) ?_
    have bq := block_setCell (block_setCell (hHeld.keeps BP2.out) (i := 4) (.int .u32 (M.1 : Int))) (i := 5) (.int .u32 (M.2 : Int))
    have kk := block_all bq
    have ff := fun i => block_free bq i
    go_simp
    try simp only [Act.put, List.setIfInBounds_toArray, List.set_cons_zero, List.set_cons_succ, List.getElem_toArray, List.getElem_cons_zero, List.getElem_cons_succ]
    refine wpAny_done (by kernel_rfl) ?_ _
    refine NoPanic.normal ?_
    have bP3 : (((wd.setCell ⟨w.heap.size, 4, none⟩ (.int .u32 (M.1 : Int))).setCell ⟨w.heap.size, 5, none⟩ (.int .u32 (M.2 : Int))).setCell ⟨w.heap.size, 6, none⟩ (.slice (some ⟨g, 3, none⟩) p.log.length (c10 - 1))).heap[w.heap.size]? = some (.cells #[.int .i64 ({ p with base := M, log := L.tail } : Pr).me, .int .u32 (({ p with base := M, log := L.tail } : Pr).v.n : Int), .int .i64 ({ p with base := M, log := L.tail } : Pr).v.p, .int .i64 ({ p with base := M, log := L.tail } : Pr).v.b, .int .u32 (({ p with base := M, log := L.tail } : Pr).base.1 : Int), .int .u32 (({ p with base := M, log := L.tail } : Pr).base.2 : Int), (.slice (some ⟨g, 3, none⟩) p.log.length (c10 - 1)), .bool ({ p with base := M, log := L.tail } : Pr).known, .bool ({ p with base := M, log := L.tail } : Pr).joined, .bool ({ p with base := M, log := L.tail } : Pr).instep, .int .u32 (({ p with base := M, log := L.tail } : Pr).acked : Int)] 47 (0, 0)) := by
      have := block_setCell bq (i := 6) (.slice (some ⟨g, 3, none⟩) p.log.length (c10 - 1))
      simpa using this
    have bZ3 := set_other (set_other (set_other (hHeld.keeps bZ2) (r := w.heap.size) (i := 4) (u := .int .u32 (M.1 : Int)) (by omega)) (r := w.heap.size) (i := 5) (u := .int .u32 (M.2 : Int)) (by omega)) (r := w.heap.size) (i := 6) (u := .slice (some ⟨g, 3, none⟩) p.log.length (c10 - 1)) (by omega)
    have gr3 := grown_trans (grown_trans (grown_trans (ext_grown hHeld (some w.heap.size)) (grown_setCell wd w.heap.size 4 (.int .u32 (M.1 : Int)))) (grown_setCell _ w.heap.size 5 (.int .u32 (M.2 : Int)))) (grown_setCell _ w.heap.size 6 (.slice (some ⟨g, 3, none⟩) p.log.length (c10 - 1)))
    have X3 := X2.grown gr3 (fun k hk => by cases hk; omega)
    have G3 := grown_newC (grown_newC (grown_newC (grown_trans GR.out (ext_grown hHeld _)) (Nat.le_refl w.heap.size) (i := 4) (.int .u32 (M.1 : Int))) (Nat.le_refl w.heap.size) (i := 5) (.int .u32 (M.2 : Int))) (Nat.le_refl w.heap.size) (i := 6) (.slice (some ⟨g, 3, none⟩) p.log.length (c10 - 1))
    generalize (((wd.setCell ⟨w.heap.size, 4, none⟩ (.int .u32 (M.1 : Int))).setCell ⟨w.heap.size, 5, none⟩ (.int .u32 (M.2 : Int))).setCell ⟨w.heap.size, 6, none⟩ (.slice (some ⟨g, 3, none⟩) p.log.length (c10 - 1))) = W3 at *
    have LF := HLF.out W3 #[.int .i64 ({ p with base := M, log := L.tail } : Pr).me, .int .u32 (({ p with base := M, log := L.tail } : Pr).v.n : Int), .int .i64 ({ p with base := M, log := L.tail } : Pr).v.p, .int .i64 ({ p with base := M, log := L.tail } : Pr).v.b, .int .u32 (({ p with base := M, log := L.tail } : Pr).base.1 : Int), .int .u32 (({ p with base := M, log := L.tail } : Pr).base.2 : Int), (.slice (some ⟨g, 3, none⟩) p.log.length (c10 - 1)), .bool ({ p with base := M, log := L.tail } : Pr).known, .bool ({ p with base := M, log := L.tail } : Pr).joined, .bool ({ p with base := M, log := L.tail } : Pr).instep, .int .u32 (({ p with base := M, log := L.tail } : Pr).acked : Int)] gr3 bZ3
    have bZ4 := setRow_heap W3 (w.heap.size + 2) _ #[.int .i64 ({ p with base := M, log := L.tail } : Pr).me, .int .u32 (({ p with base := M, log := L.tail } : Pr).v.n : Int), .int .i64 ({ p with base := M, log := L.tail } : Pr).v.p, .int .i64 ({ p with base := M, log := L.tail } : Pr).v.b, .int .u32 (({ p with base := M, log := L.tail } : Pr).base.1 : Int), .int .u32 (({ p with base := M, log := L.tail } : Pr).base.2 : Int), (.slice (some ⟨g, 3, none⟩) p.log.length (c10 - 1)), .bool ({ p with base := M, log := L.tail } : Pr).known, .bool ({ p with base := M, log := L.tail } : Pr).joined, .bool ({ p with base := M, log := L.tail } : Pr).instep, .int .u32 (({ p with base := M, log := L.tail } : Pr).acked : Int)] _ _ bZ3
    have hone := pr_one (some ⟨g, 3, none⟩) p.log.length (c10 - 1) { p with base := M, log := L.tail }
    have X4 := X3.grown (grown_setRow (g := w.heap.size + 2) (c := #[.int .i64 ({ p with base := M, log := L.tail } : Pr).me, .int .u32 (({ p with base := M, log := L.tail } : Pr).v.n : Int), .int .i64 ({ p with base := M, log := L.tail } : Pr).v.p, .int .i64 ({ p with base := M, log := L.tail } : Pr).v.b, .int .u32 (({ p with base := M, log := L.tail } : Pr).base.1 : Int), .int .u32 (({ p with base := M, log := L.tail } : Pr).base.2 : Int), (.slice (some ⟨g, 3, none⟩) p.log.length (c10 - 1)), .bool ({ p with base := M, log := L.tail } : Pr).known, .bool ({ p with base := M, log := L.tail } : Pr).joined, .bool ({ p with base := M, log := L.tail } : Pr).instep, .int .u32 (({ p with base := M, log := L.tail } : Pr).acked : Int)])) (fun k hk => by cases hk; omega)
    have cP3 := block_all bP3
    have HF := Lib.hid LF
    clear KP K0 K1 kk ff bq q0 q1 gr3 HLF LF cP BP2 bP2
    go_wp2_with ((with_reducible refine at_store 47 (.tmp 6) (.tmp 30) ?_); go_must (refine wpl_store rfl 47 (.tmp 6) (.tmp 30) rfl (w.heap.size + 2) #[.int .i64 ({ p with base := M, log := L.tail } : Pr).me, .int .u32 (({ p with base := M, log := L.tail } : Pr).v.n : Int), .int .i64 ({ p with base := M, log := L.tail } : Pr).v.p, .int .i64 ({ p with base := M, log := L.tail } : Pr).v.b, .int .u32 (({ p with base := M, log := L.tail } : Pr).base.1 : Int), .int .u32 (({ p with base := M, log := L.tail } : Pr).base.2 : Int), (.slice (some ⟨g, 3, none⟩) p.log.length (c10 - 1)), .bool ({ p with base := M, log := L.tail } : Pr).known, .bool ({ p with base := M, log := L.tail } : Pr).joined, .bool ({ p with base := M, log := L.tail } : Pr).instep, .int .u32 (({ p with base := M, log := L.tail } : Pr).acked : Int)] (by rfl) (by rfl) 47 _ bZ3 (by kernel_rfl) hZs hone ?_))
    have hkk := HK2.out
    subst hkk
    exact bodyPost_ret (results_cell_row rfl _ _ (w.heap.size + 2) _ _ _ _ (by rfl) bZ4 Tryd.underlying47 rfl (by kernel_rfl)) rfl ⟨⟨_, _, rfl, HF.out, X4⟩, grown_newR G3 (by omega) _⟩
  · have hk1 : keptP p ⟨m, b⟩ = { p with log := p.log ++ [(⟨m, b⟩ : LgE)] } := by unfold keptP; rw [if_neg h16]
    have hk2 := HK.out
    rw [hk1] at hk2
    have bZ3 := setRow_heap W2 (w.heap.size + 2) _ #[.int .i64 p.me, .int .u32 (p.v.n : Int), .int .i64 p.v.p, .int .i64 p.v.b, .int .u32 (p.base.1 : Int), .int .u32 (p.base.2 : Int), (.slice a10 (p.log.length + 1) c10), .bool p.known, .bool p.joined, .bool p.instep, .int .u32 (p.acked : Int)] _ _ bZ2
    have hone := pr_one a10 (p.log.length + 1) c10 p
    have L3 : LgFr (W2.setRow (w.heap.size + 2) #[.int .i64 p.me, .int .u32 (p.v.n : Int), .int .i64 p.v.p, .int .i64 p.v.b, .int .u32 (p.base.1 : Int), .int .u32 (p.base.2 : Int), (.slice a10 (p.log.length + 1) c10), .bool p.known, .bool p.joined, .bool p.instep, .int .u32 (p.acked : Int)]) base (.slice a10 (p.log.length + 1) c10) (p.log ++ [⟨m, b⟩]) (us ++ [(a9, c9)]) :=
      ⟨L2.len, IsSl.of_owns (ownsRow_grown L2.own grown_setRow (own_neT L2.own bZ2 (by decide))), own_ge (ownsRow_grown L2.own grown_setRow (own_neT L2.own bZ2 (by decide))), fun i hi u hu => ownsRow_grown (L2.bs i hi u hu) grown_setRow (own_neT (L2.bs i hi u hu) bZ2 (by decide))⟩
    have X3 := X2.grown (grown_setRow (g := w.heap.size + 2) (c := #[.int .i64 p.me, .int .u32 (p.v.n : Int), .int .i64 p.v.p, .int .i64 p.v.b, .int .u32 (p.base.1 : Int), .int .u32 (p.base.2 : Int), (.slice a10 (p.log.length + 1) c10), .bool p.known, .bool p.joined, .bool p.instep, .int .u32 (p.acked : Int)])) (fun k hk => by cases hk; omega)
    have HL := Lib.hid L3
    have HK2 := Lib.hid hk2
    clear L2 L3 hk1 hk2
    go_wp2_with ((with_reducible refine at_store 47 (.tmp 6) (.tmp 30) ?_); go_must (refine wpl_store rfl 47 (.tmp 6) (.tmp 30) rfl (w.heap.size + 2) #[.int .i64 p.me, .int .u32 (p.v.n : Int), .int .i64 p.v.p, .int .i64 p.v.b, .int .u32 (p.base.1 : Int), .int .u32 (p.base.2 : Int), (.slice a10 (p.log.length + 1) c10), .bool p.known, .bool p.joined, .bool p.instep, .int .u32 (p.acked : Int)] (by rfl) (by rfl) 47 _ bZ2 (by kernel_rfl) rfl hone ?_))
    have hkk := HK2.out
    subst hkk
    exact bodyPost_ret (results_cell_row rfl _ _ (w.heap.size + 2) _ _ _ _ (by rfl) bZ3 Tryd.underlying47 rfl (by kernel_rfl)) rfl ⟨⟨_, _, rfl, HL.out, X3⟩, grown_newR GR.out (by omega) _⟩
end Go.Proofs.YtkcddcomjbihgaaDoor
