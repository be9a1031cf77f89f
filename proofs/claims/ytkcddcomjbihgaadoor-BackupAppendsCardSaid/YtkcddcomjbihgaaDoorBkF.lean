/- Backup: letters. -/
import Derived.Test.YtkcddcomjbihgaaDoorBkE
import Derived.Test.YtkcddcomjbihgaaDoorRegG
import Derived.Test.YtkcddcomjbihgaaDoorRegC
import Derived.Test.YtkcddcomjbihgaaDoorRegS
import Derived.Test.YtkcddcomjbihgaaDoorRegP
namespace Go.Proofs.YtkcddcomjbihgaaDoor
open Go.RowKit
set_option linter.unusedVariables false
set_option linter.unusedSimpArgs false

theorem wp_forget {P : Program} {c : Code} {Q : Exit → Act → World → Prop} {a : Act} {w : World} (R : World → Prop) (h : R w) (k : ∀ W, R W → c.wp P Q a W) : c.wp P Q a w := k w h
theorem own_shape {w : World} {base : Nat} {e : TypeId} {size : Nat} {v : Value} {n : Nat} {xs : List Value} (h : w.ownsRow base e size v n xs) : ∃ ao cap, v = .slice ao n cap := by
  obtain ⟨_, ao, cap, e, _⟩ := IsSl.of_owns h
  exact ⟨ao, cap, e⟩
/-- A row of bytes of the call's own. -/
abbrev OwnB (w : World) (base : Nat) (v : Value) (l : List UInt8) : Prop := w.ownsRow base 5 1 v l.length (l.map bc)
set_option maxHeartbeats 1000000 in
set_option maxRecDepth 100000 in
theorem bkLetter (w : World) (vl vb : Value) (p : Pr) (n : Nt) (h : IsB w vb n.bytes) (hp : PrOk p) (ho : NtOk n) (hb : n.bytes.length ≤ 50000) (hK : Tabs w) :
    Calls Tryd.prog 61 #[.agg #[.int .i64 p.me, .int .u32 (p.v.n : Int), .int .i64 p.v.p, .int .i64 p.v.b, .int .u32 (p.base.1 : Int), .int .u32 (p.base.2 : Int), vl, .bool p.known, .bool p.joined, .bool p.instep, .int .u32 (p.acked : Int)], .agg #[.int .i64 n.kind, .int .u32 (n.view : Int), .int .u32 (n.mark.1 : Int), .int .u32 (n.mark.2 : Int), .int .u32 (n.prev.1 : Int), .int .u32 (n.prev.2 : Int), vb]] w fun e w' => ∃ v', e = .returned (.agg #[.int .i64 (otherI p), v']) ∧ OwnB w' w.heap.size v' (encN { n with view := p.v.n }) ∧ Ext w w' := by
  obtain ⟨ao, cap, rfl, -⟩ := h.opened
  have h1 := h.ext (((((Ext.refl w).alloc (.cells #[.int .i64 p.me, .int .u32 (p.v.n : Int), .int .i64 p.v.p, .int .i64 p.v.b, .int .u32 (p.base.1 : Int), .int .u32 (p.base.2 : Int), vl, .bool p.known, .bool p.joined, .bool p.instep, .int .u32 (p.acked : Int)] 47))).alloc (.cells #[.int .i64 {n with view := p.v.n}.kind, .int .u32 ({n with view := p.v.n}.view : Int), .int .u32 ({n with view := p.v.n}.mark.1 : Int), .int .u32 ({n with view := p.v.n}.mark.2 : Int), .int .u32 ({n with view := p.v.n}.prev.1 : Int), .int .u32 ({n with view := p.v.n}.prev.2 : Int), (.slice ao n.bytes.length cap)] 30)).alloc (.cells #[.int .i64 0, .slice none 0 0] 88))
  have HB := Lib.hid h1
  have HK := Lib.hid (hK.ext (((((Ext.refl w).alloc (.cells #[.int .i64 p.me, .int .u32 (p.v.n : Int), .int .i64 p.v.p, .int .i64 p.v.b, .int .u32 (p.base.1 : Int), .int .u32 (p.base.2 : Int), vl, .bool p.known, .bool p.joined, .bool p.instep, .int .u32 (p.acked : Int)] 47))).alloc (.cells #[.int .i64 {n with view := p.v.n}.kind, .int .u32 ({n with view := p.v.n}.view : Int), .int .u32 ({n with view := p.v.n}.mark.1 : Int), .int .u32 ({n with view := p.v.n}.mark.2 : Int), .int .u32 ({n with view := p.v.n}.prev.1 : Int), .int .u32 ({n with view := p.v.n}.prev.2 : Int), (.slice ao n.bytes.length cap)] 30)).alloc (.cells #[.int .i64 0, .slice none 0 0] 88)))
  clear h h1 hK
  go_enter Tryd.func61, Tryd.ntmps61
  go_wp2_with fail
  refine wp_forget (fun W => IsB W (.slice ao n.bytes.length cap) n.bytes ∧ Tabs W ∧ Ext w W ∧ W.heap[w.heap.size]? = some (.cells #[.int .i64 p.me, .int .u32 (p.v.n : Int), .int .i64 p.v.p, .int .i64 p.v.b, .int .u32 (p.base.1 : Int), .int .u32 (p.base.2 : Int), vl, .bool p.known, .bool p.joined, .bool p.instep, .int .u32 (p.acked : Int)] 47 (0, 0)) ∧ W.heap[w.heap.size + 1]? = some (.cells #[.int .i64 {n with view := p.v.n}.kind, .int .u32 ({n with view := p.v.n}.view : Int), .int .u32 ({n with view := p.v.n}.mark.1 : Int), .int .u32 ({n with view := p.v.n}.mark.2 : Int), .int .u32 ({n with view := p.v.n}.prev.1 : Int), .int .u32 ({n with view := p.v.n}.prev.2 : Int), (.slice ao n.bytes.length cap)] 30 (0, 0)) ∧ W.heap[w.heap.size + 2]? = some (.cells #[.int .i64 0, .slice none 0 0] 88 (0, 0))) ⟨HB.out, HK.out, (((Ext.refl w).alloc _).alloc _).alloc _, blk_old (blk_old (heap_alloc_new w _)), blk_old (blk_new (by simp)), blk_new (by simp)⟩ ?_
  rintro W ⟨hB, hK, X, bP, bN, bL⟩
  have KP := fun v (h : Ext W v) => block_all (h.keeps bP)
  have KN := fun v (h : Ext W v) => block_all (h.keeps bN)
  have HB := Lib.hid hB
  have HK := Lib.hid hK
  have BL := Lib.hid bL
  have ho2 : NtOk { n with view := p.v.n } := ⟨ho.kind, hp.vn, ho.mark, ho.prev⟩
  clear hB hK bP bN bL
  refine wp_region_G 5 (fun v => Ext W v) (by kernel_rfl) fun wd hqd hHeld => ?_
  refine G_take (i := 0) (u := ?va0) rfl (by kernel_rfl) (by kernel_rfl) (by kernel_rfl) (fun _ _ _ h => h) rfl (by kernel_rfl) (by decide) (by rfl) (Or.inl ⟨by rfl, ?hya0⟩) hHeld ?_
  case hya0 => (intro w hSw; go_simp; try with_reducible rfl)
  simp only [Act.put, List.setIfInBounds_toArray, List.set_cons_zero, List.set_cons_succ, List.getElem_toArray, List.getElem_cons_zero, List.getElem_cons_succ]
  refine G_take (i := 2) (u := ?va2) rfl (by kernel_rfl) (by kernel_rfl) (by kernel_rfl) (fun _ _ _ h => h) rfl (by kernel_rfl) (by decide) (by rfl) (Or.inl ⟨by rfl, ?hya2⟩) hHeld ?_
  case hya2 => (intro w hSw; go_simp; try with_reducible rfl)
  simp only [Act.put, List.setIfInBounds_toArray, List.set_cons_zero, List.set_cons_succ, List.getElem_toArray, List.getElem_cons_zero, List.getElem_cons_succ]
  refine G_all (rs := [1]) (by kernel_rfl) (by simp) ?_
  intro i hi; obtain rfl : i = 1 := by simpa using hi
  refine wpOp_run rfl (by rfl) ?_
  go_simp
  refine Calls.mono (bkOther _ _ p) ?_
  rintro e w4 ⟨rfl, x4⟩
  have hHeld := hHeld.trans x4
  first | refine ⟨fun _ => hHeld, ?_⟩ | refine ⟨hHeld, ?_⟩
  try simp only [Act.put, List.setIfInBounds_toArray, List.set_cons_zero, List.set_cons_succ, List.getElem_toArray, List.getElem_cons_zero, List.getElem_cons_succ]
  refine G_all (rs := [3]) (by kernel_rfl) (by simp) ?_
  intro i hi; obtain rfl : i = 3 := by simpa using hi
  refine wpOp_run rfl (by rfl) ?_
  go_simp
  refine Calls.mono (bkLaid _ _ { n with view := p.v.n } (HB.out.ext hHeld) ho2 hb (HK.out.ext hHeld)) ?_
  rintro e w5 ⟨v5, rfl, own5, x5⟩
  have hne5 := own_ne own5 (.inl (block_lt (hHeld.keeps BL.out)))
  have own5 := ownsRow_base own5 (X.trans hHeld).size
  obtain ⟨a5, c5, rfl⟩ := own_shape own5
  have hHeld := hHeld.trans x5
  first | refine ⟨fun _ => hHeld, ?_⟩ | refine ⟨hHeld, ?_⟩
  try simp only [Act.put, List.setIfInBounds_toArray, List.set_cons_zero, List.set_cons_succ, List.getElem_toArray, List.getElem_cons_zero, List.getElem_cons_succ]
  refine G_pure (i := 4) (u := ?va4) rfl (by kernel_rfl) (by kernel_rfl) (by kernel_rfl) (fun _ _ _ h => h) (by decide) (Or.inl ⟨by rfl, ?hya4⟩) hHeld ?_
  case hya4 => (intro w hSw; go_simp; try with_reducible rfl)
  simp only [Act.put, List.setIfInBounds_toArray, List.set_cons_zero, List.set_cons_succ, List.getElem_toArray, List.getElem_cons_zero, List.getElem_cons_succ]
  refine G_all (rs := [5]) (by kernel_rfl) (by simp) ?_
  intro i hi; obtain rfl : i = 5 := by simpa using hi
  refine wpOp_run rfl (by rfl) ?_
  have bL5 := hHeld.keeps BL.out
  refine wp_store_row 88 (.tmp 4) (.tmp 13) rfl (w.heap.size + 2) #[.int .i64 (otherI p), .slice a5 (encN { n with view := p.v.n }).length c5] (by rfl) (by rfl) 88 _ bL5 (by kernel_rfl) rfl (by simp [Value.oneCell']) ?_
  try refine ⟨fun e => absurd e (by decide), ?_⟩
  refine G_free _ _ _ _ (by kernel_rfl) ?_
  try simp only [Act.put, List.setIfInBounds_toArray, List.set_cons_zero, List.set_cons_succ, List.getElem_toArray, List.getElem_cons_zero, List.getElem_cons_succ]
  refine wpAny_done (by kernel_rfl) ?_ _
  refine NoPanic.normal ?_
  have bL6 := setRow_heap w5 (w.heap.size + 2) _ #[.int .i64 (otherI p), .slice a5 (encN { n with view := p.v.n }).length c5] _ _ bL5
  have own6 := ownsRow_grown own5 (grown_setRow (g := w.heap.size + 2) (c := #[.int .i64 (otherI p), .slice a5 (encN { n with view := p.v.n }).length c5])) hne5
  have X6 := (X.trans hHeld).grown (grown_setRow (g := w.heap.size + 2) (c := #[.int .i64 (otherI p), .slice a5 (encN { n with view := p.v.n }).length c5])) (fun k hk => by cases hk; omega)
  have HO := Lib.hid own6
  clear own5 own6 KP KN bL5
  go_wp2_with fail
  exact bodyPost_ret (results_cell_row rfl _ _ (w.heap.size + 2) _ _ _ _ (by rfl) bL6 Tryd.underlying88 rfl (by kernel_rfl)) rfl ⟨_, rfl, HO.out, X6⟩
end Go.Proofs.YtkcddcomjbihgaaDoor
