/- Backup: entry; bytes.Clone, bytes.Equal; a peer in memory of its own. -/
import Derived.Test.YtkcddcomjbihgaaDoorBkF
import Derived.Test.YtkcddcomjbihgaaDoorIdE
namespace Go.Proofs.YtkcddcomjbihgaaDoor
open Go.RowKit
set_option linter.unusedVariables false
set_option linter.unusedSimpArgs false

set_option maxHeartbeats 1000000 in
set_option maxRecDepth 100000 in
theorem bkEntry (w : World) (vl vb : Value) (p : Pr) (prev : Mk) (e : LgE) (h : IsB w vb e.b) (hp : PrOk p) (hv : mkOk prev) (he : mkOk e.m) (hb : e.b.length ≤ 50000) (hK : Tabs w) :
    Calls Tryd.prog 58 #[.agg #[.int .i64 p.me, .int .u32 (p.v.n : Int), .int .i64 p.v.p, .int .i64 p.v.b, .int .u32 (p.base.1 : Int), .int .u32 (p.base.2 : Int), vl, .bool p.known, .bool p.joined, .bool p.instep, .int .u32 (p.acked : Int)], .agg #[.int .u32 (prev.1 : Int), .int .u32 (prev.2 : Int)], .agg #[.int .u32 (e.m.1 : Int), .int .u32 (e.m.2 : Int), vb]] w fun r w' => ∃ v', r = .returned (.agg #[.int .i64 (otherI p), v']) ∧ OwnB w' w.heap.size v' (encN ⟨3, p.v.n, e.m, prev, e.b⟩) ∧ Ext w w' := by
  obtain ⟨ao, cap, rfl, -⟩ := h.opened
  have X := ((((Ext.refl w).alloc (.cells #[.int .i64 p.me, .int .u32 (p.v.n : Int), .int .i64 p.v.p, .int .i64 p.v.b, .int .u32 (p.base.1 : Int), .int .u32 (p.base.2 : Int), vl, .bool p.known, .bool p.joined, .bool p.instep, .int .u32 (p.acked : Int)] 47)).alloc (.cells #[.int .u32 (prev.1 : Int), .int .u32 (prev.2 : Int)] 27)).alloc (.cells #[.int .u32 (e.m.1 : Int), .int .u32 (e.m.2 : Int), (.slice ao e.b.length cap)] 108)).alloc (.cells #[.int .i64 0, .slice none 0 0] 88)
  have h1 := h.ext X
  have hK1 := hK.ext X
  have bL := blk_new (w := ((w.alloc (.cells #[.int .i64 p.me, .int .u32 (p.v.n : Int), .int .i64 p.v.p, .int .i64 p.v.b, .int .u32 (p.base.1 : Int), .int .u32 (p.base.2 : Int), vl, .bool p.known, .bool p.joined, .bool p.instep, .int .u32 (p.acked : Int)] 47)).alloc (.cells #[.int .u32 (prev.1 : Int), .int .u32 (prev.2 : Int)] 27)).alloc (.cells #[.int .u32 (e.m.1 : Int), .int .u32 (e.m.2 : Int), (.slice ao e.b.length cap)] 108)) (b := w.heap.size + 3) (o := .cells #[.int .i64 0, .slice none 0 0] 88) (by simp)
  have HB := Lib.hid h1
  have HK := Lib.hid hK1
  have HX := Lib.hid X
  have BL := Lib.hid bL
  clear h h1 hK hK1 X bL
  go_enter Tryd.func58, Tryd.ntmps58
  go_wp2_with fail
  refine (bkLetter _ _ _ p ⟨3, 0, e.m, prev, e.b⟩ HB.out hp ⟨by show i64Ok 3; unfold i64Ok; omega, by show (0 : Nat) < _; omega, he, hv⟩ hb HK.out).mono ?_
  rintro r w5 ⟨v5, rfl, own5, x5⟩
  have hne5 := own_ne own5 (.inl (block_lt BL.out))
  have bL5 := x5.keeps BL.out
  have own5 := ownsRow_base own5 HX.out.size
  have XX := HX.out.trans x5
  obtain ⟨a5, c5, rfl⟩ := own_shape own5
  have own5 : OwnB w5 w.heap.size (.slice a5 (encN ⟨3, p.v.n, e.m, prev, e.b⟩).length c5) (encN ⟨3, p.v.n, e.m, prev, e.b⟩) := own5
  have own6 := ownsRow_grown own5 (grown_setRow (g := w.heap.size + 3) (c := #[.int .i64 (otherI p), .slice a5 (encN ⟨3, p.v.n, e.m, prev, e.b⟩).length c5])) hne5
  have bL6 := setRow_heap w5 (w.heap.size + 3) _ #[.int .i64 (otherI p), .slice a5 (encN ⟨3, p.v.n, e.m, prev, e.b⟩).length c5] _ _ bL5
  have X6 := XX.grown (grown_setRow (g := w.heap.size + 3) (c := #[.int .i64 (otherI p), .slice a5 (encN ⟨3, p.v.n, e.m, prev, e.b⟩).length c5])) (fun k hk => by cases hk; omega)
  have HO := Lib.hid own6
  have hone : #[Value.int .i64 (otherI p), .slice a5 (encN ⟨3, p.v.n, e.m, prev, e.b⟩).length c5].all (·.oneCell') = true := by simp [Value.oneCell']
  clear own5 own6 x5
  go_wp2_with ((with_reducible refine at_store 88 (.tmp 6) (.tmp 14) ?_); go_must (refine wpl_store rfl 88 (.tmp 6) (.tmp 14) rfl (w.heap.size + 3) #[.int .i64 (otherI p), .slice a5 (encN ⟨3, p.v.n, e.m, prev, e.b⟩).length c5] (by rfl) (by rfl) 88 _ bL5 (by kernel_rfl) rfl hone ?_))
  exact bodyPost_ret (results_cell_row rfl _ _ (w.heap.size + 3) _ _ _ _ (by rfl) bL6 Tryd.underlying88 rfl (by kernel_rfl)) rfl ⟨_, rfl, HO.out, X6⟩

set_option maxHeartbeats 1000000 in
theorem bytesClone (w : World) (v : Value) (l : List UInt8) (h : IsB w v l) (hl : l.length ≤ 140737488355328) :
    Calls Tryd.prog 52 #[v] w fun e w' => ∃ v', e = .returned v' ∧ OwnB w' w.heap.size v' l ∧ Ext w w' := by
  have hx := h
  have q22 : ∀ (w : World) (a : Option Addr) (n c n' c' : Nat), (binOp .eql 28 (.slice a n c) (.slice none n' c')).run Tryd.prog w = .ok (.bool a.isNone) w := fun w a n c n' c' => Lib.run_eql_slice_nil w _ _ a n c n' c' Tryd.underlying28
  obtain ⟨ao, cap, rfl, b1, m1, z1, g1⟩ := h.opened
  clear h
  cases ao with
  | none =>
    have hc := z1 rfl
    have hn : l = [] := List.eq_nil_of_length_eq_zero (by omega)
    subst hn
    subst hc
    clear g1 z1
    go_enter Tryd.func52, Tryd.ntmps52
    go_wp2
    go_ret
    exact ⟨_, rfl, World.ownsRow_nil _ _ _ _, Ext.refl _⟩
  | some a =>
    clear g1 z1
    have o0 := World.ownsRow_made (base := w.heap.size) (e := 5) (size := 1) w #[] 0 (Nat.le_refl _) (by decide) rfl
    go_enter Tryd.func52, Tryd.ntmps52
    go_wp2_with (at_builtin; go_must (refine wp_app tyB rfl _ _ rfl w.heap.size _ 0 [] o0 (by rfl) _ l.length (l.map bc) (hx.ext ((Ext.refl _).alloc _)) (by rfl) (bc_one _) (by omega) (by omega) (by simp) ?_); intro v2 w2 own2 gr2)
    go_ret
    have x2 := own_base o0 gr2 ((Ext.refl w).alloc _) (Nat.le_refl _)
    rw [Nat.zero_add, List.nil_append] at own2
    exact ⟨v2, rfl, own2, x2⟩
set_option maxHeartbeats 1000000 in
theorem bytesEqual (w : World) (v1 v2 : Value) (l1 l2 : List UInt8) (h1 : IsB w v1 l1) (h2 : IsB w v2 l2) :
    Calls Tryd.prog 12 #[v1, v2] w fun e w' => e = .returned (.bool (l1 == l2)) ∧ w = w' := by
  have c1 := conv_str (P := Tryd.prog) h1 28 9 5 Tryd.underlying28 Tryd.underlying5 Tryd.underlying9
  have c2 := conv_str (P := Tryd.prog) h2 28 9 5 Tryd.underlying28 Tryd.underlying5 Tryd.underlying9
  obtain ⟨a1, k1, rfl, -⟩ := h1.opened
  obtain ⟨a2, k2, rfl, -⟩ := h2.opened
  clear h1 h2
  go_enter Tryd.func12, Tryd.ntmps12
  go_wp2
  go_ret
  exact ⟨rfl, rfl⟩
theorem infoLg : (Tryd.prog.info? 108).map (fun i => (i.zero, i.size, i.bytes)) = some (some (.agg #[.int .u32 0, .int .u32 0, .slice none 0 0]), 3, 32) := by kernel_rfl
theorem tyLg : ETy Tryd.prog 45 108 (.agg #[.int .u32 0, .int .u32 0, .slice none 0 0]) 3 32 := ⟨Tryd.underlying45, info_parts infoLg, rfl, by decide⟩
theorem lgCs_one : ∀ (l : List LgE) (us : List Hd), ∀ u ∈ lgCs l us, u.oneCell' = true
  | e :: l, h :: us, u, hu => by
    rw [lgCs, List.mem_append] at hu
    rcases hu with hu | hu
    · simp only [lgV, List.mem_cons, List.not_mem_nil, or_false] at hu
      rcases hu with rfl | rfl | rfl <;> rfl
    · exact lgCs_one l us u hu
  | [], [], _, hu => by simp [lgCs] at hu
  | [], _ :: _, _, hu => by simp [lgCs] at hu
  | _ :: _, [], _, hu => by simp [lgCs] at hu
set_option maxHeartbeats 1000000 in
theorem cloneLg (w : World) (v : Value) (n : Nat) (xs : List Value) (h : IsSl w v 3 n xs) (hone : ∀ u ∈ xs, u.oneCell' = true) (hl : n ≤ 1000000) :
    Calls Tryd.prog 89 #[v] w fun e w' => ∃ v', e = .returned v' ∧ w'.ownsRow w.heap.size 108 3 v' n xs ∧ Ext w w' := by
  have hx := h
  have q22 : ∀ (w : World) (a : Option Addr) (n c n' c' : Nat), (binOp .eql 45 (.slice a n c) (.slice none n' c')).run Tryd.prog w = .ok (.bool a.isNone) w := fun w a n c n' c' => Lib.run_eql_slice_nil w _ _ a n c n' c' Tryd.underlying45
  obtain ⟨hlen, ao, cap, rfl, b1, m1, z1, g1⟩ := h
  cases ao with
  | none =>
    obtain rfl := z1 rfl
    obtain rfl : n = 0 := by omega
    obtain rfl : xs = [] := List.eq_nil_of_length_eq_zero (by omega)
    clear g1 z1
    go_enter Tryd.func89, Tryd.ntmps89
    go_wp2
    go_ret
    exact ⟨_, rfl, World.ownsRow_nil _ _ _ _, Ext.refl _⟩
  | some a =>
    clear g1 z1
    have o0 := World.ownsRow_made (base := w.heap.size) (e := 108) (size := 3) w #[] 0 (Nat.le_refl _) (by decide) rfl
    go_enter Tryd.func89, Tryd.ntmps89
    go_wp2_with (at_builtin; go_must (refine wp_app tyLg rfl _ _ rfl w.heap.size _ 0 [] o0 (by rfl) _ n xs (hx.ext ((Ext.refl _).alloc _)) (by rfl) hone (by omega) (by omega) (by simp) ?_); intro v2 w2 own2 gr2)
    go_ret
    have x2 := own_base o0 gr2 ((Ext.refl w).alloc _) (Nat.le_refl _)
    rw [Nat.zero_add, List.nil_append] at own2
    exact ⟨v2, rfl, own2, x2⟩
theorem lgCs_set : ∀ (l : List LgE) (us : List Hd) (k : Nat) (u : Hd), us.length = l.length → ∀ (hk : k < l.length), lgCs l (us.set k u) = (lgCs l us).set (k * 3 + 2) (.slice u.1 l[k].b.length u.2)
  | e :: l, h :: us, 0, u, _, _ => by simp [lgCs, lgV]
  | e :: l, h :: us, k + 1, u, hl, hk => by
    rw [List.set_cons_succ, lgCs, lgCs, lgCs_set l us k u (by simpa using hl) (by simpa using hk), show (k + 1) * 3 + 2 = (k * 3 + 2) + 3 from by omega]
    simp [lgV]
  | [], [], k, _, _, hk => absurd hk (by simp)
theorem own_block {w : World} {base : Nat} {e : TypeId} {size : Nat} {v : Value} {n : Nat} {xs : List Value} (h : w.ownsRow base e size v n xs) {g : Nat} (hg : v.ownBlock = some g) : ∃ c, w.heap[g]? = some (.cells c e (0, 0)) := by
  rcases h.2 with ⟨rfl, _⟩ | ⟨g', cap, cur, rfl, _, hh, _⟩
  · simp [Value.ownBlock] at hg
  · simp [Value.ownBlock] at hg
    subst hg
    exact ⟨_, hh⟩
/-- A row of entries lies from a block on. -/
def RowGe (w : World) (base : Nat) (v : Value) : Prop := ∀ b o s n c, v = .slice (some ⟨b, o, s⟩) n c → base ≤ b ∧ ∃ cs, w.heap[b]? = some (.cells cs 108 (0, 0))
theorem own_ge {w : World} {base : Nat} {size : Nat} {v : Value} {n : Nat} {xs : List Value} (h : w.ownsRow base 108 size v n xs) : RowGe w base v := fun b o s m c q => by
  subst q
  exact ⟨(h.lt b rfl).1, own_block h rfl⟩
/-- A row of entries, all of it the call's own. -/
structure LgOwn (w : World) (base : Nat) (v : Value) (l : List LgE) (us : List Hd) : Prop where
  len : us.length = l.length
  own : w.ownsRow base 108 3 v l.length (lgCs l us)
  bs : ∀ i (h : i < l.length) u, us[i]? = some u → OwnB w base (.slice u.1 l[i].b.length u.2) l[i].b
/-- A row of entries in memory from a block on. -/
structure LgFr (w : World) (base : Nat) (v : Value) (l : List LgE) (us : List Hd) : Prop where
  len : us.length = l.length
  sl : IsSl w v 3 l.length (lgCs l us)
  ge : RowGe w base v
  bs : ∀ i (h : i < l.length) u, us[i]? = some u → OwnB w base (.slice u.1 l[i].b.length u.2) l[i].b
theorem LgFr.u {w : World} {base : Nat} {v : Value} {l : List LgE} {us : List Hd} (h : LgFr w base v l us) : IsLgU w v l us := ⟨h.len, h.sl, fun i hi u hu => IsB.of_owns (h.bs i hi u hu)⟩
theorem LgOwn.fr {w : World} {base : Nat} {v : Value} {l : List LgE} {us : List Hd} (h : LgOwn w base v l us) : LgFr w base v l us := ⟨h.len, IsSl.of_owns h.own, own_ge h.own, h.bs⟩
theorem LgOwn.ext {w w' : World} {base : Nat} {v : Value} {l : List LgE} {us : List Hd} (h : LgOwn w base v l us) (x : Ext w w') : LgOwn w' base v l us := ⟨h.len, ownsRow_ext h.own x, fun i hi u hu => ownsRow_ext (h.bs i hi u hu) x⟩
theorem LgFr.ext {w w' : World} {base : Nat} {v : Value} {l : List LgE} {us : List Hd} (h : LgFr w base v l us) (x : Ext w w') : LgFr w' base v l us := ⟨h.len, h.sl.ext x, fun b o s n c q => have q := h.ge b o s n c q; ⟨q.1, q.2.imp fun _ e => x.keeps e⟩, fun i hi u hu => ownsRow_ext (h.bs i hi u hu) x⟩
theorem LgFr.nil (w : World) (base : Nat) : LgFr w base (.slice none 0 0) [] [] := ⟨rfl, IsSl.nil w 3, fun b o s n c h => by simp at h, fun i hi => absurd hi (by simp)⟩
theorem own_ty {w : World} {base : Nat} {e : TypeId} {size : Nat} {g n c : Nat} {xs : List Value} (h : w.ownsRow base e size (.slice (some ⟨g, 0, none⟩) n c) n xs) : ∃ cur, w.heap[g]? = some (.cells cur e (0, 0)) := by
  rcases h.2 with ⟨h', _⟩ | ⟨g', cap, cur, h', _, hg, _⟩
  · simp at h'
  · simp only [Value.slice.injEq, Option.some.injEq, Addr.mk.injEq, and_true, true_and] at h'
    rw [h'.1]
    exact ⟨cur, hg⟩
theorem IsB.setOther {w : World} {v : Value} {l : List UInt8} (h : IsB w v l) {g j : Nat} {old : Value} (hc : w.cell? ⟨g, j, none⟩ = some old) (hne : ∀ n, old ≠ .int .u8 n) (u : Value) : IsB (w.setCell ⟨g, j, none⟩ u) v l := by
  obtain ⟨h1, ao, cap, e, h2, h3, h4, h5⟩ := h
  refine ⟨h1, ao, cap, e, h2, h3, h4, fun i hi => ?_⟩
  obtain ⟨b, off, e1, e2⟩ := h5 i hi
  refine ⟨b, off, e1, ?_⟩
  rw [World.cell?_setCell_other (h := fun q => ?_)]
  · exact e2
  · rw [← q, hc] at e2
    have hi' : i < l.length := by simpa using hi
    rw [List.getElem?_map, List.getElem?_eq_getElem hi'] at e2
    simp only [Option.map_some, Option.some.injEq, bc] at e2
    exact hne _ e2
theorem own_row {w : World} {base : Nat} {e : TypeId} {size : Nat} {v : Value} {n : Nat} {xs : List Value} (h : w.ownsRow base e size v n xs) (hn : 0 < n) : ∃ g cap, v = .slice (some ⟨g, 0, none⟩) n cap ∧ base ≤ g ∧ g < w.heap.size := by
  rcases h.2 with ⟨rfl, rfl⟩ | ⟨g, cap, cur, hv, hb, hg, _⟩
  · omega
  · exact ⟨g, cap, hv, hb, block_lt hg⟩
theorem own_neT {w : World} {base : Nat} {e : TypeId} {size : Nat} {v : Value} {n : Nat} {xs : List Value} (h : w.ownsRow base e size v n xs) {b : Nat} {c : Array Value} {t : TypeId} {f : Nat × Nat} (hb : w.heap[b]? = some (.cells c t f)) (ht : t ≠ e) : v.ownBlock ≠ some b := fun q => by
  rcases h.2 with ⟨rfl, _⟩ | ⟨g, cap, cur, rfl, _, hg, _⟩
  · simp [Value.ownBlock] at q
  · simp only [Value.ownBlock, Option.some.injEq] at q
    subst q
    rw [hg] at hb
    simp only [Option.some.injEq, Obj.cells.injEq] at hb
    exact ht hb.2.1.symm
theorem pr_one (a : Option Addr) (n c : Nat) (p : Pr) : (#[.int .i64 p.me, .int .u32 (p.v.n : Int), .int .i64 p.v.p, .int .i64 p.v.b, .int .u32 (p.base.1 : Int), .int .u32 (p.base.2 : Int), (.slice a n c), .bool p.known, .bool p.joined, .bool p.instep, .int .u32 (p.acked : Int)] : Array Value).all (·.oneCell') = true := by simp [Value.oneCell']
set_option maxHeartbeats 4000000 in
set_option maxRecDepth 100000 in
theorem bkCloned (w : World) (vl : Value) (p : Pr) (us : List Hd) (h : IsLgU w vl p.log us) (hok : ∀ e ∈ p.log, lgOk e) (hl : p.log.length ≤ 1000) :
    Calls Tryd.prog 57 #[.agg #[.int .i64 p.me, .int .u32 (p.v.n : Int), .int .i64 p.v.p, .int .i64 p.v.b, .int .u32 (p.base.1 : Int), .int .u32 (p.base.2 : Int), vl, .bool p.known, .bool p.joined, .bool p.instep, .int .u32 (p.acked : Int)]] w fun e w' => ∃ v' us', e = .returned (.agg #[.int .i64 p.me, .int .u32 (p.v.n : Int), .int .i64 p.v.p, .int .i64 p.v.b, .int .u32 (p.base.1 : Int), .int .u32 (p.base.2 : Int), v', .bool p.known, .bool p.joined, .bool p.instep, .int .u32 (p.acked : Int)]) ∧ LgOwn w' w.heap.size v' p.log us' ∧ Ext w w' := by
  obtain ⟨ao, cap, rfl, -⟩ := h.opened
  have hsl := h.sl
  have X0 := ((Ext.refl w).alloc (.cells #[.int .i64 p.me, .int .u32 (p.v.n : Int), .int .i64 p.v.p, .int .i64 p.v.b, .int .u32 (p.base.1 : Int), .int .u32 (p.base.2 : Int), (.slice ao p.log.length cap), .bool p.known, .bool p.joined, .bool p.instep, .int .u32 (p.acked : Int)] 47)).alloc (.cells #[.int .i64 0, .int .u32 0, .int .i64 0, .int .i64 0, .int .u32 0, .int .u32 0, .slice none 0 0, .bool false, .bool false, .bool false, .int .u32 0] 47)
  have b0 := blk_old (o := .cells #[.int .i64 0, .int .u32 0, .int .i64 0, .int .i64 0, .int .u32 0, .int .u32 0, .slice none 0 0, .bool false, .bool false, .bool false, .int .u32 0] 47) (heap_alloc_new w (.cells #[.int .i64 p.me, .int .u32 (p.v.n : Int), .int .i64 p.v.p, .int .i64 p.v.b, .int .u32 (p.base.1 : Int), .int .u32 (p.base.2 : Int), (.slice ao p.log.length cap), .bool p.known, .bool p.joined, .bool p.instep, .int .u32 (p.acked : Int)] 47))
  have b1 := blk_new (w := w.alloc (.cells #[.int .i64 p.me, .int .u32 (p.v.n : Int), .int .i64 p.v.p, .int .i64 p.v.b, .int .u32 (p.base.1 : Int), .int .u32 (p.base.2 : Int), (.slice ao p.log.length cap), .bool p.known, .bool p.joined, .bool p.instep, .int .u32 (p.acked : Int)] 47)) (b := w.heap.size + 1) (o := .cells #[.int .i64 0, .int .u32 0, .int .i64 0, .int .i64 0, .int .u32 0, .int .u32 0, .slice none 0 0, .bool false, .bool false, .bool false, .int .u32 0] 47) (by simp)
  go_enter Tryd.func57, Tryd.ntmps57
  go_wp2_with fail
  refine (cloneLg _ _ _ _ (hsl.ext X0) (lgCs_one _ _) (by omega)).mono ?_
  rintro e w1 ⟨v1, rfl, own1, x1⟩
  have X1 := X0.trans x1
  have b0 := x1.keeps b0
  have b1 := x1.keeps b1
  have hne := own_ne own1 (r := w.heap.size) (.inl (by simp; omega))
  have own1 := ownsRow_base own1 X0.size
  obtain ⟨a1, c1, rfl⟩ := own_shape own1
  have hbs := fun i hi u hu => (h.bs i hi u hu).ext X1
  have hz0 := block_lt b0
  have c0 := block_all b0
  have f0 := fun i => block_free b0 i
  have bP := block_setCell b0 (i := 6) (.slice a1 p.log.length c1)
  have own2 := ownsRow_grown own1 (grown_setCell w1 w.heap.size 6 (.slice a1 p.log.length c1)) hne
  have bZ := set_other b1 (r := w.heap.size) (i := 6) (u := .slice a1 p.log.length c1) (by omega)
  have X2 := X1.setCell (p := ⟨w.heap.size, 6, none⟩) (Nat.le_refl _) (.slice a1 p.log.length c1)
  have hbs2 : ∀ i (hi : i < p.log.length) u, us[i]? = some u → IsB (w1.setCell ⟨w.heap.size, 6, none⟩ (.slice a1 p.log.length c1)) (.slice u.1 p.log[i].b.length u.2) p.log[i].b := fun i hi u hu => (hbs i hi u hu).setOther (by rw [c0]; rfl) (fun n => by simp) _
  have BP := Lib.hid bP
  have BZ := Lib.hid bZ
  have OWN := Lib.hid own2
  have HX := Lib.hid X2
  have HBS := Lib.hid hbs2
  clear bP own2 X2 hbs2 hbs own1 X1 b1 X0 x1 hsl bZ
  go_wp2_with fail
  go_loopg [11] p.log.length (fun g s11 wr => ∃ (k : Nat) (uk : List Hd), k ≤ p.log.length ∧ p.log.length - k ≤ g ∧ s11 = .int .i64 (k : Int) ∧ wr.heap[w.heap.size]? = some (.cells #[.int .i64 p.me, .int .u32 (p.v.n : Int), .int .i64 p.v.p, .int .i64 p.v.b, .int .u32 (p.base.1 : Int), .int .u32 (p.base.2 : Int), (.slice a1 p.log.length c1), .bool p.known, .bool p.joined, .bool p.instep, .int .u32 (p.acked : Int)] 47 (0, 0)) ∧ wr.heap[w.heap.size + 1]? = some (.cells #[.int .i64 0, .int .u32 0, .int .i64 0, .int .i64 0, .int .u32 0, .int .u32 0, .slice none 0 0, .bool false, .bool false, .bool false, .int .u32 0] 47 (0, 0)) ∧ wr.ownsRow w.heap.size 108 3 (.slice a1 p.log.length c1) p.log.length (lgCs p.log uk) ∧ uk.length = p.log.length ∧ (∀ i (hi : i < p.log.length) u, uk[i]? = some u → IsB wr (.slice u.1 p.log[i].b.length u.2) p.log[i].b ∧ (i < k → OwnB wr w.heap.size (.slice u.1 p.log[i].b.length u.2) p.log[i].b)) ∧ Ext w wr)
  case atStart => exact ⟨0, us, Nat.zero_le _, by omega, rfl, BP.out, BZ.out, OWN.out, h.len, fun i hi u hu => ⟨HBS.out i hi u hu, fun h0 => absurd h0 (Nat.not_lt_zero _)⟩, HX.out⟩
  case round =>
    clear c0 f0 b0 BP BZ OWN HX HBS
    obtain ⟨k, uk, hk, hg, rfl, bP, bZ, own, hul, hbs, xr⟩ := hrel
    have cP := block_all bP
    have hlP := block_lt bP
    by_cases hlt : k < p.log.length
    · obtain ⟨g, cg, he, hgb, hgl⟩ := own_row own (by omega)
      simp only [Value.slice.injEq, true_and] at he
      obtain ⟨rfl, rfl⟩ := he
      have hu : k < uk.length := by omega
      have hcell := own.cellAt (k * 3 + 2) (by omega)
      rw [(lgCs_get p.log uk k hlt hu).2.2] at hcell
      have hfr := own.frozenAt (k * 3 + 2)
      have hbk := (hbs k hlt _ (List.getElem?_eq_getElem hu)).1
      have hbl := (hok _ (List.getElem_mem hlt)).2
      have KP := fun v (h : Ext wr v) => block_all (h.keeps bP)
      have KL := fun v (h : Ext wr v) => h.cell hcell
      have KF := fun v (h : Ext wr v) => (h.frozen (p := ⟨g, k * 3 + 2, none⟩) hgl).trans hfr
      have hk0 : (0 : Int) ≤ (k : Int) := Int.natCast_nonneg _
      have hkl : (k : Int) < (p.log.length : Int) := by omega
      have hgP : g ≠ w.heap.size := fun e => own_neT own bP (by decide) (by rw [e]; rfl)
      have hgZ : g ≠ w.heap.size + 1 := fun e => own_neT own bZ (by decide) (by rw [e]; rfl)
      have HBK := Lib.hid hbk
      have HBS := Lib.hid hbs
      have OWN := Lib.hid own
      have BP := Lib.hid bP
      have BZ := Lib.hid bZ
      clear hbk hbs own bP hcell hfr bZ
      go_wp2_with fail
      refine wp_region_G 12 (fun v => Ext wr v) (by kernel_rfl) fun wd hqd hHeld => ?_
      refine G_pure (i := 0) (u := ?va0) rfl (by kernel_rfl) (by kernel_rfl) (by kernel_rfl) (fun _ _ _ h => h) (by decide) (Or.inl ⟨by rfl, ?hya0⟩) hHeld ?_
      case hya0 => (intro w hSw; go_simp; try with_reducible rfl)
      simp only [Act.put, List.setIfInBounds_toArray, List.set_cons_zero, List.set_cons_succ, List.getElem_toArray, List.getElem_cons_zero, List.getElem_cons_succ]
      refine G_take (i := 1) (u := ?va1) rfl (by kernel_rfl) (by kernel_rfl) (by kernel_rfl) (fun _ _ _ h => h) rfl (by kernel_rfl) (by decide) (by rfl) (Or.inl ⟨by rfl, ?hya1⟩) hHeld ?_
      case hya1 => (intro w hSw; go_simp; try with_reducible rfl)
      simp only [Act.put, List.setIfInBounds_toArray, List.set_cons_zero, List.set_cons_succ, List.getElem_toArray, List.getElem_cons_zero, List.getElem_cons_succ]
      refine G_pure (i := 2) (u := ?va2) rfl (by kernel_rfl) (by kernel_rfl) (by kernel_rfl) (fun _ _ _ h => h) (by decide) (Or.inl ⟨by rfl, ?hya2⟩) hHeld ?_
      case hya2 => (intro w hSw; go_simp; try with_reducible rfl)
      simp only [Act.put, List.setIfInBounds_toArray, List.set_cons_zero, List.set_cons_succ, List.getElem_toArray, List.getElem_cons_zero, List.getElem_cons_succ]
      refine G_pure (i := 3) (u := ?va3) rfl (by kernel_rfl) (by kernel_rfl) (by kernel_rfl) (fun _ _ _ h => h) (by decide) (Or.inl ⟨by rfl, ?hya3⟩) hHeld ?_
      case hya3 => (intro w hSw; go_simp; try with_reducible rfl)
      simp only [Act.put, List.setIfInBounds_toArray, List.set_cons_zero, List.set_cons_succ, List.getElem_toArray, List.getElem_cons_zero, List.getElem_cons_succ]
      refine G_take (i := 4) (u := ?va4) rfl (by kernel_rfl) (by kernel_rfl) (by kernel_rfl) (fun _ _ _ h => h) rfl (by kernel_rfl) (by decide) (by rfl) (Or.inl ⟨by rfl, ?hya4⟩) hHeld ?_
      case hya4 => (intro w hSw; go_simp; try with_reducible rfl)
      simp only [Act.put, List.setIfInBounds_toArray, List.set_cons_zero, List.set_cons_succ, List.getElem_toArray, List.getElem_cons_zero, List.getElem_cons_succ]
      refine G_pure (i := 5) (u := ?va5) rfl (by kernel_rfl) (by kernel_rfl) (by kernel_rfl) (fun _ _ _ h => h) (by decide) (Or.inl ⟨by rfl, ?hya5⟩) hHeld ?_
      case hya5 => (intro w hSw; go_simp; try with_reducible rfl)
      simp only [Act.put, List.setIfInBounds_toArray, List.set_cons_zero, List.set_cons_succ, List.getElem_toArray, List.getElem_cons_zero, List.getElem_cons_succ]
      refine G_pure (i := 6) (u := ?va6) rfl (by kernel_rfl) (by kernel_rfl) (by kernel_rfl) (fun _ _ _ h => h) (by decide) (Or.inl ⟨by rfl, ?hya6⟩) hHeld ?_
      case hya6 => (intro w hSw; go_simp; try with_reducible rfl)
      simp only [Act.put, List.setIfInBounds_toArray, List.set_cons_zero, List.set_cons_succ, List.getElem_toArray, List.getElem_cons_zero, List.getElem_cons_succ]
      refine G_pure (i := 7) (u := ?va7) rfl (by kernel_rfl) (by kernel_rfl) (by kernel_rfl) (fun _ _ _ h => h) (by decide) (Or.inl ⟨by rfl, ?hya7⟩) hHeld ?_
      case hya7 => (intro w hSw; go_simp; try with_reducible rfl)
      simp only [Act.put, List.setIfInBounds_toArray, List.set_cons_zero, List.set_cons_succ, List.getElem_toArray, List.getElem_cons_zero, List.getElem_cons_succ]
      refine G_take (i := 8) (u := ?va8) rfl (by kernel_rfl) (by kernel_rfl) (by kernel_rfl) (fun _ _ _ h => h) rfl (by kernel_rfl) (by decide) (by rfl) (Or.inl ⟨by rfl, ?hya8⟩) hHeld ?_
      case hya8 => (intro w hSw; go_simp; try with_reducible rfl)
      simp only [Act.put, List.setIfInBounds_toArray, List.set_cons_zero, List.set_cons_succ, List.getElem_toArray, List.getElem_cons_zero, List.getElem_cons_succ]
      refine G_all (rs := [9]) (by kernel_rfl) (by simp) ?_
      intro i hi; obtain rfl : i = 9 := by simpa using hi
      refine wpOp_run rfl (by rfl) ?_
      go_simp
      refine Calls.mono (bytesClone _ _ _ (HBK.out.ext hHeld) hbl) ?_
      rintro e w9 ⟨v9, rfl, own9, x9⟩
      have own9 := ownsRow_base own9 (xr.trans hHeld).size
      obtain ⟨a9, c9, rfl⟩ := own_shape own9
      have hHeld := hHeld.trans x9
      first | refine ⟨fun _ => hHeld, ?_⟩ | refine ⟨hHeld, ?_⟩
      try simp only [Act.put, List.setIfInBounds_toArray, List.set_cons_zero, List.set_cons_succ, List.getElem_toArray, List.getElem_cons_zero, List.getElem_cons_succ]
      refine G_pure (i := 10) (u := ?va10) rfl (by kernel_rfl) (by kernel_rfl) (by kernel_rfl) (fun _ _ _ h => h) (by decide) (Or.inl ⟨by rfl, ?hya10⟩) hHeld ?_
      case hya10 => (intro w hSw; go_simp; try with_reducible rfl)
      simp only [Act.put, List.setIfInBounds_toArray, List.set_cons_zero, List.set_cons_succ, List.getElem_toArray, List.getElem_cons_zero, List.getElem_cons_succ]
      refine G_pure (i := 11) (u := ?va11) rfl (by kernel_rfl) (by kernel_rfl) (by kernel_rfl) (fun _ _ _ h => h) (by decide) (Or.inl ⟨by rfl, ?hya11⟩) hHeld ?_
      case hya11 => (intro w hSw; go_simp; try with_reducible rfl)
      simp only [Act.put, List.setIfInBounds_toArray, List.set_cons_zero, List.set_cons_succ, List.getElem_toArray, List.getElem_cons_zero, List.getElem_cons_succ]
      refine G_all (rs := [12]) (by kernel_rfl) (by simp) ?_
      intro i hi; obtain rfl : i = 12 := by simpa using hi
      refine wpOp_run rfl (by rfl) ?_
      have kk := KL _ hHeld
      have ff := KF _ hHeld
      have hlg := hHeld.size
      go_simp
      try refine ⟨fun e => absurd e (by decide), ?_⟩
      refine G_free _ _ _ _ (by kernel_rfl) ?_
      try simp only [Act.put, List.setIfInBounds_toArray, List.set_cons_zero, List.set_cons_succ, List.getElem_toArray, List.getElem_cons_zero, List.getElem_cons_succ]
      refine wpAny_done (by kernel_rfl) ?_ _
      refine NoPanic.normal ?_
      have own9' : OwnB w9 w.heap.size (.slice a9 p.log[k].b.length c9) p.log[k].b := own9
      obtain ⟨own2, gr2⟩ := (ownsRow_ext OWN.out hHeld).stored (k * 3 + 2) (.slice a9 p.log[k].b.length c9)
      have own3 : (w9.setCell ⟨g, k * 3 + 2, none⟩ (.slice a9 p.log[k].b.length c9)).ownsRow w.heap.size 108 3 (.slice (some ⟨g, 0, none⟩) p.log.length c1) p.log.length (lgCs p.log (uk.set k (a9, c9))) := by
        rw [lgCs_set p.log uk k (a9, c9) hul hlt]; exact own2
      have bP2 := set_other (hHeld.keeps BP.out) (i := k * 3 + 2) (u := .slice a9 p.log[k].b.length c9) (Ne.symm hgP)
      have bZ2 := set_other (hHeld.keeps BZ.out) (i := k * 3 + 2) (u := .slice a9 p.log[k].b.length c9) (Ne.symm hgZ)
      have X2 := (xr.trans hHeld).setCell (p := ⟨g, k * 3 + 2, none⟩) hgb (.slice a9 p.log[k].b.length c9)
      have hbs2 : ∀ i (hi : i < p.log.length) u, (uk.set k (a9, c9))[i]? = some u → IsB (w9.setCell ⟨g, k * 3 + 2, none⟩ (.slice a9 p.log[k].b.length c9)) (.slice u.1 p.log[i].b.length u.2) p.log[i].b ∧ (i < k + 1 → OwnB (w9.setCell ⟨g, k * 3 + 2, none⟩ (.slice a9 p.log[k].b.length c9)) w.heap.size (.slice u.1 p.log[i].b.length u.2) p.log[i].b) := by
        obtain ⟨cur, hcur⟩ := own_ty (ownsRow_ext OWN.out hHeld)
        intro i hi u hu'
        by_cases hik : i = k
        · subst hik
          rw [List.getElem?_set_self (by omega)] at hu'
          obtain rfl := Option.some.inj hu'
          exact ⟨(IsB.of_owns own9').setOther kk (fun n => by simp) _, fun _ => ownsRow_grown own9' (grown_setCell _ _ _ _) (own_neT own9' hcur (by decide))⟩
        · rw [List.getElem?_set_ne (Ne.symm hik)] at hu'
          have := HBS.out i hi u hu'
          exact ⟨(this.1.ext hHeld).setOther kk (fun n => by simp) _, fun h => ownsRow_grown (ownsRow_ext (this.2 (by omega)) hHeld) (grown_setCell _ _ _ _) (own_neT (ownsRow_ext (this.2 (by omega)) hHeld) hcur (by decide))⟩
      have OWN3 := Lib.hid own3
      have BP2 := Lib.hid bP2
      have BZ2 := Lib.hid bZ2
      have HX2 := Lib.hid X2
      have HBS2 := Lib.hid hbs2
      clear own9 own9' own2 own3 gr2 bP2 bZ2 X2 hbs2 kk ff KP KL KF
      go_wp2_with fail
      go_roundg (p.log.length - (k + 1))
      case measure => omega
      case rel => exact ⟨k + 1, uk.set k (a9, c9), by omega, by omega, by go_num, BP2.out, BZ2.out, OWN3.out, by simpa using hul, HBS2.out, HX2.out⟩
    · obtain rfl : k = p.log.length := by omega
      have bZ3 := setRow_heap wr (w.heap.size + 1) _ #[.int .i64 p.me, .int .u32 (p.v.n : Int), .int .i64 p.v.p, .int .i64 p.v.b, .int .u32 (p.base.1 : Int), .int .u32 (p.base.2 : Int), (.slice a1 p.log.length c1), .bool p.known, .bool p.joined, .bool p.instep, .int .u32 (p.acked : Int)] _ _ bZ
      have hone := pr_one a1 p.log.length c1 p
      have own3 := ownsRow_grown own (grown_setRow (g := w.heap.size + 1) (c := #[.int .i64 p.me, .int .u32 (p.v.n : Int), .int .i64 p.v.p, .int .i64 p.v.b, .int .u32 (p.base.1 : Int), .int .u32 (p.base.2 : Int), (.slice a1 p.log.length c1), .bool p.known, .bool p.joined, .bool p.instep, .int .u32 (p.acked : Int)])) (own_neT own bZ (by decide))
      have X3 := xr.grown (grown_setRow (g := w.heap.size + 1) (c := #[.int .i64 p.me, .int .u32 (p.v.n : Int), .int .i64 p.v.p, .int .i64 p.v.b, .int .u32 (p.base.1 : Int), .int .u32 (p.base.2 : Int), (.slice a1 p.log.length c1), .bool p.known, .bool p.joined, .bool p.instep, .int .u32 (p.acked : Int)])) (fun k hk => by cases hk; omega)
      have hfin : LgOwn (wr.setRow (w.heap.size + 1) #[.int .i64 p.me, .int .u32 (p.v.n : Int), .int .i64 p.v.p, .int .i64 p.v.b, .int .u32 (p.base.1 : Int), .int .u32 (p.base.2 : Int), (.slice a1 p.log.length c1), .bool p.known, .bool p.joined, .bool p.instep, .int .u32 (p.acked : Int)]) w.heap.size (.slice a1 p.log.length c1) p.log uk := by
        exact ⟨hul, own3, fun i hi u hu => ownsRow_grown ((hbs i hi u hu).2 hi) grown_setRow (own_neT ((hbs i hi u hu).2 hi) bZ (by decide))⟩
      have HF := Lib.hid hfin
      clear hbs own own3 hfin
      go_wp2_with ((with_reducible refine at_store 47 (.tmp 2) (.tmp 27) ?_); go_must (refine wpl_store rfl 47 (.tmp 2) (.tmp 27) rfl (w.heap.size + 1) #[.int .i64 p.me, .int .u32 (p.v.n : Int), .int .i64 p.v.p, .int .i64 p.v.b, .int .u32 (p.base.1 : Int), .int .u32 (p.base.2 : Int), (.slice a1 p.log.length c1), .bool p.known, .bool p.joined, .bool p.instep, .int .u32 (p.acked : Int)] (by rfl) (by rfl) 47 _ bZ (by kernel_rfl) rfl hone ?_))
      exact bodyPost_ret (results_cell_row rfl _ _ (w.heap.size + 1) _ _ _ _ (by rfl) bZ3 Tryd.underlying47 rfl (by kernel_rfl)) rfl ⟨_, _, rfl, HF.out, X3⟩
end Go.Proofs.YtkcddcomjbihgaaDoor
