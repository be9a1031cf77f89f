/- Backup: letters of what comes behind a mark. -/
import Derived.Test.YtkcddcomjbihgaaDoorBkH
import Derived.Test.YtkcddcomjbihgaaDoorRegR
namespace Go.Proofs.YtkcddcomjbihgaaDoor
open Go.RowKit Go.Shelf
attribute [local go_sem] Oper.semAt_some
set_option linter.unusedVariables false
set_option linter.unusedSimpArgs false

structure LtE where
  who : Int
  b : List UInt8
def ltV (e : LtE) (u : Hd) : List Value := [.int .i64 e.who, .slice u.1 e.b.length u.2]
def ltCs : List LtE → List Hd → List Value
  | e :: l, u :: us => ltV e u ++ ltCs l us
  | _, _ => []
theorem ltCs_app : ∀ (l : List LtE) (us : List Hd) (e : LtE) (u : Hd), us.length = l.length → ltCs (l ++ [e]) (us ++ [u]) = ltCs l us ++ ltV e u
  | [], [], e, u, _ => by simp [ltCs]
  | x :: l, y :: us, e, u, h => by
    rw [List.cons_append, List.cons_append, ltCs, ltCs, ltCs_app l us e u (by simpa using h), List.append_assoc]
theorem ltV_one (e : LtE) (u : Hd) : ∀ c ∈ ltV e u, c.oneCell' = true := by
  intro c hc
  simp only [ltV, List.mem_cons, List.not_mem_nil, or_false] at hc
  rcases hc with rfl | rfl <;> rfl
/-- A row of letters, all of it the call's own. -/
structure LtOwn (w : World) (base : Nat) (v : Value) (l : List LtE) (us : List Hd) : Prop where
  len : us.length = l.length
  own : w.ownsRow base 88 2 v l.length (ltCs l us)
  bs : ∀ i (h : i < l.length) u, us[i]? = some u → OwnB w base (.slice u.1 l[i].b.length u.2) l[i].b
theorem LtOwn.ext {w w' : World} {base : Nat} {v : Value} {l : List LtE} {us : List Hd} (h : LtOwn w base v l us) (x : Ext w w') : LtOwn w' base v l us := ⟨h.len, ownsRow_ext h.own x, fun i hi u hu => ownsRow_ext (h.bs i hi u hu) x⟩
theorem LtOwn.base {w : World} {base b2 : Nat} {v : Value} {l : List LtE} {us : List Hd} (h : LtOwn w base v l us) (x : b2 ≤ base) : LtOwn w b2 v l us := ⟨h.len, ownsRow_base h.own x, fun i hi u hu => ownsRow_base (h.bs i hi u hu) x⟩
theorem LtOwn.nil (w : World) (base : Nat) : LtOwn w base (.slice none 0 0) [] [] := ⟨rfl, World.ownsRow_nil _ _ _ _, fun i hi => absurd hi (by simp)⟩
/-- Another block turns. -/
theorem LtOwn.other {w w' : World} {base g : Nat} {v : Value} {l : List LtE} {us : List Hd} (h : LtOwn w base v l us) (gr : w.grownBy w' (some g)) (hg : g < base) : LtOwn w' base v l us :=
  ⟨h.len, ownsRow_grown h.own gr (own_ne h.own (.inl hg)), fun i hi u hu => ownsRow_grown (h.bs i hi u hu) gr (own_ne (h.bs i hi u hu) (.inl hg))⟩
theorem owns_same {w w' : World} {base : Nat} {e : TypeId} {size : Nat} {v : Value} {n : Nat} {xs : List Value} (h : w.ownsRow base e size v n xs) (k : ∀ g, v.ownBlock = some g → w'.heap[g]? = w.heap[g]?) : w'.ownsRow base e size v n xs := by
  refine ⟨h.1, ?_⟩
  rcases h.2 with h2 | ⟨g, cap, cur, rfl, hb, hg, h3⟩
  · exact .inl h2
  · exact .inr ⟨g, cap, cur, rfl, hb, by rw [k g rfl]; exact hg, h3⟩
theorem owns_put {w : World} {base : Nat} {e : TypeId} {size : Nat} {v : Value} {n : Nat} {xs : List Value} (h : w.ownsRow base e size v n xs) {l : Nat} {o o' : Obj} (ho : w.heap[l]? = some o) (hc : o.isCells = false) : (w.putObj l o').ownsRow base e size v n xs :=
  owns_same h fun g hg => put_otherG fun e => by
    subst e
    obtain ⟨c, hh⟩ := own_block h hg
    rw [ho] at hh
    cases hh
    simp [Obj.isCells] at hc
theorem LtOwn.put {w : World} {base : Nat} {v : Value} {l : List LtE} {us : List Hd} (h : LtOwn w base v l us) {k : Nat} {o o' : Obj} (ho : w.heap[k]? = some o) (hc : o.isCells = false) : LtOwn (w.putObj k o') base v l us :=
  ⟨h.len, owns_put h.own ho hc, fun i hi u hu => owns_put (h.bs i hi u hu) ho hc⟩
theorem KeepO.own {w w' : World} {base : Nat} {e : TypeId} {size : Nat} {v : Value} {n : Nat} {xs : List Value} (h : w.ownsRow base e size v n xs) (k : w.grownBy w' v.ownBlock) : KeepO w w' := by
  cases hg : v.ownBlock with
  | none => rw [hg] at k; exact KeepO.ext (grown_none k)
  | some g => obtain ⟨c, hh⟩ := own_block h hg; rw [hg] at k; exact KeepO.grown k hh
theorem entsL_idx : ∀ (b : Mk) (l : List LgE) (us : List Hd) (x : En), us.length = l.length → x ∈ entsL b l us → ∃ k, ∃ (h : k < l.length) (hu : k < us.length), x = (prevM b l k, l[k], us[k]) := by
  intro b l us x hl hx
  obtain ⟨k, hk, rfl⟩ := List.getElem_of_mem hx
  rw [entsL_len b l us hl] at hk
  refine ⟨k, hk, by omega, ?_⟩
  have := entsL_get b l us k hk (by omega)
  rw [List.getElem?_eq_getElem (by rw [entsL_len b l us hl]; exact hk)] at this
  exact Option.some.inj this
theorem prevM_ok {b : Mk} {l : List LgE} {k : Nat} (hb : mkOk b) (hl : ∀ e ∈ l, lgOk e) : mkOk (prevM b l k) := by
  unfold prevM
  split
  · exact hb
  · cases h : l[k - 1]? with
    | none => exact hb
    | some e => exact (hl e (List.mem_of_getElem? h)).1
/-- The letter of an entry. -/
def entL (p : Pr) (x : En) : LtE := ⟨otherI p, encN ⟨3, p.v.n, x.2.1.m, x.1, x.2.1.b⟩⟩
def behF (p : Pr) (n : Nat) (xs : List En) : List LtE := ((xs.filter fun x => decide (n < x.2.1.m.2)).take 4).map (entL p)
/-- What comes behind a mark's number. -/
def behL (p : Pr) (n : Nat) (us : List Hd) : List LtE := if n < p.base.2 then [] else behF p n (entsL p.base p.log us)
theorem behF_len (p : Pr) (n : Nat) (xs : List En) : (behF p n xs).length ≤ 4 := by simp [behF]; omega
theorem behF_snoc (p : Pr) (n : Nat) (xs : List En) (x : En) : behF p n (xs ++ [x]) = if (decide (n < x.2.1.m.2) && decide ((behF p n xs).length < 4)) = true then behF p n xs ++ [entL p x] else behF p n xs := by
  unfold behF
  rw [List.filter_append]
  generalize xs.filter (fun x => decide (n < x.2.1.m.2)) = F
  by_cases h : n < x.2.1.m.2
  · rw [List.filter_cons_of_pos (by simpa using h), List.filter_nil]
    by_cases h4 : F.length < 4
    · have h5 : (decide (n < x.2.1.m.2) && decide (((F.take 4).map (entL p)).length < 4)) = true := by simp [h]; omega
      rw [if_pos h5, List.take_of_length_le (by simp; omega), List.take_of_length_le (by omega), List.map_append]
      rfl
    · have h5 : ¬ (decide (n < x.2.1.m.2) && decide (((F.take 4).map (entL p)).length < 4)) = true := by simp [h]; omega
      rw [if_neg h5, List.take_append_of_le_length (by omega)]
  · have h5 : ¬ (decide (n < x.2.1.m.2) && decide (((F.take 4).map (entL p)).length < 4)) = true := by simp [h]
    rw [if_neg h5, List.filter_cons_of_neg (by simpa using h), List.filter_nil, List.append_nil]
theorem infoLt : (Tryd.prog.info? 88).map (fun i => (i.zero, i.size, i.bytes)) = some (some (.agg #[.int .i64 0, .slice none 0 0]), 2, 32) := by kernel_rfl
theorem tyLt : ETy Tryd.prog 49 88 (.agg #[.int .i64 0, .slice none 0 0]) 2 32 := ⟨Tryd.underlying49, info_parts infoLt, rfl, by decide⟩
theorem infoLt2 : (Tryd.prog.info? 88).map (fun i => (i.zero.map (·.cells.size), i.size)) = some (some 2, 2) := by kernel_rfl
/-- What gives letters. -/
def LtPost (w : World) (ls : List LtE) (e : Ending) (w' : World) : Prop := ∃ v us, e = .returned v ∧ LtOwn w' w.heap.size v ls us ∧ Ext w w'
/-- What stands as letters are gathered. -/
def BehI (w : World) (h3 : Nat) (vl : Value) (p : Pr) (n : Nat) (pre : List En) (N : Nat) (W : World) : Prop :=
  ∃ vo uo, W.heap[w.heap.size + 2]? = some (.cells #[vo] 49 (0, 0)) ∧ LtOwn W (h3 + 3) vo (behF p n pre) uo ∧ (∀ g, vo.ownBlock = some g → g < N) ∧ W.heap[w.heap.size]? = some (.cells #[.int .i64 p.me, .int .u32 (p.v.n : Int), .int .i64 p.v.p, .int .i64 p.v.b, .int .u32 (p.base.1 : Int), .int .u32 (p.base.2 : Int), vl, .bool p.known, .bool p.joined, .bool p.instep, .int .u32 (p.acked : Int)] 47 (0, 0)) ∧ W.heap[w.heap.size + 1]? = some (.cells #[.int .u32 (n : Int)] 25 (0, 0)) ∧ Ext w W ∧ h3 ≤ W.heap.size
set_option maxHeartbeats 4000000 in
set_option maxRecDepth 100000 in
theorem bkBehind (w : World) (vl : Value) (p : Pr) (us : List Hd) (n : Nat) (hok : ∀ e ∈ p.log, lgOk e) (hbl : ∀ e ∈ p.log, e.b.length ≤ 50000) (hus : IsLgU w vl p.log us) (hp : PrOk p) (hn : n < 4294967296) (hK : Tabs w) :
    Calls Tryd.prog 62 #[.agg #[.int .i64 p.me, .int .u32 (p.v.n : Int), .int .i64 p.v.p, .int .i64 p.v.b, .int .u32 (p.base.1 : Int), .int .u32 (p.base.2 : Int), vl, .bool p.known, .bool p.joined, .bool p.instep, .int .u32 (p.acked : Int)], .int .u32 (n : Int)] w (LtPost w (behL p n us)) := by
  obtain ⟨ao, cap, rfl, b1, m1, z1, g1⟩ := hus.opened
  clear g1 z1
  by_cases hbn : n < p.base.2
  · have hbe : behL p n us = [] := by unfold behL; rw [if_pos hbn]
    rw [hbe]
    go_enter Tryd.func62, Tryd.ntmps62
    go_wp2_with fail
    go_ret
    exact ⟨_, [], rfl, LtOwn.nil _ _, (((Ext.refl w).alloc _).alloc _).alloc _⟩
  · have hbe : behL p n us = behF p n (entsL p.base p.log us) := by unfold behL; rw [if_neg hbn]
    rw [hbe]
    obtain ⟨xs, hxs⟩ : ∃ xs, entsL p.base p.log us = xs := ⟨_, rfl⟩
    rw [hxs]
    have HXS := Lib.hid hxs
    clear hbe hxs
    refine (callsIn_wide (n := 7)).1 ?_
    refine callsIn_of_wp_marks Tryd.func62 rfl trivial ?_ rfl
    simp only [Tryd.ntmps62, List.size_toArray, List.length_cons, List.length_nil, Nat.reduceAdd, Nat.reduceSub, Array.replicate_succ, Array.replicate_zero, List.push_toArray, List.append_toArray, List.nil_append, List.cons_append]
    refine wpIn_wide.2 ?_
    have X0 := (((Ext.refl w).alloc (.cells #[.int .i64 p.me, .int .u32 (p.v.n : Int), .int .i64 p.v.p, .int .i64 p.v.b, .int .u32 (p.base.1 : Int), .int .u32 (p.base.2 : Int), (.slice ao p.log.length cap), .bool p.known, .bool p.joined, .bool p.instep, .int .u32 (p.acked : Int)] 47)).alloc (.cells #[.int .u32 (n : Int)] 25)).alloc (.cells #[.slice none 0 0] 49)
    have bP := blk_old (o := .cells #[.slice none 0 0] 49) (blk_old (o := .cells #[.int .u32 (n : Int)] 25) (heap_alloc_new w (.cells #[.int .i64 p.me, .int .u32 (p.v.n : Int), .int .i64 p.v.p, .int .i64 p.v.b, .int .u32 (p.base.1 : Int), .int .u32 (p.base.2 : Int), (.slice ao p.log.length cap), .bool p.known, .bool p.joined, .bool p.instep, .int .u32 (p.acked : Int)] 47)))
    have bN := blk_old (o := .cells #[.slice none 0 0] 49) (blk_new (w := w.alloc (.cells #[.int .i64 p.me, .int .u32 (p.v.n : Int), .int .i64 p.v.p, .int .i64 p.v.b, .int .u32 (p.base.1 : Int), .int .u32 (p.base.2 : Int), (.slice ao p.log.length cap), .bool p.known, .bool p.joined, .bool p.instep, .int .u32 (p.acked : Int)] 47)) (b := w.heap.size + 1) (o := .cells #[.int .u32 (n : Int)] 25) (by simp))
    have bO := blk_new (w := (w.alloc (.cells #[.int .i64 p.me, .int .u32 (p.v.n : Int), .int .i64 p.v.p, .int .i64 p.v.b, .int .u32 (p.base.1 : Int), .int .u32 (p.base.2 : Int), (.slice ao p.log.length cap), .bool p.known, .bool p.joined, .bool p.instep, .int .u32 (p.acked : Int)] 47)).alloc (.cells #[.int .u32 (n : Int)] 25)) (b := w.heap.size + 2) (o := .cells #[.slice none 0 0] 49) (by simp)
    have hnb : (p.base.2 : Int) ≤ (n : Int) := by omega
    go_wp2_with fail
    refine (bkEntries _ _ p).mono ?_
    rintro e w3 ⟨rfl, hb3, x3⟩
    have bP := x3.keeps bP
    have bN := x3.keeps bN
    have bO := x3.keeps bO
    have X3 := X0.trans x3
    have hb3 : w3.heap[w.heap.size + 1 + 1 + 1]? = some (.cells #[.int .i64 p.me, .int .u32 (p.v.n : Int), .int .i64 p.v.p, .int .i64 p.v.b, .int .u32 (p.base.1 : Int), .int .u32 (p.base.2 : Int), (.slice ao p.log.length cap), .bool p.known, .bool p.joined, .bool p.instep, .int .u32 (p.acked : Int)] 47 (0, 0)) := by simpa using hb3
    clear X0 x3
    have it := ent_it 6 (by omega) w w3 (w.heap.size + 1 + 1 + 1) _ p us (fun b => b < w3.heap.size ∧ b ≠ w.heap.size + 2) hus X3 hb3 (fun b hb => by have := X3.size; exact ⟨by omega, by omega⟩) ⟨block_lt hb3, by omega⟩
    rw [HXS.out] at it
    go_wp2_with fail
    refine wpIn_wide.1 (wp_rangeD (enc := entE) 7 (by omega) (gf := 90) (lb := #[.pointer (some ⟨w.heap.size + 1 + 1 + 1, 0, none⟩)]) rfl (enters_of Tryd.func90 (by kernel_rfl) rfl) (fun _ => rfl) (xs := xs) (S := fun b => b < w3.heap.size ∧ b ≠ w.heap.size + 2) (fun b hb => hb.1) 1 it
      (BehI w w3.heap.size (.slice ao p.log.length cap) p n)
      (fun _ _ _ => False)
      (fun x a' W => ∃ B5 B6, w3.heap.size + 3 ≤ B5 ∧ w3.heap.size + 3 ≤ B6 ∧ W.heap[B5]? = some (.cells #[.int .u32 (x.1.1 : Int), .int .u32 (x.1.2 : Int)] 27 (0, 0)) ∧ W.heap[B6]? = some (.cells #[.int .u32 (x.2.1.m.1 : Int), .int .u32 (x.2.1.m.2 : Int), (.slice x.2.2.1 x.2.1.b.length x.2.2.2)] 108 (0, 0)) ∧ a' = { tmps := #[Value.agg #[Value.int IntKind.i64 p.me, Value.int IntKind.u32 ↑p.v.n, Value.int IntKind.i64 p.v.p, Value.int IntKind.i64 p.v.b, Value.int IntKind.u32 ↑p.base.fst, Value.int IntKind.u32 ↑p.base.snd, Value.slice ao p.log.length cap, Value.bool p.known, Value.bool p.joined, Value.bool p.instep, Value.int IntKind.u32 ↑p.acked], Value.int IntKind.u32 ↑n, Value.pointer (some { block := w.heap.size, off := 0 }), Value.pointer (some { block := w.heap.size + 1, off := 0 }), Value.slice none 0 0, Value.pointer (some { block := w.heap.size + 1 + 1, off := 0 }), Value.pointer (some { block := B5, off := 0 }), Value.pointer (some { block := B6, off := 0 }), Value.pointer (some { block := w.heap.size, off := 4 }), Value.pointer (some { block := w.heap.size, off := 5 }), Value.int IntKind.u32 ↑p.base.snd, Value.int IntKind.u32 ↑n, Value.bool false, Value.agg #[Value.int IntKind.i64 p.me, Value.int IntKind.u32 ↑p.v.n, Value.int IntKind.i64 p.v.p, Value.int IntKind.i64 p.v.b, Value.int IntKind.u32 ↑p.base.fst, Value.int IntKind.u32 ↑p.base.snd, Value.slice ao p.log.length cap, Value.bool p.known, Value.bool p.joined, Value.bool p.instep, Value.int IntKind.u32 ↑p.acked], Value.func (Fn.func 90) #[] #[Value.pointer (some { block := w.heap.size + 1 + 1 + 1, off := 0 })], Value.agg #[Value.int IntKind.u32 ↑x.fst.fst, Value.int IntKind.u32 ↑x.fst.snd], Value.agg #[Value.int IntKind.u32 ↑x.snd.fst.m.fst, Value.int IntKind.u32 ↑x.snd.fst.m.snd, Value.slice x.snd.snd.fst x.snd.fst.b.length x.snd.snd.snd], undef, undef, undef, undef, undef, undef, undef, undef, undef, undef, undef, undef, undef, undef, undef, undef, undef, undef], defers := [] })
      ?ie ?im ?is ?ic ?ip ?xp ?ap ?h0 ?assign ?body ?done ?stop)
    case assign =>
      intro l x W K hws hK
      dsimp only [entE]
      gi_wp2
      exact hK _ _ (((Ext.refl W).alloc _).alloc _) ⟨W.heap.size, W.heap.size + 1, by omega, by omega, blk_old (heap_alloc_new W _), blk_new (by simp), rfl⟩
    case ie => exact fun pre N A B ⟨vo, uo, h1, h2, h3, h4, h5, h6, h7⟩ x => ⟨vo, uo, x.keeps h1, h2.ext x, h3, x.keeps h4, x.keeps h5, h6.trans x, Nat.le_trans h7 x.size⟩
    case im => exact fun pre N N' A ⟨vo, uo, h1, h2, h3, h4, h5, h6, h7⟩ hN => ⟨vo, uo, h1, h2, fun g hg => Nat.lt_of_lt_of_le (h3 g hg) hN, h4, h5, h6, h7⟩
    case is => exact fun pre N A ⟨vo, uo, h1, h2, h3, h4, h5, h6, h7⟩ => h7
    case ic =>
      rintro pre N A b i u ⟨vo, uo, h1, h2, h3, h4, h5, h6, h7⟩ hb1 hb2
      have := X3.size
      have := block_lt bO
      exact ⟨vo, uo, set_other h1 (by omega), h2.other (grown_setCell A b i u) (by omega), h3, set_other h4 (by omega), set_other h5 (by omega), h6.setCell (by show _ ≤ b; omega) _, by simpa using h7⟩
    case ip =>
      rintro pre N A b o o' ⟨vo, uo, h1, h2, h3, h4, h5, h6, h7⟩ hb ho hc
      have := X3.size
      have := block_lt bO
      exact ⟨vo, uo, (put_otherG (by omega)).trans h1, h2.put ho hc, h3, (put_otherG (by omega)).trans h4, (put_otherG (by omega)).trans h5, h6.grown (grownBy_putObj' A b o') (fun k e => by cases e; omega), by rw [put_size]; exact h7⟩
    case xp => intro c pre A b o o' h; exact h.elim
    case ap =>
      rintro x a' A b o o' ⟨B5, B6, h1, h2, h3, h4, h5⟩ hb ho hc
      refine ⟨B5, B6, h1, h2, (put_otherG (fun e => ?_)).trans h3, (put_otherG (fun e => ?_)).trans h4, h5⟩
      · subst e; rw [ho] at h3; cases h3; simp [Obj.isCells] at hc
      · subst e; rw [ho] at h4; cases h4; simp [Obj.isCells] at hc
    case h0 => exact ⟨_, [], bO, LtOwn.nil _ _, fun g hg => by simp [Value.ownBlock] at hg, bP, bN, X3, Nat.le_refl _⟩
    case stop => intro D c pre W _ _ h _; exact h.elim
    case done =>
      rintro D W hD ⟨vo, uo, bO, hL, hg, bP, bN, X, hz⟩ hK'
      have HL := Lib.hid hL
      have HK := Lib.hid hK'
      obtain ⟨ao2, co2, rfl⟩ := own_shape hL.own
      have cO := block_all bO
      have hX3 := X3.size
      clear it hb3 hL hK' bN bP hg
      go_wp2_with fail
      refine ⟨by simp, .inl ⟨_, _, rfl, run_takeDeferred HK.out, ?_⟩⟩
      refine ⟨.slice ao2 (behF p n xs).length co2, by simp [results, Tryd.f62, go_sem], ?_⟩
      exact ⟨_, _, rfl, (HL.out.base (by omega)).put HK.out rfl, X.grown (grownBy_putObj' W D _) (fun k e => by cases e; omega)⟩
    case body =>
      rintro l pre x a' W N Bk hpx hN hNW hBk ⟨vo, uo, bO, hL, hg, bP, bN, X, hz⟩ ⟨B5, B6, l5, l6, b5, b6, rfl⟩
      have hx : x ∈ entsL p.base p.log us := by
        rw [HXS.out]
        exact hpx.subset (by simp)
      obtain ⟨k, hk, hu, rfl⟩ := entsL_idx p.base p.log us x hus.len hx
      have hIB := (hus.bs k hk _ (List.getElem?_eq_getElem hu)).ext X
      have hmp := prevM_ok (k := k) hp.base hok
      have hlk := hok _ (List.getElem_mem hk)
      have hbk := hbl _ (List.getElem_mem hk)
      have HSN := Lib.hid (behF_snoc p n pre (prevM p.base p.log k, p.log[k], us[k]))
      have HEL := Lib.hid (show entL p (prevM p.base p.log k, p.log[k], us[k]) = ⟨otherI p, encN ⟨3, p.v.n, p.log[k].m, prevM p.base p.log k, p.log[k].b⟩⟩ from rfl)
      have hb4 := behF_len p n pre
      have hKW := hK.ext X
      generalize prevM p.base p.log k = m at *
      generalize p.log[k] = e at *
      generalize us[k] = hd at *
      generalize behF p n pre = L at *
      obtain ⟨ao2, co2, rfl⟩ := own_shape hL.own
      have hlO := block_lt bO
      have hO3 := block_lt ‹w3.heap[w.heap.size + 2]? = _›
      have hno : ¬ Bk (w.heap.size + 2) := fun h => by
        rcases (hBk _ h).2 with h | h | h
        · exact h.2 rfl
        · omega
        · omega
      have hnr : ∀ g, (Value.slice ao2 L.length co2).ownBlock = some g → ¬ Bk g := fun g h hb => by
        have h1 := hg g h
        have h2 := (hL.own.lt g h).1
        rcases (hBk _ hb).2 with h | h | h
        · have := h.1; omega
        · omega
        · omega
      have hBl := fun b hb => (hBk b hb).1
      have KO := fun v (h : Ext W v) => block_all (h.keeps bO)
      have KP := fun v (h : Ext W v) => block_all (h.keeps bP)
      have KN := fun v (h : Ext W v) => block_all (h.keeps bN)
      have K5 := fun v (h : Ext W v) => block_all (h.keeps b5)
      have K6 := fun v (h : Ext W v) => block_all (h.keeps b6)
      have cO := block_all bO
      have cN := block_all bN
      have c6 := block_all b6
      have HL := Lib.hid hL
      have HIB := Lib.hid hIB
      have HKW := Lib.hid hKW
      have BO := Lib.hid bO
      have BP := Lib.hid bP
      have BN := Lib.hid bN
      have HG := Lib.hid hg
      have HNR := Lib.hid hnr
      have HBL := Lib.hid hBl
      clear hL hIB hKW bO bP bN b5 b6 it hb3 hBk hx hpx hnr hBl hg
      have hlO3 : w.heap.size + 2 < w3.heap.size := hO3
      have hzw := X3.size
      have stay : BehI w w3.heap.size (.slice ao p.log.length cap) p n pre W.heap.size W → True := fun _ => trivial
      clear stay
      have HOLD := Lib.hid (fun (q : behF p n (pre ++ [(m, e, hd)]) = L) => (show BehI w w3.heap.size (.slice ao p.log.length cap) p n (pre ++ [(m, e, hd)]) W.heap.size W from ⟨_, uo, BO.out, by rw [q]; exact HL.out, fun g hg => by have := HG.out g hg; omega, BP.out, BN.out, X, hz⟩))
      gi_wp2
      · have hS := HSN.out
        have c1 : (decide (n < e.m.2) && decide (L.length < 4)) = true := by simp [*]; omega
        rw [if_pos c1] at hS
        have HS := Lib.hid hS
        clear hS c1
        refine wpR_region_G 6 (fun v => Ext W v) (by kernel_rfl) (by kernel_rfl) fun wd hqd hHeld => ?_
        refine G_take (i := 0) (u := ?va0) rfl (by kernel_rfl) (by kernel_rfl) (by kernel_rfl) (fun _ _ _ h => h) rfl (by kernel_rfl) (by decide) (by rfl) (Or.inl ⟨by rfl, ?hya0⟩) hHeld ?_
        case hya0 => (intro w hSw; go_simp; try with_reducible rfl)
        simp only [Act.put, List.setIfInBounds_toArray, List.set_cons_zero, List.set_cons_succ, List.getElem_toArray, List.getElem_cons_zero, List.getElem_cons_succ]
        refine C_take (i := 1) (u := ?va1) [4, 6] rfl (by kernel_rfl) (by kernel_rfl) (by kernel_rfl) (fun _ _ _ h => h) (by kernel_rfl) (by kernel_rfl) (by kernel_rfl) (by kernel_rfl) (Or.inl ⟨by rfl, ?hya1⟩) hHeld ?_
        case hya1 => (intro w hSw; go_simp; try with_reducible rfl)
        simp only [Act.put, List.setIfInBounds_toArray, List.set_cons_zero, List.set_cons_succ, List.getElem_toArray, List.getElem_cons_zero, List.getElem_cons_succ]
        refine C_take (i := 2) (u := ?va2) [4, 6] rfl (by kernel_rfl) (by kernel_rfl) (by kernel_rfl) (fun _ _ _ h => h) (by kernel_rfl) (by kernel_rfl) (by kernel_rfl) (by kernel_rfl) (Or.inl ⟨by rfl, ?hya2⟩) hHeld ?_
        case hya2 => (intro w hSw; go_simp; try with_reducible rfl)
        simp only [Act.put, List.setIfInBounds_toArray, List.set_cons_zero, List.set_cons_succ, List.getElem_toArray, List.getElem_cons_zero, List.getElem_cons_succ]
        refine C_take (i := 3) (u := ?va3) [4, 6] rfl (by kernel_rfl) (by kernel_rfl) (by kernel_rfl) (fun _ _ _ h => h) (by kernel_rfl) (by kernel_rfl) (by kernel_rfl) (by kernel_rfl) (Or.inl ⟨by rfl, ?hya3⟩) hHeld ?_
        case hya3 => (intro w hSw; go_simp; try with_reducible rfl)
        simp only [Act.put, List.setIfInBounds_toArray, List.set_cons_zero, List.set_cons_succ, List.getElem_toArray, List.getElem_cons_zero, List.getElem_cons_succ]
        refine G_all (rs := [4]) (by kernel_rfl) (by simp) ?_
        intro i hi; obtain rfl : i = 4 := by simpa using hi
        refine wpOp_run rfl (by rfl) ?_
        go_simp
        refine Calls.mono (bkEntry _ _ _ p m e (HIB.out.ext hHeld) hp hmp hlk.1 hbk (HKW.out.ext hHeld)) ?_
        rintro e1 w9 ⟨v9, rfl, own9, x9⟩
        have own9 := ownsRow_base own9 (show w3.heap.size + 3 ≤ _ from Nat.le_trans (Nat.le_trans hN hNW) hHeld.size)
        obtain ⟨a9, c9, rfl⟩ := own_shape own9
        have hHeld := hHeld.trans x9
        first | refine ⟨fun _ => hHeld, ?_⟩ | refine ⟨hHeld, ?_⟩
        try simp only [Act.put, List.setIfInBounds_toArray, List.set_cons_zero, List.set_cons_succ, List.getElem_toArray, List.getElem_cons_zero, List.getElem_cons_succ]
        refine G_all (rs := [5]) (by kernel_rfl) (by simp) ?_
        intro i hi; obtain rfl : i = 5 := by simpa using hi
        refine wpOp_run rfl (by rfl) ?_
        refine wp_buildOne 49 (.tmp 31) rfl (ltV ⟨otherI p, encN ⟨3, p.v.n, e.m, m, e.b⟩⟩ (a9, c9)) (by rfl) (build_one _ 49 88 2 Tryd.underlying49 infoLt2 (by omega) (by omega) _ rfl) ?_
        have xb : Ext w9 (w9.alloc (.cells (ltV ⟨otherI p, encN ⟨3, p.v.n, e.m, m, e.b⟩⟩ (a9, c9)).toArray 88)) := (Ext.refl w9).alloc _
        have hHeld := hHeld.trans xb
        first | refine ⟨fun _ => hHeld, ?_⟩ | refine ⟨hHeld, ?_⟩
        try simp only [Act.put, List.setIfInBounds_toArray, List.set_cons_zero, List.set_cons_succ, List.getElem_toArray, List.getElem_cons_zero, List.getElem_cons_succ]
        refine G_all (rs := [6]) (by kernel_rfl) (by simp) ?_
        intro i hi; obtain rfl : i = 6 := by simpa using hi
        refine wpOp_run rfl (by rfl) ?_
        refine wp_appO tyLt (.tmp 27) (.tmp 32) rfl (w3.heap.size + 3) (.slice ao2 L.length co2) L.length _ (HL.out.ext hHeld).own (by rfl) _ 1 (ltV ⟨otherI p, encN ⟨3, p.v.n, e.m, m, e.b⟩⟩ (a9, c9)) (sl_one_new (w := w9) (n := 2) (e := 88) rfl rfl) (by rfl) (ltV_one _ _) (by omega) (by omega) (Nat.le_trans (Nat.le_trans hN hNW) hHeld.size) ?_
        intro v10 w10 own10 gr10
        have hneO := own_neT (HL.out.ext hHeld).own (hHeld.keeps BO.out) (by decide)
        have bO10 := grown_keep gr10 (hHeld.keeps BO.out) hneO
        obtain ⟨a10, c10, rfl⟩ := own_shape own10
        try refine ⟨fun e => absurd e (by decide), ?_⟩
        refine G_free _ _ _ _ (by kernel_rfl) ?_
        try simp only [Act.put, List.setIfInBounds_toArray, List.set_cons_zero, List.set_cons_succ, List.getElem_toArray, List.getElem_cons_zero, List.getElem_cons_succ]
        refine wpAny_all (rs := [7]) (by kernel_rfl) (by simp) ?_
        intro i hi; obtain rfl : i = 7 := by simpa using hi
        refine wpOp_run rfl (by rfl) ?_
        have kk := block_all bO10
        have ff := fun i => block_free bO10 i
        go_simp
        try simp only [Act.put, List.setIfInBounds_toArray, List.set_cons_zero, List.set_cons_succ, List.getElem_toArray, List.getElem_cons_zero, List.getElem_cons_succ]
        refine wpAny_done (by kernel_rfl) ?_ _
        refine NoPanic.normal (OnlyN.normal ?_)
        have hLx := HL.out.ext hHeld
        have th : ∀ {bs : Nat} {ty : TypeId} {sz k : Nat} {v : Value} {xs : List Value}, 88 ≠ ty → w.heap.size + 2 < bs → (w9.alloc (.cells (ltV ⟨otherI p, encN ⟨3, p.v.n, e.m, m, e.b⟩⟩ (a9, c9)).toArray 88)).ownsRow bs ty sz v k xs → (w10.setCell ⟨w.heap.size + 2, 0, none⟩ (.slice a10 (L.length + 1) c10)).ownsRow bs ty sz v k xs := fun he hb h => by
          have h1 := own_thru h hLx.own he gr10
          exact ownsRow_grown h1 (grown_setCell _ _ _ _) (own_ne h1 (.inl hb))
        have hLO : LtOwn (w10.setCell ⟨w.heap.size + 2, 0, none⟩ (.slice a10 (L.length + 1) c10)) (w3.heap.size + 3) (.slice a10 (L.length + 1) c10) (L ++ [⟨otherI p, encN ⟨3, p.v.n, e.m, m, e.b⟩⟩]) (uo ++ [(a9, c9)]) := by
          have hlen := hLx.len
          refine ⟨by simp [hlen], ?_, ?_⟩
          · rw [ltCs_app _ _ _ _ hlen, List.length_append, List.length_singleton]
            exact ownsRow_grown own10 (grown_setCell _ _ _ _) (own_ne own10 (.inl (by omega)))
          · intro i hi u hu
            by_cases hin : i < L.length
            · rw [List.getElem?_append_left (by omega)] at hu
              rw [List.getElem_append_left hin]
              exact th (by decide) (by omega) (hLx.bs i hin u hu)
            · have hi' : i = L.length := by simp at hi; omega
              subst hi'
              rw [List.getElem?_append_right (by omega), hlen, Nat.sub_self] at hu
              simp only [List.getElem?_cons_zero, Option.some.injEq] at hu
              subst hu
              rw [List.getElem_append_right (by omega)]
              simp only [Nat.sub_self, List.getElem_cons_zero]
              exact th (by decide) (by omega) (ownsRow_ext own9 xb)
        refine ⟨((KeepO.ext hHeld).trans (KeepO.own hLx.own gr10)).trans (KeepO.setCell _ _ _), ?_, ?_⟩
        · refine ((KeepS.ext HBL.out hHeld).trans (fun b hb => gr10.block b (Nat.lt_of_lt_of_le (HBL.out b hb) hHeld.size) (fun q => HNR.out b q.symm hb))).trans (KeepS.grown (grown_setCell _ _ _ _) (fun b hb => Nat.lt_of_lt_of_le (HBL.out b hb) (Nat.le_trans hHeld.size gr10.size)) hno)
        · have hz2 : (w10.setCell ⟨w.heap.size + 2, 0, none⟩ (.slice a10 (L.length + 1) c10)).heap.size = w10.heap.size := by simp
          have hgs := gr10.size
          have hhs := hHeld.size
          have hneP := own_neT hLx.own (hHeld.keeps BP.out) (by decide)
          have hneN := own_neT hLx.own (hHeld.keeps BN.out) (by decide)
          refine ⟨_, uo ++ [(a9, c9)], block_setCell bO10 _, by rw [HS.out, HEL.out]; exact hLO, ?_, set_other (grown_keep gr10 (hHeld.keeps BP.out) hneP) (by omega), set_other (grown_keep gr10 (hHeld.keeps BN.out) hneN) (by omega), ?_, Nat.le_trans hz (Nat.le_trans hHeld.size (Nat.le_trans gr10.size (Nat.le_of_eq hz2.symm)))⟩
          · intro g hg
            have := (hLO.own.lt g hg).2
            exact this
          · exact ((X.trans hHeld).grown gr10 (fun k hk => by have := (hLx.own.lt k hk).1; omega)).setCell (by show _ ≤ w.heap.size + 2; omega) _
      · refine ⟨KeepO.refl _, KeepS.refl _ _, HOLD.out ?_⟩
        rw [HSN.out, if_neg (by simp; omega)]
      · refine ⟨KeepO.refl _, KeepS.refl _ _, HOLD.out ?_⟩
        rw [HSN.out, if_neg (by simp; omega)]
end Go.Proofs.YtkcddcomjbihgaaDoor
