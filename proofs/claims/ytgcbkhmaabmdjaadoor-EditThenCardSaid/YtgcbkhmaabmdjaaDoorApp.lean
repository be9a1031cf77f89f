/- Building a slice of one element, appending; over any program. -/
import Derived.Test.YtgcbkhmaabmdjaaDoorRegS
import Derived.Test.YtgcbkhmaabmdjaaDoorRegG
import Derived.Great.BuildSlice
namespace Go.Proofs.YtgcbkhmaabmdjaaDoor
open Go.RowKit
set_option linter.unusedVariables false
set_option linter.unusedSimpArgs false

def setFrom (cs : Array Value) : Nat → List Value → Array Value
  | _, [] => cs
  | o, v :: r => setFrom (cs.setIfInBounds o v) (o + 1) r
theorem heap_setCells {t : TypeId} (b : Nat) : ∀ (vs : List Value) (o : Nat) (w : World) (cs : Array Value), w.heap[b]? = some (.cells cs t (0, 0)) → (w.setCells b o vs).heap[b]? = some (.cells (setFrom cs o vs) t (0, 0))
  | [], _, _, _, h => h
  | v :: r, o, w, cs, h => by
    rw [World.setCells, setFrom]
    exact heap_setCells b r (o + 1) _ _ (block_setCell h v)
theorem grown_setCells (b : Nat) : ∀ (vs : List Value) (o : Nat) (w : World), w.grownBy (w.setCells b o vs) (some b)
  | [], _, w => World.grownBy.refl _ _
  | v :: r, o, w => by rw [World.setCells]; exact grown_trans (grown_setCell w b o v) (grown_setCells b r (o + 1) _)
theorem setFrom_mid : ∀ (vs old pre post : List Value), old.length = vs.length → setFrom (pre ++ old ++ post).toArray pre.length vs = (pre ++ vs ++ post).toArray
  | [], [], pre, post, _ => rfl
  | v :: r, x :: old, pre, post, h => by
    rw [setFrom]
    have e : (pre ++ x :: old ++ post).toArray.setIfInBounds pre.length v = ((pre ++ [v]) ++ old ++ post).toArray := by simp
    have e2 : pre.length + 1 = (pre ++ [v]).length := by simp
    rw [e, e2, setFrom_mid r old (pre ++ [v]) post (by simpa using h)]
    simp
theorem fold_setFrom : ∀ (L : List Value) (k : Nat) (A : Array Value), (L.zipIdx k).foldl (fun cs x => cs.setIfInBounds (0 + x.2) x.1) A = setFrom A k L
  | [], _, _ => rfl
  | v :: r, k, A => by
    rw [List.zipIdx_cons, List.foldl_cons, setFrom, Nat.zero_add]
    exact fold_setFrom r (k + 1) _
theorem build_one {P : Program} (w : World) (t e : TypeId) (n : Nat) (hu : P.underlying t = some (.slice e)) (hi : (P.info? e).map (fun i => (i.zero.map (·.cells.size), i.size)) = some (some n, n)) (h0 : 0 < n) (h1 : n ≤ 16777216) (Q : List Value) (hQ : Q.length = n) :
    (Instr.buildSlice t 1 #[(0, .agg Q.toArray)]).run P w = .ok (.slice (some ⟨w.heap.size, 0, none⟩) 1 1) (w.alloc (.cells Q.toArray e)) := by
  cases hie : P.info? e with
  | none => rw [hie] at hi; simp at hi
  | some ie =>
    rw [hie] at hi
    simp only [Option.map_some, Option.some.injEq, Prod.mk.injEq] at hi
    obtain ⟨hz, hs⟩ := hi
    cases hzz : ie.zero with
    | none => rw [hzz] at hz; simp at hz
    | some z =>
      rw [hzz] at hz
      refine run_buildSlice w t e 1 _ Q.toArray ie z hu hie hzz (by rw [hs]; omega) (by rw [hs]; omega) ?_
      simp only [Instr.fill]
      have hc : (Value.agg Q.toArray).cells = Q.toArray := rfl
      rw [hc, hs]
      simp only [List.size_toArray, hQ, Array.size_map, Array.size_range, Nat.one_mul, ne_eq, not_true_eq_false, decide_false, Nat.zero_mul, Nat.zero_add, gt_iff_lt, Nat.lt_irrefl, Bool.or_self, Bool.false_eq_true, if_false]
      congr 1
      have key := setFrom_mid Q ((Array.range n).map (z.cells[· % z.cells.size]!)).toList [] [] (by simp [hQ])
      simp only [List.nil_append, List.append_nil, Array.toArray_toList, List.length_nil] at key
      refine Eq.trans ?_ key
      rw [← fold_setFrom]
      simp
theorem wp_buildOne {P : Program} {o : Oper} {a : Act} {w : World} {K : Act → World → Prop} {Q' : Exit → Act → World → Prop} (t : TypeId) (x : Operand) (ho : o.op = .buildSlice t 1 #[(0, x)]) (Q : List Value) (hx : a.eval x = .agg Q.toArray)
    {v : Value} {w' : World} (hr : (Instr.buildSlice t 1 #[(0, .agg Q.toArray)]).run P w = .ok v w') (h : K (a.put o.dst v) w') : o.wp P a w K Q' := by
  unfold Oper.wp execOp
  simp only [ho, List.map_toArray, List.map_cons, List.map_nil, hx, Sem.run_bind, hr, Result.andThen_ok]
  exact h
/-- A store whose run is known. -/
theorem wpl_stored {P : Program} {ops : Array Oper} {rest : List Oper} {o : Oper} {a : Act} {w w' : World} {Q : Exit → Act → World → Prop} (hgd : Region.wanted o (yielded ops a.tmps) = true) (ty : TypeId) (x y : Operand) (ho : o.op = .store ty x y)
    (p u : Value) (hx : a.eval x = p) (hy : a.eval y = u) (hr : (Instr.storeAt ty p u).run P w = .ok () w') (h : wpList P ops Q rest (a.put o.dst undef) w') : wpList P ops Q (o :: rest) a w :=
  wpList_wanted hgd fun K hK => by
    unfold Oper.wp execOp
    simp only [ho, hx, hy, hr, Sem.run_bind, Result.andThen_ok]
    exact hK _ _ h
theorem sl_one_new {w : World} {H n : Nat} {e : TypeId} {Q : List Value} (hH : w.heap.size = H) (hQ : Q.length = n) : IsSl (w.alloc (.cells Q.toArray e)) (.slice (some ⟨H, 0, none⟩) 1 1) n 1 Q := by
  subst hH
  refine ⟨by omega, some ⟨w.heap.size, 0, none⟩, 1, rfl, Nat.le_refl _, by omega, (fun h => by cases h), fun i hi => ⟨_, 0, rfl, ?_⟩⟩
  rw [Nat.zero_add, block_cell (heap_alloc_new w _)]
  simp
/-- 'append(s, x...)' at one operation of a drawn region. -/
theorem wp_appO {P : Program} {t e : TypeId} {z : Value} {size bytes : Nat} (T : ETy P t e z size bytes) {w : World} {o : Oper} {a : Act} {K : Act → World → Prop} {Q : Exit → Act → World → Prop} (s x : Operand)
    (ho : o.op = .call { callee := .builtin .append, args := #[s, x], argTypes := #[t, t] })
    (base : Nat) (v : Value) (n : Nat) (xs : List Value) (hown : w.ownsRow base e size v n xs) (hs : a.eval s = v)
    (u : Value) (m : Nat) (news : List Value) (hu : IsSl w u size m news) (hx : a.eval x = u) (h1 : ∀ c ∈ news, c.oneCell' = true)
    (hlim : (n + m) * bytes ≤ 140737488355328) (hmax : n + m ≤ 9223372036854775807) (hbase : base ≤ w.heap.size)
    (h : ∀ v' w', w'.ownsRow base e size v' (n + m) (xs ++ news) → w.grownBy w' v.ownBlock → K (a.put o.dst v') w') : o.wp P a w K Q := by
  obtain ⟨i, hi, hz, hs1, hb1⟩ := T.info
  obtain ⟨hlen, ao, cap, rfl, b1, m1, z1, g1⟩ := hu
  cases ao with
  | none =>
    obtain rfl := z1 rfl
    obtain rfl : m = 0 := by omega
    obtain rfl : news = [] := List.eq_nil_of_length_eq_zero (by simpa using hlen)
    have hrun := run_append_owned_none (P := P) (w := w) base t o.type e i size T.und hi v n xs hown
    unfold Oper.wp
    simp [execOp, ho, resolve, invoke, builtin, hs, hx, hrun, Result.andThen]
    exact h v w (by simpa using hown) (World.grownBy.refl _ _)
  | some ad =>
    exact wp_append_own w s x t ho base e i z size bytes T.und hi hz hs1 hb1 T.cells T.pos v n xs hs hown ad m cap news hx hlen (lies_news g1 rfl) h1 (by unfold maxLen; omega) hlim hbase fun v' w' a1 a2 _ => h v' w' a1 a2
theorem grown_keep {w w' : World} {b : Option Nat} (k : w.grownBy w' b) {x : Nat} {o : Obj} (h : w.heap[x]? = some o) (hb : b ≠ some x) : w'.heap[x]? = some o := by
  rw [k.block x (block_lt h) (fun e => hb e.symm)]; exact h
theorem tyOf {P : Program} {t e : TypeId} {n b : Nat} (hu : P.underlying t = some (.slice e)) (hi : (P.info? e).map (fun i => (i.zero.map (·.cells.size), i.size)) = some (some n, n)) (hb : (P.info? e).map (·.bytes) = some b) (h0 : 0 < n) : ∃ z, ETy P t e z n b := by
  cases hie : P.info? e with
  | none => rw [hie] at hi; simp at hi
  | some ie =>
    rw [hie] at hi hb
    simp only [Option.map_some, Option.some.injEq, Prod.mk.injEq] at hi hb
    obtain ⟨hz, hs⟩ := hi
    cases hzz : ie.zero with
    | none => rw [hzz] at hz; simp at hz
    | some z =>
      rw [hzz] at hz
      simp only [Option.map_some, Option.some.injEq] at hz
      exact ⟨z, hu, ⟨ie, hie, hzz, hs, hb⟩, hz, h0⟩
end Go.Proofs.YtgcbkhmaabmdjaaDoor
