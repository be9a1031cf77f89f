/- A range over a function, whatever the iterator and the body: over any program. The iterator reads cells that no round turns; the rounds write cells of the caller's own. -/
import Derived.RangeFuncNested
import Derived.RangeFuncBound
import Derived.RangeFuncCalls
import Derived.RangeFuncLeaves
import Derived.Shelf.Abstract
import Derived.WalkKit
import Derived.OwnWalkIn
import Derived.TacticsInMore
import Derived.LoopNIn
import Derived.LoopIn
import Derived.Sort.LoopGhostIn
import Derived.Test.YtgcbkhmaabmdjaaDoorReg
namespace Go.Proofs.YtgcbkhmaabmdjaaDoor
open Go.RowKit Go.Shelf
attribute [local go_sem] Oper.semAt_some
set_option linter.unusedVariables false
set_option linter.unusedSimpArgs false

/-- Whatever is no cells is as it was. -/
def KeepO (W W' : World) : Prop := ∀ (k : Nat) (o : Obj), W.heap[k]? = some o → o.isCells = false → W'.heap[k]? = some o
/-- The blocks of S are as they were. -/
def KeepS (S : Nat → Prop) (W W' : World) : Prop := ∀ b, S b → W'.heap[b]? = W.heap[b]?
theorem KeepO.refl (W : World) : KeepO W W := fun _ _ h _ => h
theorem KeepO.trans {A B C : World} (h : KeepO A B) (k : KeepO B C) : KeepO A C := fun i o a b => k i o (h i o a b) b
theorem KeepO.ext {A B : World} (x : Ext A B) : KeepO A B := fun _ _ h _ => x.keeps h
theorem KeepO.setCell (W : World) (p : Addr) (u : Value) : KeepO W (W.setCell p u) := (KeepsOthers.setCell W p u).same
theorem KeepS.refl (S : Nat → Prop) (W : World) : KeepS S W W := fun _ _ => rfl
theorem KeepS.trans {S : Nat → Prop} {A B C : World} (h : KeepS S A B) (k : KeepS S B C) : KeepS S A C := fun b hb => (k b hb).trans (h b hb)
theorem KeepS.ext {S : Nat → Prop} {A B : World} (hS : ∀ b, S b → b < A.heap.size) (x : Ext A B) : KeepS S A B := fun b hb => x.block (hS b hb)
theorem KeepS.grown {S : Nat → Prop} {A B : World} {r : Nat} (k : A.grownBy B (some r)) (hS : ∀ b, S b → b < A.heap.size) (hr : ¬ S r) : KeepS S A B :=
  fun b hb => k.block b (hS b hb) (fun e => by simp only [Option.some.injEq] at e; subst e; exact hr hb)
theorem KeepO.grown {A B : World} {r : Nat} (k : A.grownBy B (some r)) {c : Array Value} {t : TypeId} {f : Nat × Nat} (hc : A.heap[r]? = some (.cells c t f)) : KeepO A B := fun i o h hn => by
  rw [k.block i (block_lt h) (fun e => by
    simp only [Option.some.injEq] at e
    subst e
    rw [hc] at h
    cases h
    simp [Obj.isCells] at hn)]
  exact h
theorem put_otherG {W : World} {l k : Nat} {o : Obj} (h : k ≠ l) : (W.putObj l o).heap[k]? = W.heap[k]? := World.putObj_heap_other h
theorem put_size (W : World) (l : Nat) (o : Obj) : (W.putObj l o).heap.size = W.heap.size := by simp [World.putObj]

section
variable {P : Program} {α : Type}
/-- The iterator gives xs, one by one, till a round says 'no more', whatever the rounds do that keep the blocks of S. -/
def ItC (P : Program) (n : Nat) (gf : Nat) (lb : Array Value) (enc : α → Array Value) (xs : List α) (S : Nat → Prop) (W0 : World) : Prop :=
  ∀ (l : Nat) (J Jx : List α → World → Prop) (W : World), Ext W0 W → (∀ pre A B, J pre A → Ext A B → J pre B) → (∀ pre A, J pre A → W0.heap.size ≤ A.heap.size) →
    (∀ pre x W1, J pre W1 → pre ++ [x] <+: xs → YieldAt Fence.wide (n - 1) P l (enc x) W1 fun e W' =>
      (e = .returned (.bool true) ∧ J (pre ++ [x]) W' ∧ KeepS S W1 W') ∨ (e = .returned (.bool false) ∧ Jx (pre ++ [x]) W')) →
    J [] W →
    CallsIn Fence.wide n P gf (#[.func (.yield l) #[] #[]] ++ lb) W fun e W' => (∃ v, e = .returned v) ∧ (J xs W' ∨ ∃ pre, pre <+: xs ∧ Jx pre W')
def rPostG (S : Nat → Prop) (I : List α → World → Prop) (Ix : Code → List α → World → Prop) (xs : List α) (W : World) : Exit → Act → World → Prop
  | .normal, _, W' => KeepO W W' ∧ KeepS S W W' ∧ I xs W'
  | .ret, _, W' => KeepO W W' ∧ Ix .ret xs W'
  | .exit id, _, W' => KeepO W W' ∧ Ix (.exit id) xs W'
  | .goto t, _, W' => KeepO W W' ∧ Ix (.goto t) xs W'
  | .panic _, _, _ => False
  | .outgrown, _, _ => False

set_option maxHeartbeats 1000000 in
theorem wp_rangeG {enc : α → Array Value} {g : Operand} {ps : Array Tmp} {assign body : Code} {Q : Exit → Act → World → Prop} {a : Act} {w : World} (n : Nat) (hn : 2 ≤ n) {gf : Nat} {lb : Array Value}
    (hg : a.eval g = .func (.func gf) #[] lb) (eg : ∀ args w, (callFunc gf args).run P w = .ok (.enter gf args) w) (hps : ∀ x, ps.size = (enc x).size)
    {xs : List α} {S : Nat → Prop} (hS : ∀ b, S b → b < w.heap.size) (it : ItC P (n - 1) gf lb enc xs S w)
    (I : List α → World → Prop) (Ix : Code → List α → World → Prop) (Ax : α → Act → World → Prop)
    (hIe : ∀ pre A B, I pre A → Ext A B → I pre B)
    (hIs : ∀ pre A, I pre A → w.heap.size ≤ A.heap.size)
    (hIp : ∀ pre (W : World) (l : Nat) (o o' : Obj), I pre W → w.heap.size ≤ l → W.heap[l]? = some o → o.isCells = false → I pre (W.putObj l o'))
    (hXp : ∀ c pre (W : World) (l : Nat) (o o' : Obj), Ix c pre W → w.heap.size ≤ l → W.heap[l]? = some o → o.isCells = false → Ix c pre (W.putObj l o'))
    (hAp : ∀ x a' (W : World) (l : Nat) (o o' : Obj), Ax x a' W → w.heap.size ≤ l → W.heap[l]? = some o → o.isCells = false → Ax x a' (W.putObj l o'))
    (h0 : I [] w)
    (hassign : ∀ (l : Nat) (x : α) (W : World) (K : Act → World → Prop), w.heap.size < W.heap.size → (∀ a' W', Ext W W' → Ax x a' W' → K a' W') →
      assign.wpIn (Fence.wide.inRound l) (n - 1 - 1) P (Exit.then K (fun _ _ _ => False)) { tmps := (ps.zip (enc x)).foldl (fun t (p, v) => t.setIfInBounds p v) a.tmps, defers := [] } W)
    (hbody : ∀ (l : Nat) (pre : List α) (x : α) (a' : Act) (W : World), pre ++ [x] <+: xs → w.heap.size < W.heap.size → I pre W → Ax x a' W → body.wpIn (Fence.wide.inRound l) (n - 1 - 1) P (rPostG S I Ix (pre ++ [x]) W) a' W)
    (hdone : ∀ (D : Nat) (W : World), w.heap.size ≤ D → I xs W → W.heap[D]? = some (.deferred (some [])) → Q .normal { a with defers := { target := .collected D, args := #[] } :: a.defers } W)
    (hstop : ∀ (D : Nat) (c : Code) (pre : List α) (W : World), w.heap.size ≤ D → pre <+: xs → Ix c pre W → W.heap[D]? = some (.deferred (some [])) → c.wpIn Fence.wide n P Q { a with defers := { target := .collected D, args := #[] } :: a.defers } W) :
    (Code.rangeFunc g ps assign body).wpIn Fence.wide n P Q a w := by
  refine wpIn_rangeFunc ?_
  intro fn hfn
  obtain ⟨mk, hmk⟩ : ∃ mk : LoopState → Option Code → Loop, mk = fun st pe => { state := st, pending := pe, fn, tmps := a.tmps, params := ps, assign, body, defers := w.heap.size } := ⟨_, rfl⟩
  have hD : (w.alloc (.deferred (some []))).heap[w.heap.size]? = some (.deferred (some [])) := heap_alloc_new w _
  have hDl : ((w.alloc (.deferred (some []))).alloc (.loop (mk .ready none))).heap[w.heap.size]? = some (.deferred (some [])) := blk_old hD
  have hL : ((w.alloc (.deferred (some []))).alloc (.loop (mk .ready none))).heap[w.heap.size + 1]? = some (.loop (mk .ready none)) := blk_new (by simp)
  have hX : Ext w ((w.alloc (.deferred (some []))).alloc (.loop (mk .ready none))) := ((Ext.refl w).alloc _).alloc _
  have hI := hIe _ _ _ h0 hX
  refine ⟨w.heap.size + 1, [{ target := .collected w.heap.size, args := #[] }], (w.alloc (.deferred (some []))).alloc (.loop (mk .ready none)), { target := .fn (.func gf) lb, args := #[.func (.yield (w.heap.size + 1)) #[] #[]] }, ((w.alloc (.deferred (some []))).alloc (.loop (mk .ready none))), gf,
    #[.func (.yield (w.heap.size + 1)) #[] #[]] ++ lb, ((w.alloc (.deferred (some []))).alloc (.loop (mk .ready none))), ?_, ?_, fun _ _ => trivial, ?_, fun _ => by omega, ?_⟩
  · rw [hmk]
    exact run_enterLoop_outer _ _ _ _ _
  · simp only [resolve, hg]
    simp [go_sem]
  · simp [invoke, go_sem, eg]
  · generalize (w.alloc (.deferred (some []))).alloc (.loop (mk .ready none)) = W0 at *
    refine (it (w.heap.size + 1)
      (fun pre W => I pre W ∧ W.heap[w.heap.size + 1]? = some (.loop (mk .ready none)) ∧ W.heap[w.heap.size]? = some (.deferred (some [])))
      (fun pre W => ∃ c, Ix c pre W ∧ W.heap[w.heap.size + 1]? = some (.loop (mk .done (some c))) ∧ W.heap[w.heap.size]? = some (.deferred (some [])))
      W0 hX (fun pre A B ⟨h1, h2, h3⟩ x => ⟨hIe _ _ _ h1 x, x.keeps h2, x.keeps h3⟩) (fun pre A ⟨h1, _⟩ => hIs _ _ h1) ?_ ⟨hI, hL, hDl⟩).mono ?_
    · rintro pre x W ⟨hi, hl, hk⟩ hpx
      have hlt : w.heap.size + 1 < W.heap.size := block_lt hl
      have hy := run_yield (P := P) (args := enc x) hl (by rw [hmk]; exact (hps x).symm)
      rw [hmk] at hy
      refine ⟨fn, _, assign, body, hy, roundIn_of_wpIn trivial (hassign _ x W _ (by omega) fun a' Wa xa ha => ⟨_, run_beginRound (xa.keeps hl) (by rw [hmk]), ?_⟩)⟩
      have hia := hIe _ _ _ hi xa
      have hla := xa.keeps hl
      have hka := xa.keeps hk
      have hlta : w.heap.size + 1 < Wa.heap.size := block_lt hla
      have hl2 : (Wa.putObj (w.heap.size + 1) (.loop { mk .ready none with state := .busy })).heap[w.heap.size + 1]? = some (.loop { mk .ready none with state := .busy }) := World.putObj_heap_same hlta
      have hk2 : (Wa.putObj (w.heap.size + 1) (.loop { mk .ready none with state := .busy })).heap[w.heap.size]? = some (.deferred (some [])) := (put_otherG (by omega)).trans hka
      refine wpIn_mono (hbody _ pre x a' _ hpx (by rw [put_size]; omega) (hIp _ _ _ _ _ hia (by omega) hla rfl) (hAp _ _ _ _ _ _ ha (by omega) hla rfl)) ?_
      have hks : KeepS S W (Wa.putObj (w.heap.size + 1) (.loop { mk .ready none with state := .busy })) := fun b hb => by
        have := hS b hb
        rw [put_otherG (by omega)]
        exact xa.block (by omega)
      have fin : ∀ (jump : Option Code) (W3 : World), KeepO (Wa.putObj (w.heap.size + 1) (.loop { mk .ready none with state := .busy })) W3 →
          (Instr.endRound (w.heap.size + 1) jump).run P W3 = .ok (.bool jump.isNone) (W3.putObj (w.heap.size + 1) (.loop (mk (if jump.isNone then .ready else .done) jump))) ∧
          W3.heap[w.heap.size + 1]? = some (.loop { mk .ready none with state := .busy }) ∧
          (W3.putObj (w.heap.size + 1) (.loop (mk (if jump.isNone then .ready else .done) jump))).heap[w.heap.size + 1]? = some (.loop (mk (if jump.isNone then .ready else .done) jump)) ∧
          (W3.putObj (w.heap.size + 1) (.loop (mk (if jump.isNone then .ready else .done) jump))).heap[w.heap.size]? = some (.deferred (some [])) := fun jump W3 k => by
        have hl3 := k _ _ hl2 rfl
        have hr := run_endRound (P := P) jump hl3
        refine ⟨?_, hl3, World.putObj_heap_same (block_lt hl3), (put_otherG (by omega)).trans (k _ _ hk2 rfl)⟩
        rw [hr, hmk]
      rintro e a3 W3 h
      cases e with
      | normal =>
        obtain ⟨k, ks, hi3⟩ := h
        obtain ⟨hr, hl3, hl4, hk4⟩ := fin none W3 k
        refine ⟨_, _, hr, .inl ⟨rfl, ⟨hIp _ _ _ _ _ hi3 (by omega) hl3 rfl, hl4, hk4⟩, hks.trans (ks.trans fun b hb => ?_)⟩⟩
        have := hS b hb
        exact put_otherG (by omega)
      | ret =>
        obtain ⟨k, hi3⟩ := h
        obtain ⟨hr, hl3, hl4, hk4⟩ := fin (some .ret) W3 k
        exact ⟨_, _, hr, .inr ⟨rfl, .ret, hXp _ _ _ _ _ _ hi3 (by omega) hl3 rfl, hl4, hk4⟩⟩
      | exit id =>
        obtain ⟨k, hi3⟩ := h
        obtain ⟨hr, hl3, hl4, hk4⟩ := fin (some (.exit id)) W3 k
        exact ⟨_, _, hr, .inr ⟨rfl, .exit id, hXp _ _ _ _ _ _ hi3 (by omega) hl3 rfl, hl4, hk4⟩⟩
      | goto t =>
        obtain ⟨k, hi3⟩ := h
        obtain ⟨hr, hl3, hl4, hk4⟩ := fin (some (.goto t)) W3 k
        exact ⟨_, _, hr, .inr ⟨rfl, .goto t, hXp _ _ _ _ _ _ hi3 (by omega) hl3 rfl, hl4, hk4⟩⟩
      | panic ch => exact h.elim
      | outgrown => exact h.elim
    · rintro e W2 ⟨⟨v, rfl⟩, (⟨hi, hl, hk⟩ | ⟨pre, hpre, c, hi, hl, hk⟩)⟩
      · refine ⟨none, _, ?_, hdone _ _ (Nat.le_refl _) (hIp _ _ _ _ (.loop { mk .ready none with state := .exhausted }) hi (by omega) hl rfl) ((put_otherG (by omega)).trans hk)⟩
        have := run_endLoop (P := P) hl (by rw [hmk]; simp)
        rw [this, hmk]
      · refine ⟨some c, _, ?_, hstop _ c pre _ (Nat.le_refl _) hpre (hXp _ _ _ _ _ (.loop { mk .done (some c) with state := .exhausted }) hi (by omega) hl rfl) ((put_otherG (by omega)).trans hk)⟩
        have := run_endLoop (P := P) hl (by rw [hmk]; simp)
        rw [this, hmk]
end
end Go.Proofs.YtgcbkhmaabmdjaaDoor
