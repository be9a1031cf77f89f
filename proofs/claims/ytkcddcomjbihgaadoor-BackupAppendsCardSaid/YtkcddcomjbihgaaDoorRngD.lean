/- A range over a function whose iterator has cells of its own that it writes between the rounds: over any program. I tells, beside the world, a bound below which the blocks lie that the rounds write. -/
import Derived.Test.YtkcddcomjbihgaaDoorRng
namespace Go.Proofs.YtkcddcomjbihgaaDoor
open Go.RowKit Go.Shelf
attribute [local go_sem] Oper.semAt_some
set_option linter.unusedVariables false
set_option linter.unusedSimpArgs false

section
variable {P : Program} {α : Type}
/-- The iterator gives xs, one by one, till a round says 'no more', whatever the rounds do that keep the blocks of S. -/
def ItD (P : Program) (n : Nat) (gf : Nat) (lb : Array Value) (enc : α → Array Value) (xs : List α) (S : Nat → Prop) (k : Nat) (W0 : World) : Prop :=
  ∀ (l : Nat) (J Jx : List α → World → Prop) (W : World), Ext W0 W → (∀ pre A B, J pre A → Ext A B → J pre B) → (∀ pre A, J pre A → W0.heap.size ≤ A.heap.size) →
    (∀ pre A b i u, J pre A → W.heap.size ≤ b → b < W.heap.size + k → J pre (A.setCell ⟨b, i, none⟩ u)) →
    (∀ pre x A W1 (B : Nat → Prop), J pre A → Ext A W1 → W.heap.size + k ≤ A.heap.size → (∀ b, B b → b < W1.heap.size ∧ (S b ∨ (W.heap.size ≤ b ∧ b < W.heap.size + k) ∨ A.heap.size ≤ b)) →
      pre ++ [x] <+: xs → YieldAt Fence.wide (n - 1) P l (enc x) W1 fun e W' =>
      (e = .returned (.bool true) ∧ J (pre ++ [x]) W' ∧ KeepS B W1 W') ∨ (e = .returned (.bool false) ∧ Jx (pre ++ [x]) W')) →
    J [] W →
    CallsIn Fence.wide n P gf (#[.func (.yield l) #[] #[]] ++ lb) W fun e W' => (∃ v, e = .returned v) ∧ (J xs W' ∨ ∃ pre, pre <+: xs ∧ Jx pre W')
def rPostD (B : Nat → Prop) (I : List α → Nat → World → Prop) (Ix : Code → List α → World → Prop) (xs : List α) (W : World) : Exit → Act → World → Prop
  | .normal, _, W' => KeepO W W' ∧ KeepS B W W' ∧ I xs W'.heap.size W'
  | .ret, _, W' => KeepO W W' ∧ Ix .ret xs W'
  | .exit id, _, W' => KeepO W W' ∧ Ix (.exit id) xs W'
  | .goto t, _, W' => KeepO W W' ∧ Ix (.goto t) xs W'
  | .panic _, _, _ => False
  | .outgrown, _, _ => False

set_option maxHeartbeats 1000000 in
theorem wp_rangeD {enc : α → Array Value} {g : Operand} {ps : Array Tmp} {assign body : Code} {Q : Exit → Act → World → Prop} {a : Act} {w : World} (n : Nat) (hn : 2 ≤ n) {gf : Nat} {lb : Array Value}
    (hg : a.eval g = .func (.func gf) #[] lb) (eg : ∀ args w, (callFunc gf args).run P w = .ok (.enter gf args) w) (hps : ∀ x, ps.size = (enc x).size)
    {xs : List α} {S : Nat → Prop} (hS : ∀ b, S b → b < w.heap.size) (k : Nat) (it : ItD P (n - 1) gf lb enc xs S k w)
    (I : List α → Nat → World → Prop) (Ix : Code → List α → World → Prop) (Ax : α → Act → World → Prop)
    (hIe : ∀ pre N A B, I pre N A → Ext A B → I pre N B) (hIm : ∀ pre N N' A, I pre N A → N ≤ N' → I pre N' A)
    (hIs : ∀ pre N A, I pre N A → w.heap.size ≤ A.heap.size)
    (hIc : ∀ pre N A b i u, I pre N A → w.heap.size + 2 ≤ b → b < w.heap.size + 2 + k → I pre N (A.setCell ⟨b, i, none⟩ u))
    (hIp : ∀ pre N (W : World) (l : Nat) (o o' : Obj), I pre N W → w.heap.size ≤ l → W.heap[l]? = some o → o.isCells = false → I pre N (W.putObj l o'))
    (hXp : ∀ c pre (W : World) (l : Nat) (o o' : Obj), Ix c pre W → w.heap.size ≤ l → W.heap[l]? = some o → o.isCells = false → Ix c pre (W.putObj l o'))
    (hAp : ∀ x a' (W : World) (l : Nat) (o o' : Obj), Ax x a' W → w.heap.size ≤ l → W.heap[l]? = some o → o.isCells = false → Ax x a' (W.putObj l o'))
    (h0 : I [] w.heap.size w)
    (hassign : ∀ (l : Nat) (x : α) (W : World) (K : Act → World → Prop), w.heap.size + 2 + k ≤ W.heap.size → (∀ a' W', Ext W W' → Ax x a' W' → K a' W') →
      assign.wpIn (Fence.wide.inRound l) (n - 1 - 1) P (Exit.then K (fun _ _ _ => False)) { tmps := (ps.zip (enc x)).foldl (fun t (p, v) => t.setIfInBounds p v) a.tmps, defers := [] } W)
    (hbody : ∀ (l : Nat) (pre : List α) (x : α) (a' : Act) (W : World) (N : Nat) (B : Nat → Prop), pre ++ [x] <+: xs → w.heap.size + 2 + k ≤ N → N ≤ W.heap.size → (∀ b, B b → b < W.heap.size ∧ (S b ∨ (w.heap.size + 2 ≤ b ∧ b < w.heap.size + 2 + k) ∨ N ≤ b)) → I pre N W → Ax x a' W → body.wpIn (Fence.wide.inRound l) (n - 1 - 1) P (rPostD B I Ix (pre ++ [x]) W) a' W)
    (hdone : ∀ (D : Nat) (W : World), w.heap.size ≤ D → I xs W.heap.size W → W.heap[D]? = some (.deferred (some [])) → Q .normal { a with defers := { target := .collected D, args := #[] } :: a.defers } W)
    (hstop : ∀ (D : Nat) (c : Code) (pre : List α) (W : World), w.heap.size ≤ D → pre <+: xs → Ix c pre W → W.heap[D]? = some (.deferred (some [])) → c.wpIn Fence.wide n P Q { a with defers := { target := .collected D, args := #[] } :: a.defers } W) :
    (Code.rangeFunc g ps assign body).wpIn Fence.wide n P Q a w := by
  refine wpIn_rangeFunc ?_
  intro fn hfn
  obtain ⟨mk, hmk⟩ : ∃ mk : LoopState → Option Code → Loop, mk = fun st pe => { state := st, pending := pe, fn, tmps := a.tmps, params := ps, assign, body, defers := w.heap.size } := ⟨_, rfl⟩
  have hD : (w.alloc (.deferred (some []))).heap[w.heap.size]? = some (.deferred (some [])) := heap_alloc_new w _
  have hDl : ((w.alloc (.deferred (some []))).alloc (.loop (mk .ready none))).heap[w.heap.size]? = some (.deferred (some [])) := blk_old hD
  have hL : ((w.alloc (.deferred (some []))).alloc (.loop (mk .ready none))).heap[w.heap.size + 1]? = some (.loop (mk .ready none)) := blk_new (by simp)
  have hX : Ext w ((w.alloc (.deferred (some []))).alloc (.loop (mk .ready none))) := ((Ext.refl w).alloc _).alloc _
  have hI := hIm _ _ _ _ (hIe _ _ _ _ h0 hX) hX.size
  refine ⟨w.heap.size + 1, [{ target := .collected w.heap.size, args := #[] }], (w.alloc (.deferred (some []))).alloc (.loop (mk .ready none)), { target := .fn (.func gf) lb, args := #[.func (.yield (w.heap.size + 1)) #[] #[]] }, ((w.alloc (.deferred (some []))).alloc (.loop (mk .ready none))), gf,
    #[.func (.yield (w.heap.size + 1)) #[] #[]] ++ lb, ((w.alloc (.deferred (some []))).alloc (.loop (mk .ready none))), ?_, ?_, fun _ _ => trivial, ?_, fun _ => by omega, ?_⟩
  · rw [hmk]
    exact run_enterLoop_outer _ _ _ _ _
  · simp only [resolve, hg]
    simp [go_sem]
  · simp [invoke, go_sem, eg]
  · have hz0 : ((w.alloc (.deferred (some []))).alloc (.loop (mk .ready none))).heap.size = w.heap.size + 2 := by simp
    generalize (w.alloc (.deferred (some []))).alloc (.loop (mk .ready none)) = W0 at *
    have hWs : W0.heap.size = w.heap.size + 2 := hz0
    refine (it (w.heap.size + 1)
      (fun pre W => I pre W.heap.size W ∧ W.heap[w.heap.size + 1]? = some (.loop (mk .ready none)) ∧ W.heap[w.heap.size]? = some (.deferred (some [])))
      (fun pre W => ∃ c, Ix c pre W ∧ W.heap[w.heap.size + 1]? = some (.loop (mk .done (some c))) ∧ W.heap[w.heap.size]? = some (.deferred (some [])))
      W0 hX (fun pre A B ⟨h1, h2, h3⟩ x => ⟨hIm _ _ _ _ (hIe _ _ _ _ h1 x) x.size, x.keeps h2, x.keeps h3⟩) (fun pre A ⟨h1, _⟩ => hIs _ _ _ h1)
      (fun pre A b i u ⟨h1, h2, h3⟩ l1 l2 => ⟨by have := hIc _ _ _ b i u h1 (by omega) (by omega); simpa using this, set_other h2 (by omega), set_other h3 (by omega)⟩) ?_ ⟨hI, hL, hDl⟩).mono ?_
    · rintro pre x A W B ⟨hi, hlA, hkA⟩ xA hN hB hpx
      have hl := xA.keeps hlA
      have hk := xA.keeps hkA
      have hAW := xA.size
      have hlt : w.heap.size + 1 < W.heap.size := block_lt hl
      have hy := run_yield (P := P) (args := enc x) hl (by rw [hmk]; exact (hps x).symm)
      rw [hmk] at hy
      refine ⟨fn, _, assign, body, hy, roundIn_of_wpIn trivial (hassign _ x W _ (by omega) fun a' Wa xa ha => ⟨_, run_beginRound (xa.keeps hl) (by rw [hmk]), ?_⟩)⟩
      have hia := hIe _ _ _ _ hi (xA.trans xa)
      have hla := xa.keeps hl
      have hka := xa.keeps hk
      have hlta : w.heap.size + 1 < Wa.heap.size := block_lt hla
      have hl2 : (Wa.putObj (w.heap.size + 1) (.loop { mk .ready none with state := .busy })).heap[w.heap.size + 1]? = some (.loop { mk .ready none with state := .busy }) := World.putObj_heap_same hlta
      have hk2 : (Wa.putObj (w.heap.size + 1) (.loop { mk .ready none with state := .busy })).heap[w.heap.size]? = some (.deferred (some [])) := (put_otherG (by omega)).trans hka
      have hBx : ∀ b, B b → b ≠ w.heap.size + 1 ∧ b < W.heap.size := fun b hb => by
        obtain ⟨h1, h2⟩ := hB b hb
        refine ⟨?_, h1⟩
        rcases h2 with h2 | h2 | h2
        · have := hS b h2; omega
        · omega
        · omega
      refine wpIn_mono (hbody _ pre x a' _ A.heap.size B hpx (by omega) (by rw [put_size]; have := xa.size; omega) (fun b hb => ⟨by rw [put_size]; have := (hBx b hb).2; have := xa.size; omega, by
        rcases (hB b hb).2 with h | h | h
        · exact .inl h
        · exact .inr (.inl (by omega))
        · exact .inr (.inr h)⟩) (hIp _ _ _ _ _ _ hia (by omega) hla rfl) (hAp _ _ _ _ _ _ ha (by omega) hla rfl)) ?_
      have hks : KeepS B W (Wa.putObj (w.heap.size + 1) (.loop { mk .ready none with state := .busy })) := fun b hb => by
        rw [put_otherG (hBx b hb).1]
        exact xa.block (hBx b hb).2
      have fin : ∀ (jump : Option Code) (W3 : World), KeepO (Wa.putObj (w.heap.size + 1) (.loop { mk .ready none with state := .busy })) W3 →
          (Instr.endRound (w.heap.size + 1) jump).run P W3 = .ok (.bool jump.isNone) (W3.putObj (w.heap.size + 1) (.loop (mk (if jump.isNone then .ready else .done) jump))) ∧
          W3.heap[w.heap.size + 1]? = some (.loop { mk .ready none with state := .busy }) ∧
          (W3.putObj (w.heap.size + 1) (.loop (mk (if jump.isNone then .ready else .done) jump))).heap[w.heap.size + 1]? = some (.loop (mk (if jump.isNone then .ready else .done) jump)) ∧
          (W3.putObj (w.heap.size + 1) (.loop (mk (if jump.isNone then .ready else .done) jump))).heap[w.heap.size]? = some (.deferred (some [])) := fun jump W3 k => by
        have hl3 := k _ _ hl2 rfl
        have hr := run_endRound (P := P) jump hl3
        refine ⟨?_, hl3, World.putObj_heap_same (block_lt hl3), (put_otherG (by omega)).trans (k _ _ hk2 rfl)⟩
        rw [hr, hmk]
      rintro e a3 W3 h
      cases e with
      | normal =>
        obtain ⟨k, ks, hi3⟩ := h
        obtain ⟨hr, hl3, hl4, hk4⟩ := fin none W3 k
        refine ⟨_, _, hr, .inl ⟨rfl, ⟨by rw [put_size]; exact hIp _ _ _ _ _ _ hi3 (by omega) hl3 rfl, hl4, hk4⟩, hks.trans (ks.trans fun b hb => put_otherG (hBx b hb).1)⟩⟩
      | ret =>
        obtain ⟨k, hi3⟩ := h
        obtain ⟨hr, hl3, hl4, hk4⟩ := fin (some .ret) W3 k
        exact ⟨_, _, hr, .inr ⟨rfl, .ret, hXp _ _ _ _ _ _ hi3 (by omega) hl3 rfl, hl4, hk4⟩⟩
      | exit id =>
        obtain ⟨k, hi3⟩ := h
        obtain ⟨hr, hl3, hl4, hk4⟩ := fin (some (.exit id)) W3 k
        exact ⟨_, _, hr, .inr ⟨rfl, .exit id, hXp _ _ _ _ _ _ hi3 (by omega) hl3 rfl, hl4, hk4⟩⟩
      | goto t =>
        obtain ⟨k, hi3⟩ := h
        obtain ⟨hr, hl3, hl4, hk4⟩ := fin (some (.goto t)) W3 k
        exact ⟨_, _, hr, .inr ⟨rfl, .goto t, hXp _ _ _ _ _ _ hi3 (by omega) hl3 rfl, hl4, hk4⟩⟩
      | panic ch => exact h.elim
      | outgrown => exact h.elim
    · rintro e W2 ⟨⟨v, rfl⟩, (⟨hi, hl, hk⟩ | ⟨pre, hpre, c, hi, hl, hk⟩)⟩
      · refine ⟨none, _, ?_, hdone _ _ (Nat.le_refl _) (by rw [put_size]; exact hIp _ _ _ _ _ (.loop { mk .ready none with state := .exhausted }) hi (by omega) hl rfl) ((put_otherG (by omega)).trans hk)⟩
        have := run_endLoop (P := P) hl (by rw [hmk]; simp)
        rw [this, hmk]
      · refine ⟨some c, _, ?_, hstop _ c pre _ (Nat.le_refl _) hpre (hXp _ _ _ _ _ (.loop { mk .done (some c) with state := .exhausted }) hi (by omega) hl rfl) ((put_otherG (by omega)).trans hk)⟩
        have := run_endLoop (P := P) hl (by rw [hmk]; simp)
        rw [this, hmk]
end
end Go.Proofs.YtkcddcomjbihgaaDoor
