/- A range over a path's names: the statement, for whatever body. -/
import Derived.Test.YtpcpcjejdngllaaDoorTrI
namespace Go.Proofs.YtpcpcjejdngllaaDoor
open Go.RowKit Go.Shelf
set_option linter.unusedVariables false
set_option linter.unusedSimpArgs false

/-- What a round keeps: whatever is no cells; the iterator's own three blocks. -/
structure RKeeps (Bp Bs Bv : Nat) (W W' : World) : Prop where
  same : ∀ (k : Nat) (o : Obj), W.heap[k]? = some o → o.isCells = false → W'.heap[k]? = some o
  p : W'.heap[Bp]? = W.heap[Bp]?
  s : W'.heap[Bs]? = W.heap[Bs]?
  v : W'.heap[Bv]? = W.heap[Bv]?
def rPost (Bp Bs Bv : Nat) (I : List ByteArray → World → Prop) (Ix : Code → List ByteArray → World → Prop) (xs : List ByteArray) (W : World) : Exit → Act → World → Prop
  | .normal, _, W' => RKeeps Bp Bs Bv W W' ∧ I xs W'
  | .ret, _, W' => RKeeps Bp Bs Bv W W' ∧ Ix .ret xs W'
  | .exit id, _, W' => RKeeps Bp Bs Bv W W' ∧ Ix (.exit id) xs W'
  | .goto t, _, W' => RKeeps Bp Bs Bv W W' ∧ Ix (.goto t) xs W'
  | .panic _, _, _ => False
  | .outgrown, _, _ => False
theorem set_ne {W : World} {b g : Nat} {i : Nat} {u : Value} (h : g < W.heap.size) (hn : g ≠ b) : (W.setCell ⟨b, i, none⟩ u).heap[g]? = W.heap[g]? := (grown_setCell W b i u).block g h (by simpa using hn)
theorem RKeeps.set {Bp Bs Bv b i : Nat} {W : World} {u : Value} (hp : Bp < W.heap.size) (hs : Bs < W.heap.size) (hv : Bv < W.heap.size) (n1 : Bp ≠ b) (n2 : Bs ≠ b) (n3 : Bv ≠ b) : RKeeps Bp Bs Bv W (W.setCell ⟨b, i, none⟩ u) :=
  ⟨(KeepsOthers.setCell _ _ _).same, set_ne hp n1, set_ne hs n2, set_ne hv n3⟩
theorem RKeeps.ext {Bp Bs Bv : Nat} {W W' : World} (hp : Bp < W.heap.size) (hs : Bs < W.heap.size) (hv : Bv < W.heap.size) (x : Ext W W') : RKeeps Bp Bs Bv W W' :=
  ⟨fun k o h _ => x.keeps h, x.block hp, x.block hs, x.block hv⟩
theorem RKeeps.trans {Bp Bs Bv : Nat} {A B C : World} (h : RKeeps Bp Bs Bv A B) (k : RKeeps Bp Bs Bv B C) : RKeeps Bp Bs Bv A C :=
  ⟨fun i o a b => k.same i o (h.same i o a b) b, k.p.trans h.p, k.s.trans h.s, k.v.trans h.v⟩
theorem put_other {W : World} {l k : Nat} {o : Obj} (h : k ≠ l) : (W.putObj l o).heap[k]? = W.heap[k]? := World.putObj_heap_other h

set_option maxHeartbeats 1000000 in
theorem wp_rangeParts {g : Operand} {ps : Array Tmp} {assign body : Code} {Q : Exit → Act → World → Prop} {a : Act} {w : World} (n : Nat) (hn : 2 ≤ n) (Bp Bs Bv : Nat)
    (hg : a.eval g = .func (.func 102) #[] #[.pointer (some ⟨Bp, 0, none⟩), .pointer (some ⟨Bs, 0, none⟩), .pointer (some ⟨Bv, 0, none⟩)]) (hps : ps.size = 1)
    (s : ByteArray) (hp : w.heap[Bp]? = some (.cells #[.string ⟨#[47]⟩] 9 (0, 0))) (hs : w.heap[Bs]? = some (.cells #[.string s] 9 (0, 0))) (hv : w.heap[Bv]? = some (.cells #[.int .i64 0] 3 (0, 0)))
    (hne : Bp ≠ Bs ∧ Bv ≠ Bs) (hsz : s.size ≤ 1099511627776)
    (I : List ByteArray → World → Prop) (Ix : Code → List ByteArray → World → Prop)
    (hIp : ∀ pre (W : World) (l : Nat) (o o' : Obj), I pre W → w.heap.size ≤ l → W.heap[l]? = some o → o.isCells = false → I pre (W.putObj l o'))
    (hXp : ∀ c pre (W : World) (l : Nat) (o o' : Obj), Ix c pre W → w.heap.size ≤ l → W.heap[l]? = some o → o.isCells = false → Ix c pre (W.putObj l o'))
    (hIs : ∀ pre W u, I pre W → I pre (W.setCell ⟨Bs, 0, none⟩ u))
    (hIa : ∀ pre W o, I pre W → I pre (W.alloc o)) (h0 : I [] w) (a₁ : ByteArray → Act)
    (hassign : ∀ (l : Nat) (x : ByteArray) (W : World) (K : Act → World → Prop), K (a₁ x) W →
      assign.wpIn (Fence.wide.inRound l) (n - 1 - 1) Tryd.prog (Exit.then K (fun _ _ _ => False)) { tmps := (ps.zip #[.string x]).foldl (fun t (p, v) => t.setIfInBounds p v) a.tmps, defers := [] } W)
    (hbody : ∀ (l : Nat) (pre : List ByteArray) (x : ByteArray) (W : World), x.size ≤ 1099511627776 → I pre W → body.wpIn (Fence.wide.inRound l) (n - 1 - 1) Tryd.prog (rPost Bp Bs Bv I Ix (pre ++ [x]) W) (a₁ x) W)
    (hdone : ∀ (D : Nat) (W : World), w.heap.size ≤ D → I (partsB s) W → W.heap[D]? = some (.deferred (some [])) → Q .normal { a with defers := { target := .collected D, args := #[] } :: a.defers } W)
    (hstop : ∀ (D : Nat) (c : Code) (pre : List ByteArray) (W : World), w.heap.size ≤ D → pre <+: partsB s → Ix c pre W → W.heap[D]? = some (.deferred (some [])) → c.wpIn Fence.wide n Tryd.prog Q { a with defers := { target := .collected D, args := #[] } :: a.defers } W) :
    (Code.rangeFunc g ps assign body).wpIn Fence.wide n Tryd.prog Q a w := by
  refine wpIn_rangeFunc ?_
  intro fn hfn
  obtain ⟨mk, hmk⟩ : ∃ mk : LoopState → Option Code → Loop, mk = fun st pe => { state := st, pending := pe, fn, tmps := a.tmps, params := ps, assign, body, defers := w.heap.size } := ⟨_, rfl⟩
  have lp := block_lt hp
  have ls := block_lt hs
  have lv := block_lt hv
  have hD : (w.alloc (.deferred (some []))).heap[w.heap.size]? = some (.deferred (some [])) := heap_alloc_new w _
  have hDl : ((w.alloc (.deferred (some []))).alloc (.loop (mk .ready none))).heap[w.heap.size]? = some (.deferred (some [])) := blk_old hD
  have hL : ((w.alloc (.deferred (some []))).alloc (.loop (mk .ready none))).heap[w.heap.size + 1]? = some (.loop (mk .ready none)) := blk_new (by simp)
  have hI := hIa _ _ (.loop (mk .ready none)) (hIa _ _ (.deferred (some [])) h0)
  have hp1 := blk_old (o := .loop (mk .ready none)) (blk_old (o := .deferred (some [])) hp)
  have hs1 := blk_old (o := .loop (mk .ready none)) (blk_old (o := .deferred (some [])) hs)
  have hv1 := blk_old (o := .loop (mk .ready none)) (blk_old (o := .deferred (some [])) hv)
  refine ⟨w.heap.size + 1, [{ target := .collected w.heap.size, args := #[] }], (w.alloc (.deferred (some []))).alloc (.loop (mk .ready none)), { target := .fn (.func 102) #[.pointer (some ⟨Bp, 0, none⟩), .pointer (some ⟨Bs, 0, none⟩), .pointer (some ⟨Bv, 0, none⟩)], args := #[.func (.yield (w.heap.size + 1)) #[] #[]] }, ((w.alloc (.deferred (some []))).alloc (.loop (mk .ready none))), 102,
    #[.func (.yield (w.heap.size + 1)) #[] #[], .pointer (some ⟨Bp, 0, none⟩), .pointer (some ⟨Bs, 0, none⟩), .pointer (some ⟨Bv, 0, none⟩)], ((w.alloc (.deferred (some []))).alloc (.loop (mk .ready none))), ?_, ?_, fun _ _ => trivial, ?_, fun _ => by omega, ?_⟩
  · rw [hmk]
    exact run_enterLoop_outer _ _ _ _ _
  · simp only [resolve, hg]
    simp [go_sem]
  · simp [invoke, go_sem, enters_of Tryd.func102 (by kernel_rfl) rfl]
  · generalize (w.alloc (.deferred (some []))).alloc (.loop (mk .ready none)) = W0 at *
    refine (split_in (w.heap.size + 1) (n - 1) (by omega) Bp Bs Bv
      (fun pre W => I pre W ∧ W.heap[w.heap.size + 1]? = some (.loop (mk .ready none)) ∧ W.heap[w.heap.size]? = some (.deferred (some [])))
      (fun pre W => ∃ c, Ix c pre W ∧ W.heap[w.heap.size + 1]? = some (.loop (mk .done (some c))) ∧ W.heap[w.heap.size]? = some (.deferred (some [])))
      (fun pre W u ⟨h1, h2, h3⟩ => ⟨hIs _ _ _ h1, set_other h2 (by omega), set_other h3 (by omega)⟩) ?_ s W0 hp1 hs1 hv1 hne hsz ⟨hI, hL, hDl⟩).mono ?_
    · rintro pre x W hxs ⟨hi, hl, hk⟩
      have hlt : w.heap.size + 1 < W.heap.size := block_lt hl
      have hy := run_yield (P := Tryd.prog) (args := #[.string x]) hl (by rw [hmk]; exact hps.symm)
      rw [hmk] at hy
      refine ⟨fn, _, assign, body, hy, roundIn_of_wpIn trivial (hassign _ x W _ ⟨_, run_beginRound hl (by rw [hmk]), ?_⟩)⟩
      have hl2 : (W.putObj (w.heap.size + 1) (.loop { mk .ready none with state := .busy })).heap[w.heap.size + 1]? = some (.loop { mk .ready none with state := .busy }) := World.putObj_heap_same hlt
      have hk2 : (W.putObj (w.heap.size + 1) (.loop { mk .ready none with state := .busy })).heap[w.heap.size]? = some (.deferred (some [])) := (put_other (by omega)).trans hk
      refine wpIn_mono (hbody _ pre x _ hxs (hIp _ _ _ _ _ hi (by omega) hl rfl)) ?_
      have fin : ∀ (jump : Option Code) (W3 : World), RKeeps Bp Bs Bv (W.putObj (w.heap.size + 1) (.loop { mk .ready none with state := .busy })) W3 →
          (Instr.endRound (w.heap.size + 1) jump).run Tryd.prog W3 = .ok (.bool jump.isNone) (W3.putObj (w.heap.size + 1) (.loop (mk (if jump.isNone then .ready else .done) jump))) ∧
          W3.heap[w.heap.size + 1]? = some (.loop { mk .ready none with state := .busy }) ∧
          (W3.putObj (w.heap.size + 1) (.loop (mk (if jump.isNone then .ready else .done) jump))).heap[w.heap.size + 1]? = some (.loop (mk (if jump.isNone then .ready else .done) jump)) ∧
          (W3.putObj (w.heap.size + 1) (.loop (mk (if jump.isNone then .ready else .done) jump))).heap[w.heap.size]? = some (.deferred (some [])) := fun jump W3 k => by
        have hl3 := k.same _ _ hl2 rfl
        have hr := run_endRound (P := Tryd.prog) jump hl3
        refine ⟨?_, hl3, World.putObj_heap_same (block_lt hl3), (put_other (by omega)).trans (k.same _ _ hk2 rfl)⟩
        rw [hr, hmk]
      rintro e a3 W3 h
      cases e with
      | normal =>
        obtain ⟨k, hi3⟩ := h
        obtain ⟨hr, hl3, hl4, hk4⟩ := fin none W3 k
        refine ⟨_, _, hr, .inl ⟨rfl, ⟨hIp _ _ _ _ _ hi3 (by omega) hl3 rfl, hl4, hk4⟩, ?_, ?_, ?_⟩⟩
        · rw [put_other (by omega), k.p, put_other (by omega)]
        · rw [put_other (by omega), k.s, put_other (by omega)]
        · rw [put_other (by omega), k.v, put_other (by omega)]
      | ret =>
        obtain ⟨k, hi3⟩ := h
        obtain ⟨hr, hl3, hl4, hk4⟩ := fin (some .ret) W3 k
        exact ⟨_, _, hr, .inr ⟨rfl, .ret, hXp _ _ _ _ _ _ hi3 (by omega) hl3 rfl, hl4, hk4⟩⟩
      | exit id =>
        obtain ⟨k, hi3⟩ := h
        obtain ⟨hr, hl3, hl4, hk4⟩ := fin (some (.exit id)) W3 k
        exact ⟨_, _, hr, .inr ⟨rfl, .exit id, hXp _ _ _ _ _ _ hi3 (by omega) hl3 rfl, hl4, hk4⟩⟩
      | goto t =>
        obtain ⟨k, hi3⟩ := h
        obtain ⟨hr, hl3, hl4, hk4⟩ := fin (some (.goto t)) W3 k
        exact ⟨_, _, hr, .inr ⟨rfl, .goto t, hXp _ _ _ _ _ _ hi3 (by omega) hl3 rfl, hl4, hk4⟩⟩
      | panic ch => exact h.elim
      | outgrown => exact h.elim
    · rintro e W2 ⟨⟨v, rfl⟩, (⟨hi, hl, hk⟩ | ⟨pre, hpre, c, hi, hl, hk⟩)⟩
      · refine ⟨none, _, ?_, hdone _ _ (Nat.le_refl _) (hIp _ _ _ _ (.loop { mk .ready none with state := .exhausted }) hi (by omega) hl rfl) ((put_other (by omega)).trans hk)⟩
        have := run_endLoop (P := Tryd.prog) hl (by rw [hmk]; simp)
        rw [this, hmk]
      · refine ⟨some c, _, ?_, hstop _ c pre _ (Nat.le_refl _) hpre (hXp _ _ _ _ _ (.loop { mk .done (some c) with state := .exhausted }) hi (by omega) hl rfl) ((put_other (by omega)).trans hk)⟩
        have := run_endLoop (P := Tryd.prog) hl (by rw [hmk]; simp)
        rw [this, hmk]
end Go.Proofs.YtpcpcjejdngllaaDoor
