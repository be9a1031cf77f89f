/- A range over a function whose rounds write maps, too. -/
import Derived.Test.YtgcbkhmaabmdjaaDoorRng
import Derived.Maps.OwnSet
import Derived.Test.YtgcbkhmaabmdjaaDoorEdBk
import Derived.Test.YtgcbkhmaabmdjaaDoorEdQ
import Derived.BigGuardPartIn
import Derived.Test.YtgcbkhmaabmdjaaDoorRegC
import Derived.Test.YtgcbkhmaabmdjaaDoorRegP
import Derived.Test.YtgcbkhmaabmdjaaDoorFlJ
import Derived.Test.YtgcbkhmaabmdjaaDoorFlK
import Derived.Deep.Cut
import Derived.Deep.DeepCutAuto
import Derived.Test.YtgcbkhmaabmdjaaDoorAppIn
import Derived.Maps.OwnIn
import Derived.BigGuardPart
import Derived.Test.YtgcbkhmaabmdjaaDoorFlX
namespace Go.Proofs.YtgcbkhmaabmdjaaDoor
open Go.RowKit Go.Shelf
attribute [local go_sem] Oper.semAt_some
set_option linter.unusedVariables false
set_option linter.unusedSimpArgs false

/-- Whatever is neither cells nor a map is as it was. -/
def KeepM (W W' : World) : Prop := ∀ (k : Nat) (o : Obj), W.heap[k]? = some o → o.isCells = false → (∀ es c, o ≠ .map es c) → W'.heap[k]? = some o
theorem KeepM.of {A B : World} (h : KeepO A B) : KeepM A B := fun k o h1 h2 _ => h k o h1 h2
theorem KeepM.trans {A B C : World} (h : KeepM A B) (k : KeepM B C) : KeepM A C := fun i o a b c => k i o (h i o a b c) b c
theorem KeepM.turned {A B : World} {m : Nat} (h : A.mapTurned B m) : KeepM A B := fun k o h1 h2 h3 => by
  obtain ⟨es, c, es', c', hm, _⟩ := h
  refine grown_other (World.mapTurned.grown ⟨es, c, es', c', hm, by assumption⟩) h1 (fun e => ?_)
  subst e
  rw [hm] at h1
  exact h3 es c (Option.some.inj h1).symm
section
variable {P : Program} {α : Type}
def rPostM (S : Nat → Prop) (I : List α → World → Prop) (Ix : Code → List α → World → Prop) (xs : List α) (W : World) : Exit → Act → World → Prop
  | .normal, _, W' => KeepM W W' ∧ KeepS S W W' ∧ I xs W'
  | .ret, _, W' => KeepM W W' ∧ Ix .ret xs W'
  | .exit id, _, W' => KeepM W W' ∧ Ix (.exit id) xs W'
  | .goto t, _, W' => KeepM W W' ∧ Ix (.goto t) xs W'
  | .panic _, _, _ => False
  | .outgrown, _, _ => False

set_option maxHeartbeats 1000000 in
theorem wp_rangeM {enc : α → Array Value} {g : Operand} {ps : Array Tmp} {assign body : Code} {Q : Exit → Act → World → Prop} {a : Act} {w : World} (n : Nat) (hn : 2 ≤ n) {gf : Nat} {lb : Array Value}
    (hg : a.eval g = .func (.func gf) #[] lb) (eg : ∀ args w, (callFunc gf args).run P w = .ok (.enter gf args) w) (hps : ∀ x, ps.size = (enc x).size)
    {xs : List α} {S : Nat → Prop} (hS : ∀ b, S b → b < w.heap.size) (it : ItC P (n - 1) gf lb enc xs S w)
    (I : List α → World → Prop) (Ix : Code → List α → World → Prop) (Ax : α → Act → World → Prop)
    (hIe : ∀ pre A B, I pre A → Ext A B → I pre B)
    (hIs : ∀ pre A, I pre A → w.heap.size ≤ A.heap.size)
    (hIp : ∀ pre (W : World) (l : Nat) (o o' : Obj), I pre W → w.heap.size ≤ l → W.heap[l]? = some o → o.isCells = false → I pre (W.putObj l o'))
    (hXp : ∀ c pre (W : World) (l : Nat) (o o' : Obj), Ix c pre W → w.heap.size ≤ l → W.heap[l]? = some o → o.isCells = false → Ix c pre (W.putObj l o'))
    (hAp : ∀ x a' (W : World) (l : Nat) (o o' : Obj), Ax x a' W → w.heap.size ≤ l → W.heap[l]? = some o → o.isCells = false → Ax x a' (W.putObj l o'))
    (h0 : I [] w)
    (hassign : ∀ (l : Nat) (x : α) (W : World) (K : Act → World → Prop), w.heap.size < W.heap.size → (∀ a' W', Ext W W' → Ax x a' W' → K a' W') →
      assign.wpIn (Fence.wide.inRound l) (n - 1 - 1) P (Exit.then K (fun _ _ _ => False)) { tmps := (ps.zip (enc x)).foldl (fun t (p, v) => t.setIfInBounds p v) a.tmps, defers := [] } W)
    (hbody : ∀ (l : Nat) (pre : List α) (x : α) (a' : Act) (W : World), pre ++ [x] <+: xs → w.heap.size < W.heap.size → I pre W → Ax x a' W → body.wpIn (Fence.wide.inRound l) (n - 1 - 1) P (rPostM S I Ix (pre ++ [x]) W) a' W)
    (hdone : ∀ (D : Nat) (W : World), w.heap.size ≤ D → I xs W → W.heap[D]? = some (.deferred (some [])) → Q .normal { a with defers := { target := .collected D, args := #[] } :: a.defers } W)
    (hstop : ∀ (D : Nat) (c : Code) (pre : List α) (W : World), w.heap.size ≤ D → pre <+: xs → Ix c pre W → W.heap[D]? = some (.deferred (some [])) → c.wpIn Fence.wide n P Q { a with defers := { target := .collected D, args := #[] } :: a.defers } W) :
    (Code.rangeFunc g ps assign body).wpIn Fence.wide n P Q a w := by
  refine wpIn_rangeFunc ?_
  intro fn hfn
  obtain ⟨mk, hmk⟩ : ∃ mk : LoopState → Option Code → Loop, mk = fun st pe => { state := st, pending := pe, fn, tmps := a.tmps, params := ps, assign, body, defers := w.heap.size } := ⟨_, rfl⟩
  have hD : (w.alloc (.deferred (some []))).heap[w.heap.size]? = some (.deferred (some [])) := heap_alloc_new w _
  have hDl : ((w.alloc (.deferred (some []))).alloc (.loop (mk .ready none))).heap[w.heap.size]? = some (.deferred (some [])) := blk_old hD
  have hL : ((w.alloc (.deferred (some []))).alloc (.loop (mk .ready none))).heap[w.heap.size + 1]? = some (.loop (mk .ready none)) := blk_new (by simp)
  have hX : Ext w ((w.alloc (.deferred (some []))).alloc (.loop (mk .ready none))) := ((Ext.refl w).alloc _).alloc _
  have hI := hIe _ _ _ h0 hX
  refine ⟨w.heap.size + 1, [{ target := .collected w.heap.size, args := #[] }], (w.alloc (.deferred (some []))).alloc (.loop (mk .ready none)), { target := .fn (.func gf) lb, args := #[.func (.yield (w.heap.size + 1)) #[] #[]] }, ((w.alloc (.deferred (some []))).alloc (.loop (mk .ready none))), gf,
    #[.func (.yield (w.heap.size + 1)) #[] #[]] ++ lb, ((w.alloc (.deferred (some []))).alloc (.loop (mk .ready none))), ?_, ?_, fun _ _ => trivial, ?_, fun _ => by omega, ?_⟩
  · rw [hmk]
    exact run_enterLoop_outer _ _ _ _ _
  · simp only [resolve, hg]
    simp [go_sem]
  · simp [invoke, go_sem, eg]
  · generalize (w.alloc (.deferred (some []))).alloc (.loop (mk .ready none)) = W0 at *
    refine (it (w.heap.size + 1)
      (fun pre W => I pre W ∧ W.heap[w.heap.size + 1]? = some (.loop (mk .ready none)) ∧ W.heap[w.heap.size]? = some (.deferred (some [])))
      (fun pre W => ∃ c, Ix c pre W ∧ W.heap[w.heap.size + 1]? = some (.loop (mk .done (some c))) ∧ W.heap[w.heap.size]? = some (.deferred (some [])))
      W0 hX (fun pre A B ⟨h1, h2, h3⟩ x => ⟨hIe _ _ _ h1 x, x.keeps h2, x.keeps h3⟩) (fun pre A ⟨h1, _⟩ => hIs _ _ h1) ?_ ⟨hI, hL, hDl⟩).mono ?_
    · rintro pre x W ⟨hi, hl, hk⟩ hpx
      have hlt : w.heap.size + 1 < W.heap.size := block_lt hl
      have hy := run_yield (P := P) (args := enc x) hl (by rw [hmk]; exact (hps x).symm)
      rw [hmk] at hy
      refine ⟨fn, _, assign, body, hy, roundIn_of_wpIn trivial (hassign _ x W _ (by omega) fun a' Wa xa ha => ⟨_, run_beginRound (xa.keeps hl) (by rw [hmk]), ?_⟩)⟩
      have hia := hIe _ _ _ hi xa
      have hla := xa.keeps hl
      have hka := xa.keeps hk
      have hlta : w.heap.size + 1 < Wa.heap.size := block_lt hla
      have hl2 : (Wa.putObj (w.heap.size + 1) (.loop { mk .ready none with state := .busy })).heap[w.heap.size + 1]? = some (.loop { mk .ready none with state := .busy }) := World.putObj_heap_same hlta
      have hk2 : (Wa.putObj (w.heap.size + 1) (.loop { mk .ready none with state := .busy })).heap[w.heap.size]? = some (.deferred (some [])) := (put_otherG (by omega)).trans hka
      refine wpIn_mono (hbody _ pre x a' _ hpx (by rw [put_size]; omega) (hIp _ _ _ _ _ hia (by omega) hla rfl) (hAp _ _ _ _ _ _ ha (by omega) hla rfl)) ?_
      have hks : KeepS S W (Wa.putObj (w.heap.size + 1) (.loop { mk .ready none with state := .busy })) := fun b hb => by
        have := hS b hb
        rw [put_otherG (by omega)]
        exact xa.block (by omega)
      have fin : ∀ (jump : Option Code) (W3 : World), KeepM (Wa.putObj (w.heap.size + 1) (.loop { mk .ready none with state := .busy })) W3 →
          (Instr.endRound (w.heap.size + 1) jump).run P W3 = .ok (.bool jump.isNone) (W3.putObj (w.heap.size + 1) (.loop (mk (if jump.isNone then .ready else .done) jump))) ∧
          W3.heap[w.heap.size + 1]? = some (.loop { mk .ready none with state := .busy }) ∧
          (W3.putObj (w.heap.size + 1) (.loop (mk (if jump.isNone then .ready else .done) jump))).heap[w.heap.size + 1]? = some (.loop (mk (if jump.isNone then .ready else .done) jump)) ∧
          (W3.putObj (w.heap.size + 1) (.loop (mk (if jump.isNone then .ready else .done) jump))).heap[w.heap.size]? = some (.deferred (some [])) := fun jump W3 k => by
        have hl3 := k _ _ hl2 rfl (fun _ _ h => by cases h)
        have hr := run_endRound (P := P) jump hl3
        refine ⟨?_, hl3, World.putObj_heap_same (block_lt hl3), (put_otherG (by omega)).trans (k _ _ hk2 rfl (fun _ _ h => by cases h))⟩
        rw [hr, hmk]
      rintro e a3 W3 h
      cases e with
      | normal =>
        obtain ⟨k, ks, hi3⟩ := h
        obtain ⟨hr, hl3, hl4, hk4⟩ := fin none W3 k
        refine ⟨_, _, hr, .inl ⟨rfl, ⟨hIp _ _ _ _ _ hi3 (by omega) hl3 rfl, hl4, hk4⟩, hks.trans (ks.trans fun b hb => ?_)⟩⟩
        have := hS b hb
        exact put_otherG (by omega)
      | ret =>
        obtain ⟨k, hi3⟩ := h
        obtain ⟨hr, hl3, hl4, hk4⟩ := fin (some .ret) W3 k
        exact ⟨_, _, hr, .inr ⟨rfl, .ret, hXp _ _ _ _ _ _ hi3 (by omega) hl3 rfl, hl4, hk4⟩⟩
      | exit id =>
        obtain ⟨k, hi3⟩ := h
        obtain ⟨hr, hl3, hl4, hk4⟩ := fin (some (.exit id)) W3 k
        exact ⟨_, _, hr, .inr ⟨rfl, .exit id, hXp _ _ _ _ _ _ hi3 (by omega) hl3 rfl, hl4, hk4⟩⟩
      | goto t =>
        obtain ⟨k, hi3⟩ := h
        obtain ⟨hr, hl3, hl4, hk4⟩ := fin (some (.goto t)) W3 k
        exact ⟨_, _, hr, .inr ⟨rfl, .goto t, hXp _ _ _ _ _ _ hi3 (by omega) hl3 rfl, hl4, hk4⟩⟩
      | panic ch => exact h.elim
      | outgrown => exact h.elim
    · rintro e W2 ⟨⟨v, rfl⟩, (⟨hi, hl, hk⟩ | ⟨pre, hpre, c, hi, hl, hk⟩)⟩
      · refine ⟨none, _, ?_, hdone _ _ (Nat.le_refl _) (hIp _ _ _ _ (.loop { mk .ready none with state := .exhausted }) hi (by omega) hl rfl) ((put_otherG (by omega)).trans hk)⟩
        have := run_endLoop (P := P) hl (by rw [hmk]; simp)
        rw [this, hmk]
      · refine ⟨some c, _, ?_, hstop _ c pre _ (Nat.le_refl _) hpre (hXp _ _ _ _ _ (.loop { mk .done (some c) with state := .exhausted }) hi (by omega) hl rfl) ((put_otherG (by omega)).trans hk)⟩
        have := run_endLoop (P := P) hl (by rw [hmk]; simp)
        rw [this, hmk]
end
end Go.Proofs.YtgcbkhmaabmdjaaDoor

namespace Go.Proofs.YtgcbkhmaabmdjaaDoor
open Go.RowKit
set_option linter.unusedVariables false
set_option linter.unusedSimpArgs false

/-- A row of places one behind the other, and where each stands. -/
def runP (a t : Nat) : Nat → List (Nat × Nat)
  | 0 => []
  | k + 1 => (a, t) :: runP (a + 1) (t + 1) k
/-- The bytes that edits keep of a text of n bytes, from place a on, and where they stand, from t on. -/
def keptF (n : Nat) : Nat → Nat → List Ed → List (Nat × Nat)
  | a, t, [] => runP a t (n - a)
  | a, t, e :: r => runP a t (e.at_.toNat - a) ++ keptF n (e.at_ + e.n).toNat (t + (e.at_.toNat - a) + e.text.size) r
/-- The kept ones of bytes that stand from t on: where from, where they stand. -/
def kp : Nat → List (UInt8 × Int) → List (Nat × Nat)
  | _, [] => []
  | t, x :: b => if 0 ≤ x.2 then (x.2.toNat, t) :: kp (t + 1) b else kp (t + 1) b
theorem kp_append : ∀ (t : Nat) (A B : List (UInt8 × Int)), kp t (A ++ B) = kp t A ++ kp (t + A.length) B
  | t, [], B => rfl
  | t, x :: A, B => by
    rw [List.cons_append, kp, kp, kp_append (t + 1) A B, List.length_cons, show t + (A.length + 1) = t + 1 + A.length by omega]
    split <;> rfl
theorem kp_new : ∀ (t : Nat) (l : List UInt8), kp t (l.map fun c => (c, (-1 : Int))) = []
  | _, [] => rfl
  | t, c :: l => by
    rw [List.map_cons, kp, if_neg (by show ¬ (0:Int) ≤ -1; decide), kp_new (t + 1) l]
/-- Where a byte came from. -/
def fromB (b : List (UInt8 × Int)) (y : Nat) : Option Nat := (b[y]?).bind fun x => if 0 ≤ x.2 then some x.2.toNat else none
theorem kp_run (b : List (UInt8 × Int)) : ∀ (k a t : Nat), a + k ≤ b.length → kp t ((b.drop a).take k) = (runP a t k).filterMap fun p => (fromB b p.1).map fun x => (x, p.2)
  | 0, a, t, _ => by rw [List.take_zero]; rfl
  | k + 1, a, t, h => by
    have hd : b.drop a = b[a]'(by omega) :: b.drop (a + 1) := List.drop_eq_getElem_cons (by omega)
    have ih := kp_run b k (a + 1) (t + 1) (by omega)
    have hf : fromB b a = if 0 ≤ (b[a]'(by omega)).2 then some (b[a]'(by omega)).2.toNat else none := by
      unfold fromB
      rw [List.getElem?_eq_getElem (by omega), Option.bind_some]
    rw [hd, List.take_succ_cons, kp, ih, runP, List.filterMap_cons, hf]
    split
    · rfl
    · rfl
theorem kp_do (b : List (UInt8 × Int)) : ∀ (l : List Ed) (a t : Nat), okFrom b.length a l → kp t (doB b a l) = (keptF b.length a t l).filterMap fun p => (fromB b p.1).map fun x => (x, p.2)
  | [], a, t, h => by
    rw [doB, keptF, ← kp_run b _ a t (by have : a ≤ b.length := h; omega), List.take_of_length_le (by rw [List.length_drop]; omega)]
  | e :: r, a, t, h => by
    obtain ⟨h1, h2, h3, h4, h5⟩ := h
    rw [doB, keptF, List.filterMap_append, kp_append, kp_append, kp_new, List.append_nil, kp_run b _ a t (by omega), kp_do b r _ _ h5]
    congr 2
    rw [List.length_append, List.length_map, List.length_take, List.length_drop, ba_len]
    congr 1
    omega
theorem plain_len (s : List UInt8) : (plainN s s.length).length = s.length := by simp [plainN]
theorem from_plain (s : List UInt8) (y : Nat) (h : y < s.length) : fromB (plainN s s.length) y = some y := by
  unfold fromB plainN
  rw [List.getElem?_map, List.getElem?_eq_getElem (by simpa using h), List.getElem_range]
  simp
theorem runP_lt : ∀ (k a t : Nat), ∀ p ∈ runP a t k, p.1 < a + k ∧ a ≤ p.1 ∧ t ≤ p.2 ∧ p.2 < t + k
  | 0, _, _, p, h => by cases h
  | k + 1, a, t, p, h => by
    rw [runP, List.mem_cons] at h
    rcases h with rfl | h
    · simp only; omega
    · have := runP_lt k _ _ p h; omega
theorem keptF_lt (n : Nat) : ∀ (l : List Ed) (a t : Nat), okFrom n a l → ∀ p ∈ keptF n a t l, p.1 < n ∧ a ≤ p.1 ∧ t ≤ p.2
  | [], a, t, h, p, hp => by
    have h : a ≤ n := h
    rw [keptF] at hp
    have := runP_lt _ _ _ p hp
    omega
  | e :: r, a, t, h, p, hp => by
    obtain ⟨h1, h2, h3, h4, h5⟩ := h
    rw [keptF, List.mem_append] at hp
    rcases hp with hp | hp
    · have := runP_lt _ _ _ p hp
      omega
    · have := keptF_lt n r _ _ h5 p hp
      omega
theorem kp_plain (s : List UInt8) (l : List Ed) (h : okFrom s.length 0 l) : kp 0 (doB (plainN s s.length) 0 l) = keptF s.length 0 0 l := by
  rw [kp_do _ l 0 0 (by rw [plain_len]; exact h), plain_len]
  have : ∀ p ∈ keptF s.length 0 0 l, ((fromB (plainN s s.length) p.1).map fun x => (x, p.2)) = some p := fun p hp => by
    rw [from_plain s _ (keptF_lt _ l 0 0 h p hp).1]
    rfl
  have g : ∀ (L : List (Nat × Nat)), (∀ p ∈ L, ((fromB (plainN s s.length) p.1).map fun x => (x, p.2)) = some p) → L.filterMap (fun p => (fromB (plainN s s.length) p.1).map fun x => (x, p.2)) = L := by
    intro L
    induction L with
    | nil => intro _; rfl
    | cons p L ih =>
      intro h
      rw [List.filterMap_cons, h p (by simp), ih fun q hq => h q (by simp [hq])]
  exact g _ this
/-- Both rows rise. -/
def Ris (L : List (Nat × Nat)) : Prop := L.Pairwise fun p q => p.1 < q.1 ∧ p.2 < q.2
theorem ris_run : ∀ (k a t : Nat), Ris (runP a t k)
  | 0, _, _ => List.Pairwise.nil
  | k + 1, a, t => List.pairwise_cons.2 ⟨fun p hp => by have := runP_lt _ _ _ p hp; simp only; omega, ris_run k _ _⟩
theorem ris_kept (n : Nat) : ∀ (l : List Ed) (a t : Nat), okFrom n a l → Ris (keptF n a t l)
  | [], a, t, h => ris_run _ _ _
  | e :: r, a, t, h => by
    obtain ⟨h1, h2, h3, h4, h5⟩ := h
    refine List.pairwise_append.2 ⟨ris_run _ _ _, ris_kept n r _ _ h5, fun p hp q hq => ?_⟩
    have := runP_lt _ _ _ p hp
    have := keptF_lt n r _ _ h5 q hq
    omega
/-- What a row of pairs has for its first. -/
def lookP (L : List (Nat × Nat)) (y : Nat) : Option Nat := (L.find? fun p => p.1 == y).map Prod.snd
def backP (L : List (Nat × Nat)) (y : Nat) : Option Nat := (L.find? fun p => p.2 == y).map Prod.fst
theorem look_none {L : List (Nat × Nat)} {y : Nat} (h : ∀ p ∈ L, p.1 ≠ y) : lookP L y = none := by
  unfold lookP
  rw [List.find?_eq_none.2 fun p hp => by simpa using h p hp]
  rfl
theorem back_none {L : List (Nat × Nat)} {y : Nat} (h : ∀ p ∈ L, p.2 ≠ y) : backP L y = none := by
  unfold backP
  rw [List.find?_eq_none.2 fun p hp => by simpa using h p hp]
  rfl
theorem look_cons (p : Nat × Nat) (L : List (Nat × Nat)) (y : Nat) : lookP (p :: L) y = if p.1 = y then some p.2 else lookP L y := by
  unfold lookP
  rw [List.find?_cons]
  by_cases h : p.1 = y
  · rw [if_pos h]
    simp [h]
  · rw [if_neg h, show (p.1 == y) = false by simpa using h]
theorem back_cons (p : Nat × Nat) (L : List (Nat × Nat)) (y : Nat) : backP (p :: L) y = if p.2 = y then some p.1 else backP L y := by
  unfold backP
  rw [List.find?_cons]
  by_cases h : p.2 = y
  · rw [if_pos h]
    simp [h]
  · rw [if_neg h, show (p.2 == y) = false by simpa using h]
theorem filterMap_congr' {α β : Type} {f g : α → Option β} : ∀ {L : List α}, (∀ p ∈ L, f p = g p) → L.filterMap f = L.filterMap g
  | [], _ => rfl
  | p :: L, h => by
    rw [List.filterMap_cons, List.filterMap_cons, h p (by simp), filterMap_congr' fun q hq => h q (by simp [hq])]
theorem join_two : ∀ (A B : List (Nat × Nat)), Ris A → Ris B →
    A.filterMap (fun p => (lookP B p.2).map fun z => (p.1, z)) = B.filterMap (fun q => (backP A q.1).map fun x => (x, q.2))
  | [], B, _, _ => by
    rw [List.filterMap_nil]
    exact (List.filterMap_eq_nil_iff.2 fun q _ => rfl).symm
  | A, [], _, _ => by
    rw [List.filterMap_nil]
    exact List.filterMap_eq_nil_iff.2 fun q _ => rfl
  | p :: A, q :: B, hA, hB => by
    have hA2 := List.pairwise_cons.1 hA
    have hB2 := List.pairwise_cons.1 hB
    by_cases h1 : p.2 = q.1
    · have ih := join_two A B hA2.2 hB2.2
      rw [List.filterMap_cons, List.filterMap_cons, look_cons, if_pos h1.symm, back_cons, if_pos h1]
      have e1 : A.filterMap (fun r => (lookP (q :: B) r.2).map fun z => (r.1, z)) = A.filterMap (fun r => (lookP B r.2).map fun z => (r.1, z)) :=
        filterMap_congr' fun r hr => by rw [look_cons, if_neg (by have := hA2.1 r hr; omega)]
      have e2 : B.filterMap (fun r => (backP (p :: A) r.1).map fun z => (z, r.2)) = B.filterMap (fun r => (backP A r.1).map fun z => (z, r.2)) :=
        filterMap_congr' fun r hr => by rw [back_cons, if_neg (by have := hB2.1 r hr; omega)]
      simp only [Option.map_some]
      rw [e1, e2, ih]
    · by_cases h2 : p.2 < q.1
      · have ih := join_two A (q :: B) hA2.2 hB
        rw [List.filterMap_cons, look_none (fun r hr => by
          rcases List.mem_cons.1 hr with rfl | hr
          · omega
          · have := hB2.1 r hr; omega)]
        simp only [Option.map_none]
        rw [ih]
        exact filterMap_congr' fun r hr => by
          rw [back_cons, if_neg (by
            rcases List.mem_cons.1 hr with rfl | hr
            · omega
            · have := hB2.1 r hr; omega)]
      · have ih := join_two (p :: A) B hA hB2.2
        rw [List.filterMap_cons (l := B), back_none (fun r hr => by
          rcases List.mem_cons.1 hr with rfl | hr
          · omega
          · have := hA2.1 r hr; omega)]
        simp only [Option.map_none]
        rw [← ih]
        exact filterMap_congr' fun r hr => by
          rw [look_cons, if_neg (by
            rcases List.mem_cons.1 hr with rfl | hr
            · omega
            · have := hA2.1 r hr; omega)]
  termination_by A B => A.length + B.length
theorem kp_ge : ∀ (b : List (UInt8 × Int)) (t : Nat), ∀ p ∈ kp t b, t ≤ p.2 ∧ p.2 < t + b.length
  | [], _, p, h => by cases h
  | x :: b, t, p, h => by
    rw [kp] at h
    have g := kp_ge b (t + 1)
    rw [List.length_cons]
    split at h
    · rcases List.mem_cons.1 h with rfl | h
      · simp only; omega
      · have := g p h; omega
    · have := g p h; omega
theorem back_kp : ∀ (b : List (UInt8 × Int)) (t y : Nat), backP (kp t b) (t + y) = fromB b y
  | [], t, y => by unfold fromB; simp [kp, backP]
  | x :: b, t, 0 => by
    have hf : fromB (x :: b) 0 = if 0 ≤ x.2 then some x.2.toNat else none := by simp [fromB]
    rw [hf, kp]
    split
    · rw [back_cons, if_pos (by rfl)]
    · exact back_none fun p hp => by have := kp_ge b _ p hp; omega
  | x :: b, t, y + 1 => by
    have hf : fromB (x :: b) (y + 1) = fromB b y := by simp [fromB]
    have ih := back_kp b (t + 1) y
    rw [hf, kp, show t + (y + 1) = t + 1 + y by omega]
    split
    · rw [back_cons, if_neg (by simp only; omega), ih]
    · exact ih
/-- What both keep. -/
def bothP (n : Nat) (m : Nat) (A B : List Ed) : List (Nat × Nat) := (keptF n 0 0 A).filterMap fun p => (lookP (keptF m 0 0 B) p.2).map fun z => (p.1, z)
theorem both_kp (s : List UInt8) (A B : List Ed) (hA : okFrom s.length 0 A) (hB : okFrom (doB (plainN s s.length) 0 A).length 0 B) :
    bothP s.length (doB (plainN s s.length) 0 A).length A B = kp 0 (doB (doB (plainN s s.length) 0 A) 0 B) := by
  unfold bothP
  rw [join_two _ _ (ris_kept _ _ _ _ hA) (ris_kept _ _ _ _ hB), kp_do _ _ _ _ hB]
  refine filterMap_congr' fun q _ => ?_
  rw [← kp_plain s A hA]
  have := back_kp (doB (plainN s s.length) 0 A) 0 q.1
  rw [Nat.zero_add] at this
  rw [this]
/-- The edits of a change of a text of n bytes to T, out of what is kept: pairs (from, to). -/
def partE (path : ByteArray) (T : List UInt8) (a st x z : Nat) : List Ed := if a < x ∨ st < z then [⟨path, a, (x : Int) - a, ⟨((T.drop st).take (z - st)).toArray⟩⟩] else []
def bothL (path : ByteArray) (T : List UInt8) : Nat → Nat → List (Nat × Nat) → List Ed
  | _, _, [] => []
  | a, st, p :: L => partE path T a st p.1 p.2 ++ bothL path T (p.1 + 1) (p.2 + 1) L
/-- As the document tells them, byte by byte. -/
def chgE (path : ByteArray) (next dst : Nat) (fresh : List UInt8) : List Ed := if next < dst ∨ fresh ≠ [] then [⟨path, next, (dst : Int) - next, ⟨fresh.toArray⟩⟩] else []
def changeL (path : ByteArray) (n : Nat) : Nat → List UInt8 → List (UInt8 × Int) → List Ed
  | next, fresh, [] => chgE path next n fresh
  | next, fresh, x :: b => if x.2 < 0 then changeL path n next (fresh ++ [x.1]) b else chgE path next x.2.toNat fresh ++ changeL path n (x.2.toNat + 1) [] b
theorem chg_part (path : ByteArray) (T fresh : List UInt8) (a st x z : Nat) (h : fresh = (T.drop st).take (z - st)) (hz : z ≤ T.length) : chgE path a x fresh = partE path T a st x z := by
  subst h
  unfold chgE partE
  have : (List.take (z - st) (List.drop st T) ≠ []) ↔ st < z := by
    rw [← List.length_pos_iff, List.length_take, List.length_drop]
    omega
  by_cases h1 : st < z
  · rw [if_pos (Or.inr (this.2 h1)), if_pos (Or.inr h1)]
  · by_cases h2 : a < x
    · rw [if_pos (Or.inl h2), if_pos (Or.inl h2)]
    · rw [if_neg (fun q => q.elim h2 (fun r => h1 (this.1 r))), if_neg (fun q => q.elim h2 h1)]
theorem change_both (path : ByteArray) (n : Nat) (T : List UInt8) : ∀ (b : List (UInt8 × Int)) (i a st : Nat) (fresh : List UInt8), b.map Prod.fst = T.drop i → fresh = (T.drop st).take (i - st) → st ≤ i → i ≤ T.length →
    changeL path n a fresh b = bothL path T a st (kp i b ++ [(n, T.length)])
  | [], i, a, st, fresh, hb, hf, hs, hi => by
    have h0 : T.length ≤ i := by
      have := congrArg List.length hb
      rw [List.map_nil, List.length_nil, List.length_drop] at this
      omega
    obtain rfl : i = T.length := by omega
    rw [changeL, kp, List.nil_append, bothL, bothL, List.append_nil]
    exact chg_part path T fresh a st n T.length hf (by omega)
  | x :: b, i, a, st, fresh, hb, hf, hs, hi => by
    have hl := congrArg List.length hb
    rw [List.length_map, List.length_cons, List.length_drop] at hl
    have hd : T.drop i = T[i]'(by omega) :: T.drop (i + 1) := List.drop_eq_getElem_cons (by omega)
    rw [hd, List.map_cons, List.cons.injEq] at hb
    rw [changeL, kp]
    by_cases hx : x.2 < 0
    · rw [if_pos hx, if_neg (by omega)]
      refine change_both path n T b (i + 1) a st _ hb.2 ?_ (by omega) (by omega)
      rw [hf, hb.1, show i + 1 - st = (i - st) + 1 by omega, List.take_succ_eq_append_getElem (by rw [List.length_drop]; omega), List.getElem_drop]
      congr 3
      omega
    · rw [if_neg hx, if_pos (by omega), List.cons_append, bothL, chg_part path T fresh a st _ i hf (by omega)]
      congr 1
      exact change_both path n T b (i + 1) _ (i + 1) [] hb.2 (by simp) (by omega) (by omega)
/-- Pairs that fit: from a and st on, each kept byte is the same, the last is both ends. -/
def Fits (s T : List UInt8) : Nat → Nat → List (Nat × Nat) → Prop
  | _, _, [] => False
  | a, st, [p] => a ≤ p.1 ∧ st ≤ p.2 ∧ p.1 = s.length ∧ p.2 = T.length
  | a, st, p :: q :: L => a ≤ p.1 ∧ st ≤ p.2 ∧ (∃ c, s[p.1]? = some c ∧ T[p.2]? = some c) ∧ Fits s T (p.1 + 1) (p.2 + 1) (q :: L)
theorem fits_le {s T : List UInt8} : ∀ {L : List (Nat × Nat)} {a st : Nat}, Fits s T a st L → a ≤ s.length ∧ st ≤ T.length
  | [], _, _, h => False.elim h
  | [p], a, st, h => by obtain ⟨h1, h2, h3, h4⟩ := h; omega
  | p :: q :: L, a, st, h => by
    obtain ⟨h1, h2, h3, h4⟩ := h
    have := fits_le h4
    omega
theorem both_ok (path : ByteArray) {s T : List UInt8} (hT : T.length ≤ 4096) : ∀ {L : List (Nat × Nat)} {a st : Nat}, Fits s T a st L → okFrom s.length a (bothL path T a st L)
  | [], _, _, h => False.elim h
  | [p], a, st, h => by
    obtain ⟨h1, h2, h3, h4⟩ := h
    rw [bothL, bothL, List.append_nil]
    unfold partE
    split
    · refine ⟨by simp only; omega, by simp only; omega, by simp only; omega, ?_, ?_⟩
      · show ((T.drop st).take (p.2 - st)).toArray.size ≤ 4096
        rw [List.size_toArray, List.length_take, List.length_drop]
        omega
      · show (_ : Nat) ≤ s.length
        simp only
        omega
    · show a ≤ s.length
      omega
  | p :: q :: L, a, st, h => by
    obtain ⟨h1, h2, h3, h4⟩ := h
    have hle := fits_le h4
    have ih := both_ok path hT h4
    have up : ∀ (l : List Ed) (x : Nat), okFrom s.length (x + 1) l → okFrom s.length x l := fun l x h => by
      cases l with
      | nil => exact Nat.le_of_succ_le h
      | cons e l => exact ⟨by have := h.1; omega, h.2⟩
    rw [bothL]
    unfold partE
    split
    · refine ⟨by simp only; omega, by simp only; omega, by simp only; omega, ?_, ?_⟩
      · show ((T.drop st).take (p.2 - st)).toArray.size ≤ 4096
        rw [List.size_toArray, List.length_take, List.length_drop]
        omega
      · have e : ((a : Int) + ((p.1 : Int) - a)).toNat = p.1 := by omega
        show okFrom s.length ((a : Int) + ((p.1 : Int) - a)).toNat ([] ++ bothL path T (p.1 + 1) (p.2 + 1) (q :: L))
        rw [e]
        exact up _ _ ih
    · rw [List.nil_append]
      have : p.1 = a := by omega
      exact up _ _ (this ▸ ih)
theorem done_step {s : List UInt8} {x : Nat} {l : List Ed} {c : UInt8} (h : okFrom s.length (x + 1) l) (hc : s[x]? = some c) : doneFrom s x l = c :: doneFrom s (x + 1) l := by
  obtain ⟨hx, hc⟩ := List.getElem?_eq_some_iff.1 hc
  have hd : s.drop x = s[x] :: s.drop (x + 1) := List.drop_eq_getElem_cons hx
  cases l with
  | nil => rw [doneFrom, doneFrom, hd, hc]
  | cons e l =>
    have := h.1
    rw [doneFrom, doneFrom, hd, show e.at_.toNat - x = (e.at_.toNat - (x + 1)) + 1 by omega, List.take_succ_cons, hc]
    rfl
theorem both_done (path : ByteArray) {s T : List UInt8} (hT : T.length ≤ 4096) : ∀ {L : List (Nat × Nat)} {a st : Nat}, Fits s T a st L → doneFrom s a (bothL path T a st L) = T.drop st
  | [], _, _, h => False.elim h
  | [p], a, st, h => by
    obtain ⟨h1, h2, h3, h4⟩ := h
    rw [bothL, bothL, List.append_nil]
    unfold partE
    split
    · rw [doneFrom, doneFrom]
      simp only
      rw [show ((a : Int)).toNat - a = 0 by omega, List.take_zero, show ((a : Int) + ((p.1 : Int) - a)).toNat = p.1 by omega, h3, List.drop_length, List.append_nil, List.nil_append]
      exact List.take_of_length_le (by rw [List.length_drop]; omega)
    · rw [doneFrom, List.drop_eq_nil_of_le (by omega), List.drop_eq_nil_of_le (by omega)]
  | p :: q :: L, a, st, h => by
    obtain ⟨h1, h2, ⟨c, hs, ht⟩, h4⟩ := h
    have hok := both_ok path hT h4
    have ih := both_done path hT h4
    have st1 := done_step hok hs
    rw [ih] at st1
    obtain ⟨hz, htz⟩ := List.getElem?_eq_some_iff.1 ht
    have hd : T.drop p.2 = T[p.2] :: T.drop (p.2 + 1) := List.drop_eq_getElem_cons hz
    rw [htz] at hd
    rw [← hd] at st1
    rw [bothL]
    unfold partE
    split
    · rw [List.cons_append, List.nil_append, doneFrom]
      simp only
      rw [show ((a : Int)).toNat - a = 0 by omega, List.take_zero, show ((a : Int) + ((p.1 : Int) - a)).toNat = p.1 by omega, st1, List.nil_append]
      have : T.drop p.2 = (T.drop st).drop (p.2 - st) := by rw [List.drop_drop]; congr 1; omega
      rw [this]
      exact List.take_append_drop _ _
    · have e1 : p.1 = a := by omega
      have e2 : p.2 = st := by omega
      rw [List.nil_append, ← e1, ← e2]
      exact st1
/-- The kept ones. -/
def kb (b : List (UInt8 × Int)) : List (UInt8 × Int) := b.filter fun x => decide (0 ≤ x.2)
theorem kb_do (b : List (UInt8 × Int)) : ∀ (l : List Ed) (a : Nat), okFrom b.length a l → (kb (doB b a l)).Sublist (kb (b.drop a))
  | [], a, _ => List.Sublist.refl _
  | e :: r, a, h => by
    obtain ⟨h1, h2, h3, h4, h5⟩ := h
    have ih := kb_do b r _ h5
    have hn : kb (e.text.data.toList.map fun c => (c, (-1 : Int))) = [] := by
      unfold kb
      rw [List.filter_eq_nil_iff]
      intro x hx
      obtain ⟨c, _, rfl⟩ := List.mem_map.1 hx
      simp
    have happ : ∀ A B : List (UInt8 × Int), kb (A ++ B) = kb A ++ kb B := fun A B => List.filter_append ..
    rw [doB, happ, happ, hn, List.append_nil]
    have e1 : b.drop a = (b.drop a).take (e.at_.toNat - a) ++ (b.drop a).drop (e.at_.toNat - a) := (List.take_append_drop _ _).symm
    have e2 : (b.drop (e.at_ + e.n).toNat).Sublist ((b.drop a).drop (e.at_.toNat - a)) := by
      rw [List.drop_drop, show (e.at_ + e.n).toNat = (a + (e.at_.toNat - a)) + e.n.toNat by omega, ← List.drop_drop]
      exact List.drop_sublist _ _
    have e3 : kb (b.drop a) = kb ((b.drop a).take (e.at_.toNat - a)) ++ kb ((b.drop a).drop (e.at_.toNat - a)) := by rw [← happ, ← e1]
    rw [e3]
    exact List.Sublist.append (List.Sublist.refl _) (ih.trans (e2.filter _))
def KbOk (s : List UInt8) (b : List (UInt8 × Int)) : Prop := (kb b).Pairwise (fun x y => x.2 < y.2) ∧ ∀ x ∈ kb b, 0 ≤ x.2 ∧ s[x.2.toNat]? = some x.1
theorem kbOk_plain (s : List UInt8) : KbOk s (plainN s s.length) := by
  constructor
  · refine List.Pairwise.sublist List.filter_sublist ?_
    unfold plainN
    rw [List.pairwise_map]
    exact List.pairwise_lt_range.imp fun {a b} h => by simp only; omega
  · intro x hx
    have hx := List.mem_filter.1 hx
    obtain ⟨i, hi, rfl⟩ := List.mem_map.1 hx.1
    have hi := List.mem_range.1 hi
    refine ⟨by simp only; omega, ?_⟩
    simp only [Int.toNat_natCast]
    rw [List.getElem?_eq_getElem hi, List.getD_eq_getElem?_getD, List.getElem?_eq_getElem hi, Option.getD_some]
theorem kbOk_do {s : List UInt8} {b : List (UInt8 × Int)} (h : KbOk s b) (l : List Ed) (hok : okFrom b.length 0 l) : KbOk s (doB b 0 l) := by
  have hs := kb_do b l 0 hok
  rw [List.drop_zero] at hs
  exact ⟨h.1.sublist hs, fun x hx => h.2 x (hs.subset hx)⟩
theorem kp_fits (s T : List UInt8) : ∀ (b : List (UInt8 × Int)) (t a st : Nat), b.map Prod.fst = T.drop t → t ≤ T.length → st ≤ t → a ≤ s.length → KbOk s b → (∀ x ∈ kb b, (a : Int) ≤ x.2) → Fits s T a st (kp t b ++ [(s.length, T.length)])
  | [], t, a, st, hb, ht, hst, ha, hk, hm => by
    rw [kp, List.nil_append]
    exact ⟨ha, by simp only; omega, rfl, rfl⟩
  | x :: b, t, a, st, hb, ht, hst, ha, hk, hm => by
    have hl := congrArg List.length hb
    rw [List.length_map, List.length_cons, List.length_drop] at hl
    have hd : T.drop t = T[t]'(by omega) :: T.drop (t + 1) := List.drop_eq_getElem_cons (by omega)
    rw [hd, List.map_cons, List.cons.injEq] at hb
    rw [kp]
    by_cases hx : 0 ≤ x.2
    · have e : kb (x :: b) = x :: kb b := by unfold kb; rw [List.filter_cons, if_pos (by simpa using hx)]
      rw [e] at hm
      unfold KbOk at hk
      rw [e] at hk
      have hp := List.pairwise_cons.1 hk.1
      have h0 := hk.2 x (by simp)
      have h1 := hm x (by simp)
      obtain ⟨hlt, _⟩ := List.getElem?_eq_some_iff.1 h0.2
      have ih := kp_fits s T b (t + 1) (x.2.toNat + 1) (t + 1) hb.2 (by omega) (by omega) (by omega) ⟨hp.2, fun y hy => hk.2 y (by simp [hy])⟩ (fun y hy => by have := hp.1 y hy; omega)
      rw [if_pos hx, List.cons_append]
      obtain ⟨q, L, hq⟩ : ∃ q L, kp (t + 1) b ++ [(s.length, T.length)] = q :: L := by
        cases kp (t + 1) b with
        | nil => exact ⟨_, _, rfl⟩
        | cons q L => exact ⟨_, _, rfl⟩
      rw [hq] at ih ⊢
      refine ⟨by simp only; omega, hst, ⟨x.1, h0.2, ?_⟩, ih⟩
      rw [List.getElem?_eq_getElem (by simp only; omega), hb.1]
    · have e : kb (x :: b) = kb b := by unfold kb; rw [List.filter_cons, if_neg (by simpa using hx)]
      rw [e] at hm
      unfold KbOk at hk
      rw [e] at hk
      rw [if_neg hx]
      exact kp_fits s T b (t + 1) a st hb.2 (by omega) (by omega) ha hk hm
/-- The edits of a change bring it about. -/
theorem change_done (path : ByteArray) (s : List UInt8) (b : List (UInt8 × Int)) (hk : KbOk s b) (hb : b.length ≤ 4096) :
    okFrom s.length 0 (changeL path s.length 0 [] b) ∧ doneFrom s 0 (changeL path s.length 0 [] b) = b.map Prod.fst := by
  have hl : (b.map Prod.fst).length = b.length := List.length_map ..
  have h := kp_fits s (b.map Prod.fst) b 0 0 0 rfl (by omega) (by omega) (by omega) hk (fun x hx => (hk.2 x hx).1)
  rw [change_both path s.length (b.map Prod.fst) b 0 0 0 [] rfl (by simp) (by omega) (by omega)]
  exact ⟨both_ok path (by omega) h, by rw [both_done path (by omega) h, List.drop_zero]⟩
theorem both_path (path : ByteArray) (T : List UInt8) : ∀ (L : List (Nat × Nat)) (a st : Nat), ∀ x ∈ bothL path T a st L, x.path = path
  | [], _, _, x, h => by cases h
  | p :: L, a, st, x, h => by
    rw [bothL, List.mem_append] at h
    rcases h with h | h
    · unfold partE at h
      split at h
      · obtain rfl := List.mem_singleton.1 h
        rfl
      · cases h
    · exact both_path path T L _ _ x h
theorem part_ok {path : ByteArray} {T : List UInt8} {a st x z n : Nat} (hp : path.toList.isEmpty = false) (hT : T.length ≤ 4096) (hn : n ≤ 4096) (hax : a ≤ x) (hx : x ≤ n) :
    okOne ⟨path, a, (x : Int) - a, ⟨((T.drop st).take (z - st)).toArray⟩⟩ = true := by
  have h4 : (⟨((T.drop st).take (z - st)).toArray⟩ : ByteArray).size ≤ 4096 := by
    rw [ba_sz, List.length_take, List.length_drop]
    omega
  simp only [okOne, hp, inB_t (show (0 : Int) ≤ (a : Int) ∧ (a : Int) ≤ 4096 by omega), inB_t (show (0 : Int) ≤ (x : Int) - a ∧ (x : Int) - a ≤ 4096 by omega), decide_eq_true h4]
  rfl
theorem both_chk {path : ByteArray} {s T : List UInt8} (hp : path.toList.isEmpty = false) (hs : s.length ≤ 4096) (hT : T.length ≤ 4096) : ∀ {L : List (Nat × Nat)} {a st : Nat}, Fits s T a st L → chkR (bothL path T a st L) = true
  | [], _, _, h => False.elim h
  | [p], a, st, h => by
    obtain ⟨h1, h2, h3, h4⟩ := h
    rw [bothL, bothL, List.append_nil]
    unfold partE
    split
    · exact part_ok hp hT hs (by omega) (by omega)
    · rfl
  | p :: q :: L, a, st, h => by
    obtain ⟨h1, h2, h3, h4⟩ := h
    have hle := fits_le h4
    have ih := both_chk hp hs hT h4
    have hok := both_ok path hT h4
    have hpa := both_path path T (q :: L) (p.1 + 1) (p.2 + 1)
    rw [bothL]
    unfold partE
    split
    · have h0 := part_ok (z := p.2) (st := st) hp hT hs h1 (show p.1 ≤ s.length by omega)
      rw [List.singleton_append]
      generalize bothL path T (p.1 + 1) (p.2 + 1) (q :: L) = R at *
      cases R with
      | nil => exact h0
      | cons e R =>
        have hat := hok.1
        have hpe := hpa e (by simp)
        simp only [chkR, Bool.and_eq_true]
        refine ⟨h0, ?_, ih⟩
        have hlt : ¬ e.at_ ≤ (a : Int) + ((p.1 : Int) - a) := by omega
        simp only [okNext, decide_eq_false hlt, Bool.and_false, Bool.or_false, Bool.not_eq_true', hpe]
        exact less_irr _
    · exact ih
/-- What edits behind edits are of one file, of all. -/
def bytesE (a b : List Ed) (f : Fl) : List (UInt8 × Int) := doB (doB (plainN f.text.data.toList f.text.data.toList.length) 0 (ofL a f.path)) 0 (ofL b f.path)
def thenE (a b : List Ed) (f : Fl) : List Ed := changeL f.path f.text.data.toList.length 0 [] (bytesE a b f)
def thenL (fs : List Fl) (a b : List Ed) : List Ed := fs.flatMap (thenE a b)
def thenR (fs : List Fl) (a b : List Ed) : List Ed × Int :=
  if (chk a && chk b) = false then ([], 280) else if (applyL fs a).2 ≠ 0 then ([], (applyL fs a).2)
  else if (applyL (fs.map (updF a)) b).2 ≠ 0 then ([], (applyL (fs.map (updF a)) b).2) else (thenL fs a b, 0)
theorem long_each {fs : List Fl} (h : longB fs = false) : ∀ f ∈ fs, f.text.size ≤ 4096 := fun f hf => by
  unfold longB at h
  rw [List.any_eq_false] at h
  have := h f hf
  simp only [decide_eq_true_eq] at this
  omega
theorem bytes_fst (a b : List Ed) (f : Fl) : (bytesE a b f).map Prod.fst = (updF b (updF a f)).text.data.toList := by
  unfold bytesE
  rw [doB_fst, doB_fst, plainN_fst]
  rfl
theorem plain_fst_len (s : List UInt8) : (plainN s s.length).length = s.length := plainN_len s s.length
theorem doB_len (b : List (UInt8 × Int)) (a : Nat) (l : List Ed) : (doB b a l).length = (doneFrom (b.map Prod.fst) a l).length := by rw [← doB_fst, List.length_map]
/-- A file behind both. -/
structure Both (fs : List Fl) (a b : List Ed) (f : Fl) : Prop where
  okA : okFrom f.text.data.toList.length 0 (ofL a f.path)
  okB : okFrom (doB (plainN f.text.data.toList f.text.data.toList.length) 0 (ofL a f.path)).length 0 (ofL b f.path)
  mid : (doB (plainN f.text.data.toList f.text.data.toList.length) 0 (ofL a f.path)).length = (updF a f).text.size
  mle : (updF a f).text.size ≤ 4096
  len : (bytesE a b f).length = (updF b (updF a f)).text.size
  le : (updF b (updF a f)).text.size ≤ 4096
  fle : f.text.size ≤ 4096
  path : pathB f.path = true
theorem both_of {fs : List Fl} {a b : List Ed} (ha : (applyL fs a).2 = 0) (hb : (applyL (fs.map (updF a)) b).2 = 0) : ∀ f ∈ fs, Both fs a b f := by
  intro f hf
  obtain ⟨hc, hr, hh, hfit, hlong, hsum, _⟩ := apply_ok ha
  obtain ⟨hc2, hr2, hh2, hfit2, hlong2, hsum2, _⟩ := apply_ok hb
  have hF := repo_file hr f hf
  have h1 : okFrom f.text.data.toList.length 0 (ofL a f.path) := by
    rw [ba_len]
    exact ok_of hc (List.all_eq_true.1 hfit f hf)
  have hmem : updF a f ∈ fs.map (updF a) := List.mem_map.2 ⟨f, hf, rfl⟩
  have h2 : (doB (plainN f.text.data.toList f.text.data.toList.length) 0 (ofL a f.path)).length = (updF a f).text.size := by
    rw [doB_len, plainN_fst, upd_sz]
  refine ⟨h1, ?_, h2, long_each hlong _ hmem, ?_, ?_, hF.2, hF.1⟩
  · rw [h2]
    exact ok_of hc2 (List.all_eq_true.1 hfit2 _ hmem)
  · have := congrArg List.length (bytes_fst a b f)
    rw [List.length_map, ba_len] at this
    exact this
  · exact long_each hlong2 _ (List.mem_map.2 ⟨_, hmem, rfl⟩)
theorem path_some {p : ByteArray} (h : pathB p = true) : p.toList.isEmpty = false := by
  cases hp : p.toList.isEmpty with
  | false => rfl
  | true =>
    have e : (p.toList == ByteArray.empty.toList) = true := by rw [List.isEmpty_iff.1 hp, ByteArray.toList_eq]; rfl
    obtain rfl := path_eq e
    exact absurd h (by decide)
theorem then_path (a b : List Ed) (f : Fl) : ∀ x ∈ thenE a b f, x.path = f.path := by
  intro x hx
  unfold thenE at hx
  have hl : (bytesE a b f).length = ((bytesE a b f).map Prod.fst).length := (List.length_map ..).symm
  rw [change_both f.path _ ((bytesE a b f).map Prod.fst) (bytesE a b f) 0 0 0 [] rfl (by simp) (by omega) (by omega)] at hx
  exact both_path _ _ _ _ _ x hx
theorem then_one {fs : List Fl} {a b : List Ed} {f : Fl} (h : Both fs a b f) :
    chkR (thenE a b f) = true ∧ okFrom f.text.data.toList.length 0 (thenE a b f) ∧ doneFrom f.text.data.toList 0 (thenE a b f) = (updF b (updF a f)).text.data.toList := by
  have hk : KbOk f.text.data.toList (bytesE a b f) := kbOk_do (kbOk_do (kbOk_plain _) _ (by rw [plain_fst_len]; exact h.okA)) _ h.okB
  have hle : (bytesE a b f).length ≤ 4096 := by have := h.len; have := h.le; omega
  have hs : f.text.data.toList.length ≤ 4096 := by rw [ba_len]; exact h.fle
  have hl : ((bytesE a b f).map Prod.fst).length = (bytesE a b f).length := List.length_map ..
  obtain ⟨h1, h2⟩ := change_done f.path f.text.data.toList (bytesE a b f) hk hle
  refine ⟨?_, h1, by rw [← bytes_fst]; exact h2⟩
  unfold thenE
  rw [change_both f.path _ ((bytesE a b f).map Prod.fst) (bytesE a b f) 0 0 0 [] rfl (by simp) (by omega) (by omega)]
  exact both_chk (path_some h.path) hs (by omega) (kp_fits _ _ _ 0 0 0 rfl (by omega) (by omega) (by omega) hk (fun x hx => (hk.2 x hx).1))
theorem edit_together {fs : List Fl} {a b : List Ed} (ha : (applyL fs a).2 = 0) (hb : (applyL (fs.map (updF a)) b).2 = 0) :
    chk (thenL fs a b) = true ∧ applyL fs (thenL fs a b) = ((fs.map (updF a)).map (updF b), 0) := by
  obtain ⟨hc, hr, hh, hfit, hlong, hsum, _⟩ := apply_ok ha
  obtain ⟨hc2, hr2, hh2, hfit2, hlong2, hsum2, _⟩ := apply_ok hb
  have hB := both_of ha hb
  have hs := repo_less hr
  have hu : ∀ f ∈ fs, chkR (thenE a b f) = true := fun f hf => (then_one (hB f hf)).1
  have hcu : chkR (thenL fs a b) = true := flat_chk _ fs hs hu fun f hf => then_path a b f
  have hof : ∀ f ∈ fs, ofL (thenL fs a b) f.path = thenE a b f := fun f hf => by
    rw [← filter_of f.path _ hcu]
    exact flat_one _ fs hs (fun f hf => then_path a b f) f hf
  have hupd : ∀ f ∈ fs, updF (thenL fs a b) f = updF b (updF a f) := fun f hf => by
    show (⟨f.path, ⟨(doneFrom f.text.data.toList 0 (ofL (thenL fs a b) f.path)).toArray⟩⟩ : Fl) = updF b (updF a f)
    rw [hof f hf, (then_one (hB f hf)).2.2]
    rfl
  have hmap : fs.map (updF (thenL fs a b)) = (fs.map (updF a)).map (updF b) := by
    rw [List.map_map]
    exact List.map_congr_left hupd
  have hh3 : ((thenL fs a b).all fun e => hasB fs e.path) = true := by
    rw [List.all_eq_true]
    intro e he
    obtain ⟨f, hf, hef⟩ := List.mem_flatMap.1 he
    unfold hasB
    rw [List.any_eq_true]
    exact ⟨f, hf, path_beq (then_path a b f e hef).symm⟩
  have hfit3 : (fs.all (fitB (thenL fs a b))) = true := by
    rw [List.all_eq_true]
    intro f hf
    show fitsL (ofL (thenL fs a b) f.path) f.text.size = true
    rw [hof f hf, fit_same _ _ (chkR_mem (hu f hf))]
    unfold fitR
    rw [List.all_eq_true]
    intro e he
    rw [decide_eq_true_eq]
    have := okFrom_fit _ _ _ (then_one (hB f hf)).2.1 e he
    rw [ba_len] at this
    exact this
  have hcu' := chk_ofR hcu
  refine ⟨hcu', ?_⟩
  unfold applyL
  rw [if_neg (by rw [hcu']; decide), if_neg (by rw [hr]; decide), if_neg (by rw [hh3]; decide), if_neg (by rw [hfit3]; decide), hmap, if_neg (by rw [hlong2, decide_eq_false (by omega)]; decide)]
end Go.Proofs.YtgcbkhmaabmdjaaDoor

namespace Go.Proofs.YtgcbkhmaabmdjaaDoor
open Go.RowKit
set_option linter.unusedVariables false
set_option linter.unusedSimpArgs false

def kpE (p : Nat × Nat) : Array Value := #[.int .i64 p.1, .int .i64 p.2]
/-- One edit behind the other, a byte at least between. -/
def sepE : List Ed → Prop
  | [] => True
  | [_] => True
  | e :: f :: r => e.at_ + e.n < f.at_ ∧ sepE (f :: r)
theorem sepE_tail {e : Ed} {l : List Ed} (h : sepE (e :: l)) : sepE l := by
  cases l with
  | nil => trivial
  | cons f r => exact h.2
theorem sepE_of {p : ByteArray} : ∀ (l : List Ed), chkR l = true → (∀ e ∈ l, e.path = p) → sepE l
  | [], _, _ => trivial
  | [_], _, _ => trivial
  | e :: f :: r, h, hp => ⟨okNext_same (chkR_next h) (path_beq ((hp f (by simp)).trans (hp e (by simp)).symm)), sepE_of (f :: r) (chkR_tail h) fun x hx => hp x (by simp [hx])⟩
theorem keptF_nil {n a t : Nat} {l : List Ed} (h : n ≤ a) (hok : okFrom n a l) : keptF n a t l = [] := by
  apply List.eq_nil_iff_forall_not_mem.2
  intro p hp
  have := keptF_lt n l a t hok p hp
  omega
theorem keptF_step {n a t : Nat} {l : List Ed} (ha : a < n) (hh : ∀ e r, l = e :: r → (a : Int) < e.at_) : keptF n a t l = (a, t) :: keptF n (a + 1) (t + 1) l := by
  cases l with
  | nil => rw [keptF, keptF, show n - a = (n - (a + 1)) + 1 by omega, runP]
  | cons e r =>
    have := hh e r rfl
    rw [keptF, keptF, show e.at_.toNat - a = (e.at_.toNat - (a + 1)) + 1 by omega, runP, List.cons_append, show t + (e.at_.toNat - (a + 1) + 1) = t + 1 + (e.at_.toNat - (a + 1)) by omega]
theorem keptF_edit {n a t : Nat} {e : Ed} {r : List Ed} (h : e.at_ = (a : Int)) : keptF n a t (e :: r) = keptF n (e.at_ + e.n).toNat (t + e.text.size) r := by
  rw [keptF, h, show ((a : Int)).toNat - a = 0 by omega, runP, List.nil_append, Nat.add_zero]
theorem keptF_len (n : Nat) : ∀ (l : List Ed) (a t : Nat), okFrom n a l → (keptF n a t l).length ≤ n - a
  | [], a, t, h => by
    have : ∀ k a t, (runP a t k).length = k := by
      intro k
      induction k with
      | zero => intro a t; rfl
      | succ k ih => intro a t; rw [runP, List.length_cons, ih]
    rw [keptF, this]
    exact Nat.le_refl _
  | e :: r, a, t, h => by
    obtain ⟨h1, h2, h3, h4, h5⟩ := h
    have ih := keptF_len n r _ (t + (e.at_.toNat - a) + e.text.size) h5
    have : ∀ k a t, (runP a t k).length = k := by
      intro k
      induction k with
      | zero => intro a t; rfl
      | succ k ih => intro a t; rw [runP, List.length_cons, ih]
    rw [keptF, List.length_append, this]
    omega
theorem isE_low {we W W' : World} {v : Value} {l : List Ed} (h0 : IsE we v l) (h : IsE W v l) (k : ∀ b, b < we.heap.size → W'.heap[b]? = W.heap[b]?) : IsE W' v l := by
  refine ⟨?_, h.ok⟩
  obtain ⟨h1, ao, cap, e, h2, h3, h4, h5⟩ := h.sl
  refine ⟨h1, ao, cap, e, h2, h3, h4, fun i hi => ?_⟩
  obtain ⟨b, off, e1, e2⟩ := h5 i hi
  obtain ⟨_, ao', cap', e', _, _, _, h5'⟩ := h0.sl
  rw [e] at e'
  simp only [Value.slice.injEq] at e'
  obtain ⟨rfl, _, rfl⟩ := e'
  obtain ⟨b', off', e1', e2'⟩ := h5' i hi
  rw [e1] at e1'
  simp only [Option.some.injEq, Addr.mk.injEq, and_true] at e1'
  obtain ⟨rfl, rfl⟩ := e1'
  rw [List.getElem?_eq_getElem hi] at e2'
  have := World.block_lt_of_cell? _ _ e2'
  refine ⟨b, off, e1, ?_⟩
  rw [← e2]
  unfold World.cell?
  rw [k b this]

set_option maxHeartbeats 8000000 in
set_option maxRecDepth 100000 in
theorem kept_it (n : Nat) (hn : 1 ≤ n) (we W0 : World) (A B N : Nat) (vl : Value) (l : List Ed) (S : Nat → Prop) (h : IsE we vl l) (hx : Ext we W0)
    (hA : W0.heap[A]? = some (.cells #[vl] 25 (0, 0))) (hB : W0.heap[B]? = some (.cells #[.int .i64 (N : Int)] 3 (0, 0)))
    (hok : okFrom N 0 l) (hsep : sepE l) (hN : N ≤ 1099511627776) (hl : l.length ≤ 1000000) (hSl : ∀ b, b < we.heap.size → S b) (hSA : S A) (hSB : S B) :
    ItC Tryd.prog n 65 #[.pointer (some ⟨B, 0, none⟩), .pointer (some ⟨A, 0, none⟩)] kpE (keptF N 0 0 l) S W0 := by
  intro l' J Jx W xW hJe hJs hY hJ0
  have hA := xW.keeps hA
  have hB := xW.keeps hB
  have hW := h.ext (hx.trans xW)
  refine callsIn_of_wp Tryd.func65 rfl trivial ?_ rfl
  simp only [Tryd.ntmps65, List.size_toArray, List.length_cons, List.length_nil, Nat.reduceAdd, Nat.reduceSub, Array.replicate_succ, Array.replicate_zero, List.push_toArray, List.append_toArray, List.nil_append, List.cons_append]
  obtain ⟨ao, cap, rfl, b1, m1, z1, g1⟩ := h.opened
  clear g1
  gi_wp2
  gi_loopg [4, 5, 6] (N + 1) (fun g s4 s5 s6 wr => ∃ (i a t : Nat) (pre : List (Nat × Nat)), i ≤ l.length ∧ a ≤ N ∧ N + 1 - a ≤ g ∧ s4 = .int .i64 (i : Int) ∧ s5 = .int .i64 (t : Int) ∧ s6 = .int .i64 (a : Int) ∧ pre ++ keptF N a t (l.drop i) = keptF N 0 0 l ∧ okFrom N a (l.drop i) ∧ sepE (l.drop i) ∧ t ≤ a + 4096 * i ∧ wr.heap[A]? = some (.cells #[.slice ao l.length cap] 25 (0, 0)) ∧ wr.heap[B]? = some (.cells #[.int .i64 (N : Int)] 3 (0, 0)) ∧ IsE wr (.slice ao l.length cap) l ∧ J pre wr)
  case atStart => exact ⟨0, 0, 0, [], by omega, by omega, by omega, rfl, rfl, rfl, by simp, by simpa using hok, by simpa using hsep, by omega, hA, hB, hW, hJ0⟩
  case round =>
    clear hA hB hW hJ0 hok hsep
    obtain ⟨i, a, t, pre, hi, haN, hg, rfl, rfl, rfl, heq, hok, hsep, ht, hA, hB, hW, hJ⟩ := hrel
    have HEQ := Lib.hid heq
    have HOK := Lib.hid hok
    have HSEP := Lib.hid hsep
    have HW := Lib.hid hW
    have cA : wr.cell? ⟨A, 0, none⟩ = some (.slice ao l.length cap) := by rw [block_cell hA]; rfl
    have cB : wr.cell? ⟨B, 0, none⟩ = some (.int .i64 (N : Int)) := by rw [block_cell hB]; rfl
    have hlB := block_lt hB
    clear heq hok hsep hW
    by_cases ha : a < N
    · by_cases hlt : i < l.length
      · obtain ⟨ao', cap', e1, _, _, _, g1⟩ := HW.out.opened
        simp only [Value.slice.injEq, true_and] at e1
        obtain ⟨rfl, rfl⟩ := e1
        obtain ⟨pb, o, rfl, e0, e1, e2, e3⟩ := g1 i hlt
        clear g1
        have hd := List.drop_eq_getElem_cons hlt
        have hok := HOK.out
        have heq := HEQ.out
        have hsep := HSEP.out
        rw [hd] at hok heq hsep
        generalize l[i] = x at *
        obtain ⟨xp, xa, xn, xt⟩ := x
        obtain ⟨k1, k2, k3, k4, k5⟩ := hok
        simp only at k1 k2 k3 k4 k5 e0 e1 e2 e3
        obtain ⟨xa, rfl⟩ : ∃ m : Nat, xa = m := ⟨xa.toNat, by omega⟩
        obtain ⟨xn, rfl⟩ : ∃ m : Nat, xn = m := ⟨xn.toNat, by omega⟩
        by_cases he : xa = a
        · subst he
          rw [keptF_edit rfl] at heq
          simp only at heq
          rw [show ((xa : Int) + (xn : Int)).toNat = xa + xn by omega] at heq k5
          have hsep2 := sepE_tail hsep
          have hstep : ∀ e r, l.drop (i + 1) = e :: r → ((xa + xn : Nat) : Int) < e.at_ := fun e r her => by
            rw [her] at hsep
            have := hsep.1
            simp only at this
            omega
          have HEQ := Lib.hid heq
          have HOK := Lib.hid k5
          have HSEP := Lib.hid hsep2
          have HST := Lib.hid hstep
          clear heq k5 hsep2 hstep hsep hd
          by_cases hz : xa + xn = N
          · have hzz : (xa : Int) + (xn : Int) = (N : Int) := by omega
            gi_wp2
            refine bodyPost_ret (results_none rfl _ _ _) rfl ⟨⟨_, rfl⟩, .inl ?_⟩
            have := HEQ.out
            rw [keptF_nil (by omega) HOK.out, List.append_nil] at this
            rw [← this]
            exact hJ
          · have hzz : ¬ (xa : Int) + (xn : Int) = (N : Int) := by omega
            have hlt2 : xa + xn < N := by omega
            have HST2 := Lib.hid (keptF_step (t := t + xt.size) hlt2 HST.out)
            have heq := HEQ.out
            rw [HST2.out] at heq
            have HEQ2 := Lib.hid (show (pre ++ [(xa + xn, t + xt.size)]) ++ keptF N (xa + xn + 1) (t + xt.size + 1) (l.drop (i + 1)) = keptF N 0 0 l by rw [← heq, List.append_assoc]; rfl)
            have HPRE := Lib.hid (show pre ++ [(xa + xn, t + xt.size)] <+: keptF N 0 0 l from ⟨_, HEQ2.out⟩)
            have HOK2 := Lib.hid (show okFrom N (xa + xn + 1) (l.drop (i + 1)) from by
              have h1 := HOK.out
              have h2 := HST.out
              cases hdd : l.drop (i + 1) with
              | nil => exact hlt2
              | cons e r =>
                rw [hdd] at h1
                have := h2 e r hdd
                exact ⟨by omega, h1.2⟩)
            clear heq HST HST2 HEQ HOK
            obtain ⟨fn, tmps, assign, body, hy, hR⟩ := hY pre (xa + xn, t + xt.size) wr hJ HPRE.out
            simp only [kpE, Int.natCast_add] at hy
            have HY := Lib.hid hR
            clear hR
            gi_wp2
            refine HY.out.mono ?_
            rintro e W' (⟨rfl, hJ', hk'⟩ | ⟨rfl, hJx'⟩)
            · have bA := (hk' A hSA).trans hA
              have bB := (hk' B hSB).trans hB
              have hW' := isE_low h HW.out (fun b hb => hk' b (hSl b hb))
              gi_wp2
              gi_roundg (N + 1 - (xa + xn + 1))
              case measure => omega
              case rel => exact ⟨i + 1, xa + xn + 1, t + xt.size + 1, _, by omega, by omega, by omega, by go_num, by go_num, by go_num, HEQ2.out, HOK2.out, HSEP.out, by omega, bA, bB, hW', hJ'⟩
            · gi_wp2
              refine bodyPost_ret (results_none rfl _ _ _) rfl ?_
              exact ⟨⟨_, rfl⟩, .inr ⟨_, HPRE.out, hJx'⟩⟩
        · have hne : ¬ (xa : Int) = (a : Int) := by omega
          have hlt2 : a < N := ha
          have HST := Lib.hid (show ∀ e r, l.drop i = e :: r → (a : Int) < e.at_ from fun e r her => by
            rw [hd] at her
            simp only [List.cons.injEq] at her
            obtain ⟨rfl, _⟩ := her
            simp only
            omega)
          clear heq k5 hsep hd
          have HST2 := Lib.hid (keptF_step (t := t) hlt2 HST.out)
          have heq := HEQ.out
          rw [HST2.out] at heq
          have HEQ2 := Lib.hid (show (pre ++ [(a, t)]) ++ keptF N (a + 1) (t + 1) (l.drop (i)) = keptF N 0 0 l by rw [← heq, List.append_assoc]; rfl)
          have HPRE := Lib.hid (show pre ++ [(a, t)] <+: keptF N 0 0 l from ⟨_, HEQ2.out⟩)
          have HOK2 := Lib.hid (show okFrom N (a + 1) (l.drop (i)) from by
            have h1 := HOK.out
            have h2 := HST.out
            cases hdd : l.drop (i) with
            | nil => exact hlt2
            | cons e r =>
              rw [hdd] at h1
              have := h2 e r hdd
              exact ⟨by omega, h1.2⟩)
          clear heq HST HST2 HEQ HOK
          obtain ⟨fn, tmps, assign, body, hy, hR⟩ := hY pre (a, t) wr hJ HPRE.out
          simp only [kpE, Int.natCast_add] at hy
          have HY := Lib.hid hR
          clear hR
          gi_wp2
          refine HY.out.mono ?_
          rintro e W' (⟨rfl, hJ', hk'⟩ | ⟨rfl, hJx'⟩)
          · have bA := (hk' A hSA).trans hA
            have bB := (hk' B hSB).trans hB
            have hW' := isE_low h HW.out (fun b hb => hk' b (hSl b hb))
            gi_wp2
            gi_roundg (N + 1 - (a + 1))
            case measure => omega
            case rel => exact ⟨i, a + 1, t + 1, _, by omega, by omega, by omega, by go_num, by go_num, by go_num, HEQ2.out, HOK2.out, HSEP.out, by omega, bA, bB, hW', hJ'⟩
          · gi_wp2
            refine bodyPost_ret (results_none rfl _ _ _) rfl ?_
            exact ⟨⟨_, rfl⟩, .inr ⟨_, HPRE.out, hJx'⟩⟩
      · obtain rfl : i = l.length := by omega
        have hlt2 : a < N := ha
        have HST := Lib.hid (show ∀ e r, l.drop l.length = e :: r → (a : Int) < e.at_ from fun e r her => by
          rw [List.drop_length] at her
          cases her)
        have HST2 := Lib.hid (keptF_step (t := t) hlt2 HST.out)
        have heq := HEQ.out
        rw [HST2.out] at heq
        have HEQ2 := Lib.hid (show (pre ++ [(a, t)]) ++ keptF N (a + 1) (t + 1) (l.drop (l.length)) = keptF N 0 0 l by rw [← heq, List.append_assoc]; rfl)
        have HPRE := Lib.hid (show pre ++ [(a, t)] <+: keptF N 0 0 l from ⟨_, HEQ2.out⟩)
        have HOK2 := Lib.hid (show okFrom N (a + 1) (l.drop (l.length)) from by
          have h1 := HOK.out
          have h2 := HST.out
          cases hdd : l.drop (l.length) with
          | nil => exact hlt2
          | cons e r =>
            rw [hdd] at h1
            have := h2 e r hdd
            exact ⟨by omega, h1.2⟩)
        clear heq HST HST2 HEQ HOK
        obtain ⟨fn, tmps, assign, body, hy, hR⟩ := hY pre (a, t) wr hJ HPRE.out
        simp only [kpE, Int.natCast_add] at hy
        have HY := Lib.hid hR
        clear hR
        gi_wp2
        refine HY.out.mono ?_
        rintro e W' (⟨rfl, hJ', hk'⟩ | ⟨rfl, hJx'⟩)
        · have bA := (hk' A hSA).trans hA
          have bB := (hk' B hSB).trans hB
          have hW' := isE_low h HW.out (fun b hb => hk' b (hSl b hb))
          gi_wp2
          gi_roundg (N + 1 - (a + 1))
          case measure => omega
          case rel => exact ⟨l.length, a + 1, t + 1, _, by omega, by omega, by omega, by go_num, by go_num, by go_num, HEQ2.out, HOK2.out, HSEP.out, by omega, bA, bB, hW', hJ'⟩
        · gi_wp2
          refine bodyPost_ret (results_none rfl _ _ _) rfl ?_
          exact ⟨⟨_, rfl⟩, .inr ⟨_, HPRE.out, hJx'⟩⟩
    · obtain rfl : a = N := by omega
      gi_wp2
      go_end0
      refine ⟨⟨_, rfl⟩, .inl ?_⟩
      have := HEQ.out
      rw [keptF_nil (Nat.le_refl _) HOK.out, List.append_nil] at this
      rw [← this]
      exact hJ
end Go.Proofs.YtgcbkhmaabmdjaaDoor

namespace Go.Proofs.YtgcbkhmaabmdjaaDoor
open Go.RowKit
set_option linter.unusedVariables false
set_option linter.unusedSimpArgs false

theorem blkA {w : World} {g : Nat} {c : Array Value} {e : TypeId} {f : Nat × Nat} (h : w.heap[g]? = some (.cells c e f)) : ∀ i, w.cell? ⟨g, i, none⟩ = c[i]? := fun i => block_cell h i
theorem extract_part (T : ByteArray) (st z : Nat) : (⟨((T.data.toList.drop st).take (z - st)).toArray⟩ : ByteArray) = T.extract st z := by
  have := ext_list T st z
  exact ba_of this
theorem extract_le' (s : ByteArray) (a b : Nat) : (s.extract a b).size ≤ s.size := by rw [ByteArray.size_extract]; omega
def PartEnd (W0 w : World) (AT ST OUT base : Nat) (ov : Value) (x z : Nat) (L' : List Ed) (w' : World) : Prop := ∃ ov',
      w'.heap[AT]? = some (.cells #[.int .i64 ((x + 1 : Nat) : Int)] 3 (0, 0)) ∧ w'.heap[ST]? = some (.cells #[.int .i64 ((z + 1 : Nat) : Int)] 3 (0, 0)) ∧ w'.heap[OUT]? = some (.cells #[ov'] 25 (0, 0)) ∧
      w'.ownsRow base 40 4 ov' L'.length (L'.flatMap edC) ∧ Ext W0 w' ∧ (∀ b o, w.heap[b]? = some o → b ≠ AT → b ≠ ST → b ≠ OUT → ov.ownBlock ≠ some b → w'.heap[b]? = some o) ∧ w.heap.size ≤ w'.heap.size
set_option maxHeartbeats 8000000 in
set_option maxRecDepth 100000 in
theorem partC (W0 w : World) (AT ST OUT PA TO base : Nat) (a st x z : Nat) (ov : Value) (L : List Ed) (path T : ByteArray)
    (bAT : w.heap[AT]? = some (.cells #[.int .i64 (a : Int)] 3 (0, 0))) (bST : w.heap[ST]? = some (.cells #[.int .i64 (st : Int)] 3 (0, 0))) (bOUT : w.heap[OUT]? = some (.cells #[ov] 25 (0, 0)))
    (bPA : w.heap[PA]? = some (.cells #[.string path] 9 (0, 0))) (bTO : w.heap[TO]? = some (.cells #[.string T] 9 (0, 0)))
    (own : w.ownsRow base 40 4 ov L.length (L.flatMap edC)) (hL : L.length ≤ 100000) (X : Ext W0 w) (hb0 : W0.heap.size ≤ base) (hbw : base ≤ w.heap.size)
    (hAT : W0.heap.size ≤ AT) (hST : W0.heap.size ≤ ST) (hOUT : W0.heap.size ≤ OUT) (hne : AT ≠ ST)
    (hax : a ≤ x) (hx : x ≤ 1099511627776) (hsz : st ≤ z) (hz : z ≤ T.size) (hT : T.size ≤ 1099511627776) :
    Calls Tryd.prog 60 #[.int .i64 (x : Int), .int .i64 (z : Int), .pointer (some ⟨AT, 0, none⟩), .pointer (some ⟨ST, 0, none⟩), .pointer (some ⟨OUT, 0, none⟩), .pointer (some ⟨PA, 0, none⟩), .pointer (some ⟨TO, 0, none⟩)] w fun e w' => e = .returned (.tuple #[]) ∧ PartEnd W0 w AT ST OUT base ov x z (L ++ partE path T.data.toList a st x z) w' := by
  obtain ⟨zE, tyE⟩ := tyEd
  have kAT := blkA bAT
  have kST := blkA bST
  have hOA : OUT ≠ AT := fun e => by subst e; rw [bOUT] at bAT; simp only [Option.some.injEq, Obj.cells.injEq] at bAT; exact absurd bAT.2.1 (by decide)
  have hOS : OUT ≠ ST := fun e => by subst e; rw [bOUT] at bST; simp only [Option.some.injEq, Obj.cells.injEq] at bST; exact absurd bST.2.1 (by decide)
  have HOWN := Lib.hid own
  have HX := Lib.hid X
  -- the end: both counts go on
  have fin : ∀ (w7 : World) (ov' : Value) (L' : List Ed), w7.heap[AT]? = some (.cells #[.int .i64 (a : Int)] 3 (0, 0)) → w7.heap[ST]? = some (.cells #[.int .i64 (st : Int)] 3 (0, 0)) → w7.heap[OUT]? = some (.cells #[ov'] 25 (0, 0)) → w7.ownsRow base 40 4 ov' L'.length (L'.flatMap edC) → Ext W0 w7 →
      (∀ b o, w.heap[b]? = some o → b ≠ AT → b ≠ ST → b ≠ OUT → ov.ownBlock ≠ some b → w7.heap[b]? = some o) → w.heap.size ≤ w7.heap.size →
      ((w7.setCell ⟨AT, 0, none⟩ (.int .i64 ((x : Int) + 1))).setCell ⟨ST, 0, none⟩ (.int .i64 ((z : Int) + 1))).heap[AT]? = some (.cells #[.int .i64 ((x + 1 : Nat) : Int)] 3 (0, 0)) ∧ ((w7.setCell ⟨AT, 0, none⟩ (.int .i64 ((x : Int) + 1))).setCell ⟨ST, 0, none⟩ (.int .i64 ((z : Int) + 1))).heap[ST]? = some (.cells #[.int .i64 ((z + 1 : Nat) : Int)] 3 (0, 0)) ∧ ((w7.setCell ⟨AT, 0, none⟩ (.int .i64 ((x : Int) + 1))).setCell ⟨ST, 0, none⟩ (.int .i64 ((z : Int) + 1))).heap[OUT]? = some (.cells #[ov'] 25 (0, 0)) ∧
      ((w7.setCell ⟨AT, 0, none⟩ (.int .i64 ((x : Int) + 1))).setCell ⟨ST, 0, none⟩ (.int .i64 ((z : Int) + 1))).ownsRow base 40 4 ov' L'.length (L'.flatMap edC) ∧ Ext W0 ((w7.setCell ⟨AT, 0, none⟩ (.int .i64 ((x : Int) + 1))).setCell ⟨ST, 0, none⟩ (.int .i64 ((z : Int) + 1))) ∧ (∀ b o, w.heap[b]? = some o → b ≠ AT → b ≠ ST → b ≠ OUT → ov.ownBlock ≠ some b → ((w7.setCell ⟨AT, 0, none⟩ (.int .i64 ((x : Int) + 1))).setCell ⟨ST, 0, none⟩ (.int .i64 ((z : Int) + 1))).heap[b]? = some o) ∧ w.heap.size ≤ ((w7.setCell ⟨AT, 0, none⟩ (.int .i64 ((x : Int) + 1))).setCell ⟨ST, 0, none⟩ (.int .i64 ((z : Int) + 1))).heap.size := by
    intro w7 ov' L' h1 h2 h3 h4 h5 h6 h7
    have g1 : w7.grownBy (w7.setCell ⟨AT, 0, none⟩ (.int .i64 ((x : Int) + 1))) (some AT) := grown_setCell _ _ _ _
    have g2 : (w7.setCell ⟨AT, 0, none⟩ (.int .i64 ((x : Int) + 1))).grownBy ((w7.setCell ⟨AT, 0, none⟩ (.int .i64 ((x : Int) + 1))).setCell ⟨ST, 0, none⟩ (.int .i64 ((z : Int) + 1))) (some ST) := grown_setCell _ _ _ _
    have e1 := block_setCell h1 (i := 0) (.int .i64 ((x : Int) + 1))
    have e2 := block_setCell (grown_other g1 h2 hne.symm) (i := 0) (.int .i64 ((z : Int) + 1))
    have e3 := grown_other g1 h3 hOA
    have o1 := ownsRow_grown h4 g1 (own_neT h4 h1 (by decide))
    refine ⟨?_, ?_, grown_other g2 e3 hOS, ownsRow_grown o1 g2 (own_neT o1 (grown_other g1 h2 hne.symm) (by decide)), (h5.grown g1 (fun k hk => by cases hk; omega)).grown g2 (fun k hk => by cases hk; omega), fun b o hb q1 q2 q3 q4 => grown_other g2 (grown_other g1 (h6 b o hb q1 q2 q3 q4) q1) q2, Nat.le_trans h7 (Nat.le_trans g1.size g2.size)⟩
    · have := grown_other g2 e1 hne
      simpa using this
    · simpa using e2
  have HFIN := Lib.hid fin
  clear fin own X
  by_cases hem : a < x ∨ st < z
  · have HP := Lib.hid (show partE path T.data.toList a st x z = [⟨path, (a : Int), (x : Int) - a, T.extract st z⟩] by unfold partE; rw [if_pos hem, extract_part])
    have hbl := fun w => build_one (P := Tryd.prog) w 25 40 4 Tryd.underlying25 infoEd4 (by omega) (by omega) (edC ⟨path, (a : Int), (x : Int) - a, T.extract st z⟩) rfl
    have hsT := extract_le' T st z
    rcases Nat.lt_or_ge a x with h1 | h1
    · clear hem
      go_enter Tryd.func60, Tryd.ntmps60
      go_upto_region 1 with fail
      have hwr : IntKind.i64.wrap ((x : Int) - (a : Int)) = (x : Int) - (a : Int) := wrap64_small (by omega) (by omega)
      have KO := fun v (h : Ext w v) => blkA (h.keeps bOUT)
      have KP := fun v (h : Ext w v) => blkA (h.keeps bPA)
      have KA := fun v (h : Ext w v) => blkA (h.keeps bAT)
      have KS := fun v (h : Ext w v) => blkA (h.keeps bST)
      have KT := fun v (h : Ext w v) => blkA (h.keeps bTO)
      refine wp_region_G 12 (fun v => Ext w v) (by kernel_rfl) fun wd hqd hHeld => ?_
      refine G_take (i := 0) (u := ?vpw10) rfl (by kernel_rfl) (by kernel_rfl) (by kernel_rfl) (fun _ _ _ h => h) rfl (by kernel_rfl) (by decide) (by rfl) (Or.inl ⟨by rfl, ?hypw10⟩) hHeld ?_
      case hypw10 => (intro w hSw; have kk := KO _ hSw; go_simp; try with_reducible rfl)
      simp only [Act.put, List.setIfInBounds_toArray, List.set_cons_zero, List.set_cons_succ, List.getElem_toArray, List.getElem_cons_zero, List.getElem_cons_succ]
      refine C_take (i := 1) (u := ?vpw11) [10, 11, 12] rfl (by kernel_rfl) (by kernel_rfl) (by kernel_rfl) (fun _ _ _ h => h) (by kernel_rfl) (by kernel_rfl) (by kernel_rfl) (by kernel_rfl) (Or.inl ⟨by rfl, ?hypw11⟩) hHeld ?_
      case hypw11 => (intro w hSw; have kk := KP _ hSw; go_simp; try with_reducible rfl)
      simp only [Act.put, List.setIfInBounds_toArray, List.set_cons_zero, List.set_cons_succ, List.getElem_toArray, List.getElem_cons_zero, List.getElem_cons_succ]
      refine C_take (i := 2) (u := ?vpw12) [10, 11, 12] rfl (by kernel_rfl) (by kernel_rfl) (by kernel_rfl) (fun _ _ _ h => h) (by kernel_rfl) (by kernel_rfl) (by kernel_rfl) (by kernel_rfl) (Or.inl ⟨by rfl, ?hypw12⟩) hHeld ?_
      case hypw12 => (intro w hSw; have kk := KA _ hSw; go_simp; try with_reducible rfl)
      simp only [Act.put, List.setIfInBounds_toArray, List.set_cons_zero, List.set_cons_succ, List.getElem_toArray, List.getElem_cons_zero, List.getElem_cons_succ]
      refine G_pure (i := 3) (u := ?vpw13) rfl (by kernel_rfl) (by kernel_rfl) (by kernel_rfl) (fun _ _ _ h => h) (by decide) (Or.inl ⟨by rfl, ?hypw13⟩) hHeld ?_
      case hypw13 => (intro w hSw; go_simp; try with_reducible rfl)
      simp only [Act.put, List.setIfInBounds_toArray, List.set_cons_zero, List.set_cons_succ, List.getElem_toArray, List.getElem_cons_zero, List.getElem_cons_succ]
      refine C_take (i := 4) (u := ?vpw14) [5, 10, 11, 12] rfl (by kernel_rfl) (by kernel_rfl) (by kernel_rfl) (fun _ _ _ h => h) (by kernel_rfl) (by kernel_rfl) (by kernel_rfl) (by kernel_rfl) (Or.inl ⟨by rfl, ?hypw14⟩) hHeld ?_
      case hypw14 => (intro w hSw; have kk := KA _ hSw; go_simp; try with_reducible rfl)
      simp only [Act.put, List.setIfInBounds_toArray, List.set_cons_zero, List.set_cons_succ, List.getElem_toArray, List.getElem_cons_zero, List.getElem_cons_succ]
      refine G_pure (i := 5) (u := ?vpw15) rfl (by kernel_rfl) (by kernel_rfl) (by kernel_rfl) (fun _ _ _ h => h) (by decide) (Or.inl ⟨by rfl, ?hypw15⟩) hHeld ?_
      case hypw15 => (intro w hSw; go_simp; try with_reducible rfl)
      simp only [Act.put, List.setIfInBounds_toArray, List.set_cons_zero, List.set_cons_succ, List.getElem_toArray, List.getElem_cons_zero, List.getElem_cons_succ]
      refine C_take (i := 6) (u := ?vpw16) [9, 10, 11, 12] rfl (by kernel_rfl) (by kernel_rfl) (by kernel_rfl) (fun _ _ _ h => h) (by kernel_rfl) (by kernel_rfl) (by kernel_rfl) (by kernel_rfl) (Or.inl ⟨by rfl, ?hypw16⟩) hHeld ?_
      case hypw16 => (intro w hSw; have kk := KT _ hSw; go_simp; try with_reducible rfl)
      simp only [Act.put, List.setIfInBounds_toArray, List.set_cons_zero, List.set_cons_succ, List.getElem_toArray, List.getElem_cons_zero, List.getElem_cons_succ]
      refine C_take (i := 7) (u := ?vpw17) [9, 10, 11, 12] rfl (by kernel_rfl) (by kernel_rfl) (by kernel_rfl) (fun _ _ _ h => h) (by kernel_rfl) (by kernel_rfl) (by kernel_rfl) (by kernel_rfl) (Or.inl ⟨by rfl, ?hypw17⟩) hHeld ?_
      case hypw17 => (intro w hSw; have kk := KS _ hSw; go_simp; try with_reducible rfl)
      simp only [Act.put, List.setIfInBounds_toArray, List.set_cons_zero, List.set_cons_succ, List.getElem_toArray, List.getElem_cons_zero, List.getElem_cons_succ]
      refine G_pure (i := 8) (u := ?vpw18) rfl (by kernel_rfl) (by kernel_rfl) (by kernel_rfl) (fun _ _ _ h => h) (by decide) (Or.inl ⟨by rfl, ?hypw18⟩) hHeld ?_
      case hypw18 => (intro w hSw; go_simp; try with_reducible rfl)
      simp only [Act.put, List.setIfInBounds_toArray, List.set_cons_zero, List.set_cons_succ, List.getElem_toArray, List.getElem_cons_zero, List.getElem_cons_succ]
      refine G_pure (i := 9) (u := ?vpw19) rfl (by kernel_rfl) (by kernel_rfl) (by kernel_rfl) (fun _ _ _ h => h) (by decide) (Or.inl ⟨by rfl, ?hypw19⟩) hHeld ?_
      case hypw19 => (intro w hSw; go_simp; try with_reducible rfl)
      simp only [Act.put, List.setIfInBounds_toArray, List.set_cons_zero, List.set_cons_succ, List.getElem_toArray, List.getElem_cons_zero, List.getElem_cons_succ]
      refine G_pure (i := 10) (u := ?vpw110) rfl (by kernel_rfl) (by kernel_rfl) (by kernel_rfl) (fun _ _ _ h => h) (by decide) (Or.inl ⟨by rfl, ?hypw110⟩) hHeld ?_
      case hypw110 => (intro w hSw; go_simp; try with_reducible rfl)
      simp only [Act.put, List.setIfInBounds_toArray, List.set_cons_zero, List.set_cons_succ, List.getElem_toArray, List.getElem_cons_zero, List.getElem_cons_succ]
      refine G_all (rs := [11]) (by kernel_rfl) (by simp) ?_
      intro i hi; obtain rfl : i = 11 := by simpa using hi
      refine wpOp_run rfl (by rfl) ?_
      refine wp_buildOne 25 (.tmp 27) rfl (edC ⟨path, (a : Int), (x : Int) - a, T.extract st z⟩) (by rfl) (hbl _) ?_
      have own6 := (ownsRow_ext HOWN.out hHeld).alloc (.cells (edC ⟨path, (a : Int), (x : Int) - a, T.extract st z⟩).toArray 40)
      have hHeld := hHeld.alloc (.cells (edC ⟨path, (a : Int), (x : Int) - a, T.extract st z⟩).toArray 40)
      first | refine ⟨fun _ => hHeld, ?_⟩ | refine ⟨hHeld, ?_⟩ | skip
      try simp only [Act.put, List.setIfInBounds_toArray, List.set_cons_zero, List.set_cons_succ, List.getElem_toArray, List.getElem_cons_zero, List.getElem_cons_succ]
      refine G_all (rs := [12]) (by kernel_rfl) (by simp) ?_
      intro i hi; obtain rfl : i = 12 := by simpa using hi
      refine wpOp_run rfl (by rfl) ?_
      refine wp_appO tyE (.tmp 17) (.tmp 28) rfl base ov L.length _ own6 (by rfl) _ 1 (edC ⟨path, (a : Int), (x : Int) - a, T.extract st z⟩) (sl_one_new (w := wd) (n := 4) (e := 40) (Q := edC ⟨path, (a : Int), (x : Int) - a, T.extract st z⟩) rfl rfl) (by rfl) (edC_one1 _) (by omega) (by omega) (Nat.le_trans hbw hHeld.size) ?_
      intro v7 w7 own7 gr7
      obtain ⟨_, a7, c7, e7, _⟩ := IsSl.of_owns own7
      subst e7
      have bO7 := grown_keep gr7 (hHeld.keeps bOUT) (own_neT own6 (hHeld.keeps bOUT) (by decide))
      have kO7 := blkA bO7
      have fO7 := fun i => block_free bO7 i
      try refine ⟨fun e => absurd e (by decide), ?_⟩
      refine G_free _ _ _ _ (by kernel_rfl) ?_
      try simp only [Act.put, List.setIfInBounds_toArray, List.set_cons_zero, List.set_cons_succ, List.getElem_toArray, List.getElem_cons_zero, List.getElem_cons_succ]
      refine wpAny_all (rs := [13]) (by kernel_rfl) (by simp) ?_
      intro i hi; obtain rfl : i = 13 := by simpa using hi
      refine wpOp_run rfl (by rfl) ?_
      go_simp
      try simp only [Act.put, List.setIfInBounds_toArray, List.set_cons_zero, List.set_cons_succ, List.getElem_toArray, List.getElem_cons_zero, List.getElem_cons_succ]
      refine wpAny_done (by kernel_rfl) ?_ _
      refine NoPanic.normal ?_
      have bA7 := grown_keep gr7 (hHeld.keeps bAT) (own_neT own6 (hHeld.keeps bAT) (by decide))
      have bS7 := grown_keep gr7 (hHeld.keeps bST) (own_neT own6 (hHeld.keeps bST) (by decide))
      have g8 : w7.grownBy (w7.setCell ⟨OUT, 0, none⟩ (.slice a7 (L.length + 1) c7)) (some OUT) := grown_setCell _ _ _ _
      have bO8 := block_setCell bO7 (i := 0) (.slice a7 (L.length + 1) c7)
      have bA8 := grown_other g8 bA7 hOA.symm
      have bS8 := grown_other g8 bS7 hOS.symm
      have own8 := ownsRow_grown own7 g8 (own_neT own7 bO7 (by decide))
      have X7 := own_base own6 gr7 (HX.out.trans hHeld) hb0
      have X8 := X7.grown g8 (fun k hk => by cases hk; omega)
      have keep8 : ∀ b o, w.heap[b]? = some o → b ≠ AT → b ≠ ST → b ≠ OUT → ov.ownBlock ≠ some b → (w7.setCell ⟨OUT, 0, none⟩ (.slice a7 (L.length + 1) c7)).heap[b]? = some o := fun b o hb _ _ q3 q4 => grown_other g8 (grown_keep gr7 (hHeld.keeps hb) q4) q3
      have sz8 : w.heap.size ≤ (w7.setCell ⟨OUT, 0, none⟩ (.slice a7 (L.length + 1) c7)).heap.size := Nat.le_trans hHeld.size (Nat.le_trans gr7.size g8.size)
      have own9 : (w7.setCell ⟨OUT, 0, none⟩ (.slice a7 (L.length + 1) c7)).ownsRow base 40 4 (.slice a7 (L.length + 1) c7) (L ++ partE path T.data.toList a st x z).length ((L ++ partE path T.data.toList a st x z).flatMap edC) := by
        rw [HP.out, List.length_append, List.flatMap_append]
        simpa using own8
      have bb := HFIN.out _ (.slice a7 (L.length + 1) c7) _ bA8 bS8 (by simpa using bO8) own9 X8 keep8 sz8
      have kA8 := blkA bA8
      have kS8 := blkA bS8
      have fA8 := block_free bA8 0
      have fS8 := block_free bS8 0
      clear kO7 fO7 KO KP KA KS KT bA7 bS7 bO7 bO8 own6 own7 own8 own9 X7 X8 keep8 sz8 kAT kST
      generalize w7.setCell ⟨OUT, 0, none⟩ (.slice a7 (L.length + 1) c7) = w8 at *
      go_wp2_with fail
      go_end0
      exact ⟨rfl, _, bb⟩
    · have h1' : ¬ (a : Int) < (x : Int) := by omega
      have h2 : (st : Int) < (z : Int) := by rcases hem with q | q <;> omega
      clear hem
      go_enter Tryd.func60, Tryd.ntmps60
      go_upto_region 1 with fail
      have hwr : IntKind.i64.wrap ((x : Int) - (a : Int)) = (x : Int) - (a : Int) := wrap64_small (by omega) (by omega)
      have KO := fun v (h : Ext w v) => blkA (h.keeps bOUT)
      have KP := fun v (h : Ext w v) => blkA (h.keeps bPA)
      have KA := fun v (h : Ext w v) => blkA (h.keeps bAT)
      have KS := fun v (h : Ext w v) => blkA (h.keeps bST)
      have KT := fun v (h : Ext w v) => blkA (h.keeps bTO)
      refine wp_region_G 12 (fun v => Ext w v) (by kernel_rfl) fun wd hqd hHeld => ?_
      refine G_take (i := 0) (u := ?vpw20) rfl (by kernel_rfl) (by kernel_rfl) (by kernel_rfl) (fun _ _ _ h => h) rfl (by kernel_rfl) (by decide) (by rfl) (Or.inl ⟨by rfl, ?hypw20⟩) hHeld ?_
      case hypw20 => (intro w hSw; have kk := KO _ hSw; go_simp; try with_reducible rfl)
      simp only [Act.put, List.setIfInBounds_toArray, List.set_cons_zero, List.set_cons_succ, List.getElem_toArray, List.getElem_cons_zero, List.getElem_cons_succ]
      refine C_take (i := 1) (u := ?vpw21) [10, 11, 12] rfl (by kernel_rfl) (by kernel_rfl) (by kernel_rfl) (fun _ _ _ h => h) (by kernel_rfl) (by kernel_rfl) (by kernel_rfl) (by kernel_rfl) (Or.inl ⟨by rfl, ?hypw21⟩) hHeld ?_
      case hypw21 => (intro w hSw; have kk := KP _ hSw; go_simp; try with_reducible rfl)
      simp only [Act.put, List.setIfInBounds_toArray, List.set_cons_zero, List.set_cons_succ, List.getElem_toArray, List.getElem_cons_zero, List.getElem_cons_succ]
      refine C_take (i := 2) (u := ?vpw22) [10, 11, 12] rfl (by kernel_rfl) (by kernel_rfl) (by kernel_rfl) (fun _ _ _ h => h) (by kernel_rfl) (by kernel_rfl) (by kernel_rfl) (by kernel_rfl) (Or.inl ⟨by rfl, ?hypw22⟩) hHeld ?_
      case hypw22 => (intro w hSw; have kk := KA _ hSw; go_simp; try with_reducible rfl)
      simp only [Act.put, List.setIfInBounds_toArray, List.set_cons_zero, List.set_cons_succ, List.getElem_toArray, List.getElem_cons_zero, List.getElem_cons_succ]
      refine G_pure (i := 3) (u := ?vpw23) rfl (by kernel_rfl) (by kernel_rfl) (by kernel_rfl) (fun _ _ _ h => h) (by decide) (Or.inl ⟨by rfl, ?hypw23⟩) hHeld ?_
      case hypw23 => (intro w hSw; go_simp; try with_reducible rfl)
      simp only [Act.put, List.setIfInBounds_toArray, List.set_cons_zero, List.set_cons_succ, List.getElem_toArray, List.getElem_cons_zero, List.getElem_cons_succ]
      refine C_take (i := 4) (u := ?vpw24) [5, 10, 11, 12] rfl (by kernel_rfl) (by kernel_rfl) (by kernel_rfl) (fun _ _ _ h => h) (by kernel_rfl) (by kernel_rfl) (by kernel_rfl) (by kernel_rfl) (Or.inl ⟨by rfl, ?hypw24⟩) hHeld ?_
      case hypw24 => (intro w hSw; have kk := KA _ hSw; go_simp; try with_reducible rfl)
      simp only [Act.put, List.setIfInBounds_toArray, List.set_cons_zero, List.set_cons_succ, List.getElem_toArray, List.getElem_cons_zero, List.getElem_cons_succ]
      refine G_pure (i := 5) (u := ?vpw25) rfl (by kernel_rfl) (by kernel_rfl) (by kernel_rfl) (fun _ _ _ h => h) (by decide) (Or.inl ⟨by rfl, ?hypw25⟩) hHeld ?_
      case hypw25 => (intro w hSw; go_simp; try with_reducible rfl)
      simp only [Act.put, List.setIfInBounds_toArray, List.set_cons_zero, List.set_cons_succ, List.getElem_toArray, List.getElem_cons_zero, List.getElem_cons_succ]
      refine C_take (i := 6) (u := ?vpw26) [9, 10, 11, 12] rfl (by kernel_rfl) (by kernel_rfl) (by kernel_rfl) (fun _ _ _ h => h) (by kernel_rfl) (by kernel_rfl) (by kernel_rfl) (by kernel_rfl) (Or.inl ⟨by rfl, ?hypw26⟩) hHeld ?_
      case hypw26 => (intro w hSw; have kk := KT _ hSw; go_simp; try with_reducible rfl)
      simp only [Act.put, List.setIfInBounds_toArray, List.set_cons_zero, List.set_cons_succ, List.getElem_toArray, List.getElem_cons_zero, List.getElem_cons_succ]
      refine C_take (i := 7) (u := ?vpw27) [9, 10, 11, 12] rfl (by kernel_rfl) (by kernel_rfl) (by kernel_rfl) (fun _ _ _ h => h) (by kernel_rfl) (by kernel_rfl) (by kernel_rfl) (by kernel_rfl) (Or.inl ⟨by rfl, ?hypw27⟩) hHeld ?_
      case hypw27 => (intro w hSw; have kk := KS _ hSw; go_simp; try with_reducible rfl)
      simp only [Act.put, List.setIfInBounds_toArray, List.set_cons_zero, List.set_cons_succ, List.getElem_toArray, List.getElem_cons_zero, List.getElem_cons_succ]
      refine G_pure (i := 8) (u := ?vpw28) rfl (by kernel_rfl) (by kernel_rfl) (by kernel_rfl) (fun _ _ _ h => h) (by decide) (Or.inl ⟨by rfl, ?hypw28⟩) hHeld ?_
      case hypw28 => (intro w hSw; go_simp; try with_reducible rfl)
      simp only [Act.put, List.setIfInBounds_toArray, List.set_cons_zero, List.set_cons_succ, List.getElem_toArray, List.getElem_cons_zero, List.getElem_cons_succ]
      refine G_pure (i := 9) (u := ?vpw29) rfl (by kernel_rfl) (by kernel_rfl) (by kernel_rfl) (fun _ _ _ h => h) (by decide) (Or.inl ⟨by rfl, ?hypw29⟩) hHeld ?_
      case hypw29 => (intro w hSw; go_simp; try with_reducible rfl)
      simp only [Act.put, List.setIfInBounds_toArray, List.set_cons_zero, List.set_cons_succ, List.getElem_toArray, List.getElem_cons_zero, List.getElem_cons_succ]
      refine G_pure (i := 10) (u := ?vpw210) rfl (by kernel_rfl) (by kernel_rfl) (by kernel_rfl) (fun _ _ _ h => h) (by decide) (Or.inl ⟨by rfl, ?hypw210⟩) hHeld ?_
      case hypw210 => (intro w hSw; go_simp; try with_reducible rfl)
      simp only [Act.put, List.setIfInBounds_toArray, List.set_cons_zero, List.set_cons_succ, List.getElem_toArray, List.getElem_cons_zero, List.getElem_cons_succ]
      refine G_all (rs := [11]) (by kernel_rfl) (by simp) ?_
      intro i hi; obtain rfl : i = 11 := by simpa using hi
      refine wpOp_run rfl (by rfl) ?_
      refine wp_buildOne 25 (.tmp 27) rfl (edC ⟨path, (a : Int), (x : Int) - a, T.extract st z⟩) (by rfl) (hbl _) ?_
      have own6 := (ownsRow_ext HOWN.out hHeld).alloc (.cells (edC ⟨path, (a : Int), (x : Int) - a, T.extract st z⟩).toArray 40)
      have hHeld := hHeld.alloc (.cells (edC ⟨path, (a : Int), (x : Int) - a, T.extract st z⟩).toArray 40)
      first | refine ⟨fun _ => hHeld, ?_⟩ | refine ⟨hHeld, ?_⟩ | skip
      try simp only [Act.put, List.setIfInBounds_toArray, List.set_cons_zero, List.set_cons_succ, List.getElem_toArray, List.getElem_cons_zero, List.getElem_cons_succ]
      refine G_all (rs := [12]) (by kernel_rfl) (by simp) ?_
      intro i hi; obtain rfl : i = 12 := by simpa using hi
      refine wpOp_run rfl (by rfl) ?_
      refine wp_appO tyE (.tmp 17) (.tmp 28) rfl base ov L.length _ own6 (by rfl) _ 1 (edC ⟨path, (a : Int), (x : Int) - a, T.extract st z⟩) (sl_one_new (w := wd) (n := 4) (e := 40) (Q := edC ⟨path, (a : Int), (x : Int) - a, T.extract st z⟩) rfl rfl) (by rfl) (edC_one1 _) (by omega) (by omega) (Nat.le_trans hbw hHeld.size) ?_
      intro v7 w7 own7 gr7
      obtain ⟨_, a7, c7, e7, _⟩ := IsSl.of_owns own7
      subst e7
      have bO7 := grown_keep gr7 (hHeld.keeps bOUT) (own_neT own6 (hHeld.keeps bOUT) (by decide))
      have kO7 := blkA bO7
      have fO7 := fun i => block_free bO7 i
      try refine ⟨fun e => absurd e (by decide), ?_⟩
      refine G_free _ _ _ _ (by kernel_rfl) ?_
      try simp only [Act.put, List.setIfInBounds_toArray, List.set_cons_zero, List.set_cons_succ, List.getElem_toArray, List.getElem_cons_zero, List.getElem_cons_succ]
      refine wpAny_all (rs := [13]) (by kernel_rfl) (by simp) ?_
      intro i hi; obtain rfl : i = 13 := by simpa using hi
      refine wpOp_run rfl (by rfl) ?_
      go_simp
      try simp only [Act.put, List.setIfInBounds_toArray, List.set_cons_zero, List.set_cons_succ, List.getElem_toArray, List.getElem_cons_zero, List.getElem_cons_succ]
      refine wpAny_done (by kernel_rfl) ?_ _
      refine NoPanic.normal ?_
      have bA7 := grown_keep gr7 (hHeld.keeps bAT) (own_neT own6 (hHeld.keeps bAT) (by decide))
      have bS7 := grown_keep gr7 (hHeld.keeps bST) (own_neT own6 (hHeld.keeps bST) (by decide))
      have g8 : w7.grownBy (w7.setCell ⟨OUT, 0, none⟩ (.slice a7 (L.length + 1) c7)) (some OUT) := grown_setCell _ _ _ _
      have bO8 := block_setCell bO7 (i := 0) (.slice a7 (L.length + 1) c7)
      have bA8 := grown_other g8 bA7 hOA.symm
      have bS8 := grown_other g8 bS7 hOS.symm
      have own8 := ownsRow_grown own7 g8 (own_neT own7 bO7 (by decide))
      have X7 := own_base own6 gr7 (HX.out.trans hHeld) hb0
      have X8 := X7.grown g8 (fun k hk => by cases hk; omega)
      have keep8 : ∀ b o, w.heap[b]? = some o → b ≠ AT → b ≠ ST → b ≠ OUT → ov.ownBlock ≠ some b → (w7.setCell ⟨OUT, 0, none⟩ (.slice a7 (L.length + 1) c7)).heap[b]? = some o := fun b o hb _ _ q3 q4 => grown_other g8 (grown_keep gr7 (hHeld.keeps hb) q4) q3
      have sz8 : w.heap.size ≤ (w7.setCell ⟨OUT, 0, none⟩ (.slice a7 (L.length + 1) c7)).heap.size := Nat.le_trans hHeld.size (Nat.le_trans gr7.size g8.size)
      have own9 : (w7.setCell ⟨OUT, 0, none⟩ (.slice a7 (L.length + 1) c7)).ownsRow base 40 4 (.slice a7 (L.length + 1) c7) (L ++ partE path T.data.toList a st x z).length ((L ++ partE path T.data.toList a st x z).flatMap edC) := by
        rw [HP.out, List.length_append, List.flatMap_append]
        simpa using own8
      have bb := HFIN.out _ (.slice a7 (L.length + 1) c7) _ bA8 bS8 (by simpa using bO8) own9 X8 keep8 sz8
      have kA8 := blkA bA8
      have kS8 := blkA bS8
      have fA8 := block_free bA8 0
      have fS8 := block_free bS8 0
      clear kO7 fO7 KO KP KA KS KT bA7 bS7 bO7 bO8 own6 own7 own8 own9 X7 X8 keep8 sz8 kAT kST
      generalize w7.setCell ⟨OUT, 0, none⟩ (.slice a7 (L.length + 1) c7) = w8 at *
      go_wp2_with fail
      go_end0
      exact ⟨rfl, _, bb⟩
  · have h1 : ¬ (a : Int) < (x : Int) := by omega
    have h2 : ¬ (st : Int) < (z : Int) := by omega
    have HP := Lib.hid (show partE path T.data.toList a st x z = [] by unfold partE; rw [if_neg hem])
    clear hem
    have fAT := block_free bAT 0
    have fST := block_free bST 0
    have bb := HFIN.out w ov L bAT bST bOUT HOWN.out HX.out (fun b o h _ _ _ _ => h) (Nat.le_refl _)
    go_enter Tryd.func60, Tryd.ntmps60
    go_wp2_with fail
    go_end0
    refine ⟨rfl, ov, ?_⟩
    rw [HP.out, List.append_nil]
    exact bb
end Go.Proofs.YtgcbkhmaabmdjaaDoor

namespace Go.Proofs.YtgcbkhmaabmdjaaDoor
open Go.RowKit Go.Maps Go.Shelf
attribute [local go_sem] Oper.semAt_some
set_option linter.unusedVariables false
set_option linter.unusedSimpArgs false

def Ki (y : Nat) : Lit := .int .i64 (y : Int)
theorem Ki_inj {x y : Nat} (h : Ki x = Ki y) : x = y := by
  unfold Ki at h
  injection h with _ h
  omega
theorem Ki_key (x : Nat) : WideAt.IsKeyLit (Ki x) := by unfold Ki; constructor
/-- A map that reads as a row of pairs. -/
structure MapI (D : DataW Unit) (L : List (Nat × Nat)) : Prop where
  tidy : Tidy D
  has : ∀ y, Maps.has D (Ki y) = (lookP L y).isSome
  val : ∀ y z, lookP L y = some z → D.atKey (Ki y) (.lit (.int .i64 0)) = .lit (.int .i64 (z : Int))
theorem MapI.empty : MapI (.map []) [] := ⟨tidy_empty, fun _ => rfl, fun _ _ h => by cases h⟩
theorem look_snoc (L : List (Nat × Nat)) (p : Nat × Nat) (y : Nat) (h : lookP L p.1 = none) : lookP (L ++ [p]) y = if p.1 = y then some p.2 else lookP L y := by
  unfold lookP at *
  rw [List.find?_append]
  by_cases e : p.1 = y
  · subst e
    rw [if_pos rfl]
    rw [Option.map_eq_none_iff] at h
    rw [h]
    simp
  · rw [if_neg e]
    have : List.find? (fun q : Nat × Nat => q.1 == y) [p] = none := by simp [e]
    rw [this, Option.or_none]
theorem MapI.put {D : DataW Unit} {L : List (Nat × Nat)} (h : MapI D L) (p : Nat × Nat) (hn : lookP L p.1 = none) : MapI (D.put (Ki p.1) (.lit (.int .i64 (p.2 : Int)))) (L ++ [p]) := by
  refine ⟨h.tidy.put (Ki_key p.1) _, fun y => ?_, fun y z hz => ?_⟩
  · rw [look_snoc L p y hn]
    by_cases e : p.1 = y
    · subst e
      rw [if_pos rfl, has_put_same h.tidy.isMap (Ki_key p.1)]
      rfl
    · rw [if_neg e, has_put_other (fun q => e (Ki_inj q).symm), h.has]
  · rw [look_snoc L p y hn] at hz
    by_cases e : p.1 = y
    · subst e
      rw [if_pos rfl] at hz
      rw [atKey_put_same h.tidy.isMap (Ki_key p.1), Option.some.inj hz]
    · rw [if_neg e] at hz
      rw [atKey_put_other (fun q => e (Ki_inj q).symm)]
      exact h.val y z hz
theorem ris_fresh {pre : List (Nat × Nat)} {p : Nat × Nat} (h : Ris (pre ++ [p])) : lookP pre p.1 = none :=
  look_none fun q hq => by
    have := (List.pairwise_append.1 h).2.2 q hq p (by simp)
    omega
theorem zeroI' (w : World) : (zeroValue 3).run Tryd.prog w = .ok (.int .i64 0) w := by kernel_rfl
theorem mapLawI : Keyed Tryd.prog 3 := int_keyed Tryd.underlying3
set_option maxHeartbeats 8000000 in
set_option maxRecDepth 100000 in
theorem keptC (w : World) (vl : Value) (N : Nat) (l : List Ed) (h : IsE w vl l) : Calls Tryd.prog 59 #[vl, .int .i64 (N : Int)] w fun e w' => ∃ A B, e = .returned (.func (.func 65) #[] #[.pointer (some ⟨B, 0, none⟩), .pointer (some ⟨A, 0, none⟩)]) ∧ Ext w w' ∧ w'.heap[A]? = some (.cells #[vl] 25 (0, 0)) ∧ w'.heap[B]? = some (.cells #[.int .i64 (N : Int)] 3 (0, 0)) ∧ w.heap.size ≤ A ∧ w.heap.size ≤ B := by
  obtain ⟨ao, cap, rfl, _⟩ := h.opened
  go_enter Tryd.func59, Tryd.ntmps59
  go_wp2_with fail
  go_ret
  exact ⟨_, _, rfl, ((Ext.refl w).alloc _).alloc _, blk_old (blk_new rfl), blk_new (by simp), Nat.le_refl _, by omega⟩
theorem owns_putE {W : World} {base : Nat} {e : TypeId} {size : Nat} {v : Value} {n : Nat} {xs : List Value} (h : W.ownsRow base e size v n xs) {l : Nat} {o o' : Obj} (ho : W.heap[l]? = some o) (hc : o.isCells = false) : (W.putObj l o').ownsRow base e size v n xs := by
  refine ⟨h.1, ?_⟩
  rcases h.2 with h2 | ⟨g, cap, cur, rfl, hb, hg, h3⟩
  · exact .inl h2
  · refine .inr ⟨g, cap, cur, rfl, hb, (put_otherG (fun q => ?_)).trans hg, h3⟩
    subst q
    rw [hg] at ho
    cases ho
    simp [Obj.isCells] at hc
theorem ownsMapE {P : Program} {k : TypeId} {R : Value → Option (DataW Unit × List MemPlace)} {w w' : World} {b n : Nat} {D : DataW Unit} (h : w.ownsMap P k R b n D) (x : ∀ o, w.heap[b]? = some o → w'.heap[b]? = some o) : w'.ownsMap P k R b n D := by
  obtain ⟨es, clock, hb, F, hs, hD⟩ := h
  exact ⟨es, clock, x _ hb, F, hs, hD⟩
theorem ownsMap_at {P : Program} {k : TypeId} {R : Value → Option (DataW Unit × List MemPlace)} {w : World} {b n : Nat} {D : DataW Unit} (h : w.ownsMap P k R b n D) : ∃ es c, w.heap[b]? = some (.map es c) := by
  obtain ⟨es, clock, hb, F, hs, hD⟩ := h
  exact ⟨es, clock, hb⟩
/-- As far as the pairs go: the counts and the edits. -/
def stB (path : ByteArray) (T : List UInt8) : Nat × Nat × List Ed → List (Nat × Nat) → Nat × Nat × List Ed
  | s, [] => s
  | (a, st, L), p :: r => stB path T (p.1 + 1, p.2 + 1, L ++ partE path T a st p.1 p.2) r
theorem stB_snoc (path : ByteArray) (T : List UInt8) (p : Nat × Nat) : ∀ (l : List (Nat × Nat)) (s : Nat × Nat × List Ed), stB path T s (l ++ [p]) = (p.1 + 1, p.2 + 1, (stB path T s l).2.2 ++ partE path T (stB path T s l).1 (stB path T s l).2.1 p.1 p.2)
  | [], (a, st, L) => rfl
  | q :: r, (a, st, L) => stB_snoc path T p r _
theorem stB_both (path : ByteArray) (T : List UInt8) : ∀ (l : List (Nat × Nat)) (a st : Nat) (L : List Ed), (stB path T (a, st, L) l).2.2 = L ++ bothL path T a st l
  | [], a, st, L => by simp [stB, bothL]
  | p :: r, a, st, L => by rw [stB, stB_both path T r, bothL, List.append_assoc]
theorem stB_len (path : ByteArray) (T : List UInt8) : ∀ (l : List (Nat × Nat)) (s : Nat × Nat × List Ed), (stB path T s l).2.2.length ≤ s.2.2.length + l.length
  | [], s => Nat.le_refl _
  | p :: r, (a, st, L) => by
    have ih := stB_len path T r (p.1 + 1, p.2 + 1, L ++ partE path T a st p.1 p.2)
    have : (partE path T a st p.1 p.2).length ≤ 1 := by unfold partE; split <;> simp
    rw [stB, List.length_cons]
    simp only [List.length_append] at ih ⊢
    omega
/-- The counts stand behind the pairs that were. -/
theorem stB_le (path : ByteArray) (T : List UInt8) (p : Nat × Nat) : ∀ (l : List (Nat × Nat)) (s : Nat × Nat × List Ed), Ris (l ++ [p]) → (∀ q r, l ++ [p] = q :: r → s.1 ≤ q.1 ∧ s.2.1 ≤ q.2) → (stB path T s l).1 ≤ p.1 ∧ (stB path T s l).2.1 ≤ p.2
  | [], s, _, h => h p [] rfl
  | q :: r, (a, st, L), hr, h => by
    rw [stB]
    refine stB_le path T p r _ (List.pairwise_cons.1 hr).2 fun q2 r2 e => ?_
    have := (List.pairwise_cons.1 hr).1 q2 (by show q2 ∈ r ++ [p]; rw [e]; simp)
    simp only
    omega
/-- The pairs that both have, as far as one goes. -/
def joinP (B : List (Nat × Nat)) (l : List (Nat × Nat)) : List (Nat × Nat) := l.filterMap fun p => (lookP B p.2).map fun z => (p.1, z)
theorem joinP_snoc (B l : List (Nat × Nat)) (p : Nat × Nat) : joinP B (l ++ [p]) = joinP B l ++ ((lookP B p.2).map fun z => (p.1, z)).toList := by
  unfold joinP
  rw [List.filterMap_append]
  cases h : (lookP B p.2) <;> simp [h]
theorem look_mem {L : List (Nat × Nat)} {y z : Nat} (h : lookP L y = some z) : (y, z) ∈ L := by
  unfold lookP at h
  obtain ⟨q, h1, h2⟩ := Option.map_eq_some_iff.1 h
  have := List.find?_some h1
  have hm := List.mem_of_find?_eq_some h1
  simp only [beq_iff_eq] at this
  rw [← this, ← h2]
  exact hm
theorem look_mem' {L : List (Nat × Nat)} {y z : Nat} (h : lookP L y = some z) : ∃ p ∈ L, p.1 = y ∧ p.2 = z := ⟨_, look_mem h, rfl, rfl⟩
theorem ris_snd {L : List (Nat × Nat)} (h : Ris L) {p q : Nat × Nat} (hp : p ∈ L) (hq : q ∈ L) (hlt : p.1 < q.1) : p.2 < q.2 := by
  induction L with
  | nil => cases hp
  | cons x r ih =>
    have h2 := List.pairwise_cons.1 h
    rcases List.mem_cons.1 hp with rfl | hp2
    · rcases List.mem_cons.1 hq with rfl | hq2
      · omega
      · exact (h2.1 q hq2).2
    · rcases List.mem_cons.1 hq with rfl | hq2
      · have := (h2.1 p hp2).1; omega
      · exact ih h2.2 hp2 hq2
theorem join_ris {B : List (Nat × Nat)} (hB : Ris B) : ∀ {l : List (Nat × Nat)}, Ris l → Ris (joinP B l)
  | [], _ => List.Pairwise.nil
  | p :: r, h => by
    have h2 := List.pairwise_cons.1 h
    have ih := join_ris hB h2.2
    unfold joinP at ih ⊢
    rw [List.filterMap_cons]
    cases hz : lookP B p.2 with
    | none => exact ih
    | some z =>
      refine List.pairwise_cons.2 ⟨fun q hq => ?_, ih⟩
      obtain ⟨p2, hp2, e⟩ := List.mem_filterMap.1 hq
      cases hz2 : lookP B p2.2 with
      | none => rw [hz2] at e; cases e
      | some z2 =>
        rw [hz2] at e
        simp only [Option.map_some, Option.some.injEq] at e
        subst e
        have := h2.1 p2 hp2
        exact ⟨this.1, (ris_snd hB (look_mem hz) (look_mem hz2) this.2 : z < z2)⟩
/-- What holds between two rounds over what the first edits keep. -/
def LoopB (w w4 : World) (G N D1 k : Nat) (D : DataW Unit) (path to_ : ByteArray) (fnv : Array Value) (s : Nat × Nat × List Ed) (W : World) : Prop :=
  ∃ ov, W.ownsMap Tryd.prog 3 (plainElem (H := Unit) Tryd.prog 3) (G + 1 + 1) k D ∧ W.heap[N]? = some (.cells #[ov] 25 (0, 0)) ∧ W.heap[N + 1]? = some (.cells #[.int .i64 (s.1 : Int)] 3 (0, 0)) ∧ W.heap[N + 1 + 1]? = some (.cells #[.int .i64 (s.2.1 : Int)] 3 (0, 0)) ∧
    W.ownsRow w4.heap.size 40 4 ov s.2.2.length (s.2.2.flatMap edC) ∧ W.heap[G]? = some (.cells #[.string path] 9 (0, 0)) ∧ W.heap[G + 1]? = some (.cells #[.string to_] 9 (0, 0)) ∧ W.heap[G + 1 + 1 + 1]? = some (.cells #[.map (some (G + 1 + 1))] 89 (0, 0)) ∧
    W.heap[N + 1 + 1 + 1]? = some (.cells fnv 93 (0, 0)) ∧ W.heap[D1]? = some (.deferred (some [])) ∧ Ext w W ∧ w4.heap.size ≤ W.heap.size
theorem LoopB.ext {w w4 : World} {G N D1 k : Nat} {D : DataW Unit} {path to_ : ByteArray} {fnv : Array Value} {s : Nat × Nat × List Ed} {A B : World} (h : LoopB w w4 G N D1 k D path to_ fnv s A) (x : Ext A B) : LoopB w w4 G N D1 k D path to_ fnv s B := by
  obtain ⟨ov, h1, h2, h3, h4, h5, h6, h7, h8, h9, h10, h11, h12⟩ := h
  exact ⟨ov, ownsMapE h1 fun o ho => x.keeps ho, x.keeps h2, x.keeps h3, x.keeps h4, ownsRow_ext h5 x, x.keeps h6, x.keeps h7, x.keeps h8, x.keeps h9, x.keeps h10, h11.trans x, Nat.le_trans h12 x.size⟩
theorem LoopB.size {w w4 : World} {G N D1 k : Nat} {D : DataW Unit} {path to_ : ByteArray} {fnv : Array Value} {s : Nat × Nat × List Ed} {A : World} (h : LoopB w w4 G N D1 k D path to_ fnv s A) : w4.heap.size ≤ A.heap.size := by
  obtain ⟨ov, h1, h2, h3, h4, h5, h6, h7, h8, h9, h10, h11, h12⟩ := h
  exact h12
theorem LoopB.put {w w4 : World} {G N D1 k : Nat} {D : DataW Unit} {path to_ : ByteArray} {fnv : Array Value} {s : Nat × Nat × List Ed} {W : World} (h : LoopB w w4 G N D1 k D path to_ fnv s W) {l : Nat} {o o' : Obj} (hl : w4.heap.size ≤ l) (ho : W.heap[l]? = some o) (hc : o.isCells = false)
    (hw : w.heap.size ≤ w4.heap.size) (hm : G + 1 + 1 < w4.heap.size ∧ N + 1 + 1 + 1 < w4.heap.size ∧ D1 < w4.heap.size ∧ G + 1 + 1 + 1 < w4.heap.size) : LoopB w w4 G N D1 k D path to_ fnv s (W.putObj l o') := by
  obtain ⟨ov, h1, h2, h3, h4, h5, h6, h7, h8, h9, h10, h11, h12⟩ := h
  exact ⟨ov, ownsMapE h1 fun o ho => (put_otherG (by omega)).trans ho, (put_otherG (by omega)).trans h2, (put_otherG (by omega)).trans h3, (put_otherG (by omega)).trans h4, owns_putE h5 ho hc, (put_otherG (by omega)).trans h6, (put_otherG (by omega)).trans h7, (put_otherG (by omega)).trans h8, (put_otherG (by omega)).trans h9, (put_otherG (by omega)).trans h10, h11.grown (grownBy_putObj' W l o') (fun k e => by cases e; omega), by rw [put_size]; exact h12⟩
theorem own_cells {w : World} {base : Nat} {e : TypeId} {size : Nat} {v : Value} {n : Nat} {xs : List Value} (h : w.ownsRow base e size v n xs) {b : Nat} (hb : v.ownBlock = some b) : ∃ c t f, w.heap[b]? = some (.cells c t f) := by
  rcases h.2 with ⟨rfl, rfl⟩ | ⟨g', cap, cur, rfl, _, hh, _⟩
  · simp [Value.ownBlock] at hb
  · simp [Value.ownBlock] at hb
    subst hb
    exact ⟨_, _, _, hh⟩
theorem runP_hi : ∀ (k a t : Nat), ∀ p ∈ runP a t k, p.2 < t + k
  | 0, _, _, p, h => by cases h
  | k + 1, a, t, p, h => by
    rw [runP, List.mem_cons] at h
    rcases h with rfl | h
    · simp only; omega
    · have := runP_hi k _ _ p h; omega
theorem keptF_hi' (n : Nat) : ∀ (l : List Ed) (a t : Nat), okFrom n a l → ∀ p ∈ keptF n a t l, p.2 < t + (n - a) + 4096 * l.length
  | [], a, t, h, p, hp => by
    rw [keptF] at hp
    have := runP_hi _ _ _ p hp
    omega
  | e :: r, a, t, h, p, hp => by
    have hle := okFrom_le _ _ _ h
    obtain ⟨h1, h2, h3, h4, h5⟩ := h
    rw [keptF, List.mem_append] at hp
    rw [List.length_cons]
    rcases hp with hp | hp
    · have := runP_hi _ _ _ p hp
      omega
    · have ih := keptF_hi' n r _ (t + (e.at_.toNat - a) + e.text.size) h5 p hp
      omega
theorem keptF_hi (n : Nat) (l : List Ed) (a t : Nat) (h : okFrom n a l) (p : Nat × Nat) (hp : p ∈ keptF n a t l) : p.2 < t + n + 4096 * l.length := by have := keptF_hi' n l a t h p hp; omega
theorem results_t {P : Program} {fn : Func} {r : Tmp} (h : fn.results = #[.tmp r]) (tmps : Array Value) (w : World) : (results fn tmps).run P w = .ok (tmps.getD r undef) w := by
  simp [results, h]

theorem join_len (B l : List (Nat × Nat)) : (joinP B l).length ≤ l.length := List.length_filterMap_le _ _
section
variable {P : Program} {w : World}
theorem run_store_func (a : Addr) (f : Fn) (x y : Array Value) (m : Mode) : (store a (.func f x y) m).run P w = stored P w a (.func f x y) m := run_store P w a _ m rfl
end
attribute [local go_sem] run_store_func
theorem wfI (x : Nat) (h : x ≤ 4611686018427387904) : (Lit.int .i64 (x : Int)).wf = true := by
  simp [Lit.wf, IntKind.min, IntKind.max, IntKind.bits, IntKind.signed]
  omega
set_option maxHeartbeats 8000000 in
set_option maxRecDepth 100000 in
theorem bothC (w : World) (path from_ to_ : ByteArray) (m : Nat) (va vb : Value) (A B : List Ed) (hA : IsE w va A) (hB : IsE w vb B) (okA : okFrom from_.size 0 A) (okB : okFrom m 0 B) (sA : sepE A) (sB : sepE B) (lA : A.length ≤ 1000000) (lB : B.length ≤ 1000000)
    (hf : from_.size ≤ 50000) (hm : m ≤ 50000) (ht : to_.size ≤ 50000) (hlast : ∀ p ∈ keptF m 0 0 B, p.2 < to_.size) :
    Calls Tryd.prog 41 #[.string path, .string from_, .string to_, .int .i64 (m : Int), va, vb] w fun e w' => ∃ v, e = .returned v ∧ w'.ownsRow w.heap.size 40 4 v (bothL path to_.data.toList 0 0 (bothP from_.size m A B ++ [(from_.size, to_.size)])).length ((bothL path to_.data.toList 0 0 (bothP from_.size m A B ++ [(from_.size, to_.size)])).flatMap edC) ∧ Ext w w' := by
  have hmm := @run_makeMap Tryd.prog
  obtain ⟨aa, ca, rfl, _⟩ := hA.opened
  obtain ⟨ab, cb, rfl, _⟩ := hB.opened
  have HA := Lib.hid hA
  have HB := Lib.hid hB
  have HOA := Lib.hid okA
  have HOB := Lib.hid okB
  have HSA := Lib.hid sA
  have HSB := Lib.hid sB
  have HLA := Lib.hid hlast
  clear hA hB okA okB sA sB hlast
  obtain ⟨R, hR⟩ : ∃ R, bothL path to_.data.toList 0 0 (bothP from_.size m A B ++ [(from_.size, to_.size)]) = R := ⟨_, rfl⟩
  rw [hR]
  have HR := Lib.hid hR
  clear hR
  refine (callsIn_wide (n := 7)).1 ?_
  refine callsIn_of_wp_marks Tryd.func41 rfl trivial ?_ rfl
  simp only [Tryd.ntmps41, List.size_toArray, List.length_cons, List.length_nil, Nat.reduceAdd, Nat.reduceSub, Array.replicate_succ, Array.replicate_zero, List.push_toArray, List.append_toArray, List.nil_append, List.cons_append]
  refine wpIn_wide.2 ?_
  go_upto_region 2 with fail
  --REST
  obtain ⟨G, hG⟩ : ∃ G, w.heap.size = G := ⟨_, rfl⟩
  rw [hG]
  refine (fun (Rl : World → Prop) (h : Rl _) (k : ∀ W, Rl W → Code.wp _ _ _ _ W) => k _ h) (fun W => Ext w W ∧ W.heap.size = G + 4 ∧ W.heap[G]? = some (.cells #[.string path] 9 (0, 0)) ∧ W.heap[G + 1]? = some (.cells #[.string to_] 9 (0, 0)) ∧ W.ownsMap Tryd.prog 3 (plainElem (H := Unit) Tryd.prog 3) (G + 1 + 1) 0 (.map []) ∧ W.heap[G + 1 + 1 + 1]? = some (.cells #[.map (some (G + 1 + 1))] 89 (0, 0))) ⟨((((Ext.refl w).alloc _).alloc _).alloc _).alloc _, by simp [hG], blk_old (blk_old (blk_old (blk_new hG))), blk_old (blk_old (blk_new (by simp [hG]))), ?_, blk_new (by simp [hG])⟩ ?_
  · have h0 := World.ownsMap_made ((w.alloc (.cells #[.string path] 9)).alloc (.cells #[.string to_] 9)) Tryd.prog 3 (plainElem (H := Unit) Tryd.prog 3)
    have e : ((w.alloc (.cells #[.string path] 9)).alloc (.cells #[.string to_] 9)).heap.size = G + 1 + 1 := by simp [hG]
    rw [e] at h0
    exact ownsMapE h0 fun o ho => blk_old ho
  rintro w1 ⟨X1, hz1, bPA, bTO, own1, bSC⟩
  have HX1 := Lib.hid X1
  go_wp2_with fail
  refine Calls.mono (keptC w1 _ m B (HB.out.ext HX1.out)) ?_
  rintro e w2 ⟨KA, KB, rfl, x2, bKA, bKB, -, -⟩
  have hsz2 := x2.size
  have HX2 := Lib.hid (HX1.out.trans x2)
  have bPA := Lib.hid (x2.keeps bPA)
  have bTO := Lib.hid (x2.keeps bTO)
  have bSC := Lib.hid (x2.keeps bSC)
  have own2 := ownsMapE own1 fun o ho => x2.keeps ho
  have hKA := block_lt bKA
  have hKB := block_lt bKB
  have hsub : G + 4 ≤ w2.heap.size := by omega
  have it := kept_it 6 (by omega) w w2 KA KB m _ B (fun b => b < w2.heap.size ∧ b ≠ G + 1 + 1) HB.out HX2.out bKA bKB HOB.out HSB.out (by omega) lB (fun b hb => ⟨by omega, by omega⟩) ⟨hKA, fun e => by
    obtain ⟨es, c, hq⟩ := ownsMap_at own2
    rw [← e, bKA] at hq
    cases hq⟩ ⟨hKB, fun e => by
    obtain ⟨es, c, hq⟩ := ownsMap_at own2
    rw [← e, bKB] at hq
    cases hq⟩
  clear own1 X1 x2
  go_wp2_with fail
  refine wpIn_wide.1 (wp_rangeM (enc := kpE) 7 (by omega) (gf := 65) (lb := #[.pointer (some ⟨KB, 0, none⟩), .pointer (some ⟨KA, 0, none⟩)]) rfl (enters_of Tryd.func65 (by kernel_rfl) rfl) (fun _ => rfl) (xs := keptF m 0 0 B) (S := fun b => b < w2.heap.size ∧ b ≠ G + 1 + 1) (fun b hb => hb.1) it
    (fun pre W => ∃ D k, W.ownsMap Tryd.prog 3 (plainElem (H := Unit) Tryd.prog 3) (G + 1 + 1) k D ∧ k ≤ pre.length ∧ MapI D pre ∧ W.heap[G]? = some (.cells #[.string path] 9 (0, 0)) ∧ W.heap[G + 1]? = some (.cells #[.string to_] 9 (0, 0)) ∧ W.heap[G + 1 + 1 + 1]? = some (.cells #[.map (some (G + 1 + 1))] 89 (0, 0)) ∧ Ext w W ∧ w2.heap.size ≤ W.heap.size)
    (fun _ _ _ => False)
    (fun x a' W => a' = { tmps := #[Value.string path, Value.string from_, Value.string to_, Value.int IntKind.i64 (m : Int), Value.slice aa A.length ca, Value.slice ab B.length cb, Value.pointer (some ⟨G, 0, none⟩), undef, Value.pointer (some ⟨G + 1, 0, none⟩), undef, undef, undef, Value.slice none 0 0, Value.pointer (some ⟨G + 1 + 1 + 1, 0, none⟩), Value.int IntKind.i64 (x.1 : Int), Value.int IntKind.i64 (x.2 : Int), undef, undef, undef, undef, undef, undef, undef, undef, Value.map (some (G + 1 + 1)), Value.slice ab B.length cb, Value.int IntKind.i64 (m : Int), Value.func (Fn.func 65) #[] #[Value.pointer (some ⟨KB, 0, none⟩), Value.pointer (some ⟨KA, 0, none⟩)], Value.int IntKind.i64 (x.1 : Int), Value.int IntKind.i64 (x.2 : Int), undef, undef, undef, undef, undef, undef, undef, undef, undef, undef, undef, undef, undef, undef, undef, undef, undef, undef, undef, undef, undef, undef, undef, undef, undef, undef, undef, undef], defers := [] })
    ?ie ?is ?ip ?xp ?ap ?h0 ?assign ?body ?done ?stop)
  case ie =>
    rintro pre A B ⟨D, k, h1, h2, h3, h4, h5, h6, h7, h8⟩ x
    exact ⟨D, k, ownsMapE h1 fun o ho => x.keeps ho, h2, h3, x.keeps h4, x.keeps h5, x.keeps h6, h7.trans x, Nat.le_trans h8 x.size⟩
  case is =>
    rintro pre A ⟨D, k, h1, h2, h3, h4, h5, h6, h7, h8⟩
    exact h8
  case ip =>
    rintro pre W l o o' ⟨D, k, h1, h2, h3, h4, h5, h6, h7, h8⟩ hl ho hc
    exact ⟨D, k, ownsMapE h1 fun o ho => (put_otherG (by omega)).trans ho, h2, h3, (put_otherG (by omega)).trans h4, (put_otherG (by omega)).trans h5, (put_otherG (by omega)).trans h6, h7.grown (grownBy_putObj' W l o') (fun k e => by cases e; omega), by rw [put_size]; exact h8⟩
  case xp => intro c pre W l o o' h; exact h.elim
  case ap => intro x a' W l o o' h _ _ _; exact h
  case h0 => exact ⟨_, 0, own2, Nat.le_refl _, MapI.empty, bPA.out, bTO.out, bSC.out, HX2.out, Nat.le_refl _⟩
  case assign =>
    intro l x W K hws hK
    dsimp only [kpE]
    gi_wp2
    exact hK _ _ (Ext.refl W) rfl
  case body =>
    rintro l pre x a' W hpx hws ⟨D, k, own, hk, hM, b4, b5, b6, X, hs⟩ rfl
    have hris := (ris_kept _ _ _ _ HOB.out).sublist hpx.sublist
    have hfr := ris_fresh hris
    have hlen := Nat.le_trans hpx.length_le (keptF_len m B 0 0 HOB.out)
    rw [List.length_append, List.length_singleton] at hlen
    obtain ⟨x1, x2⟩ := x
    dsimp only at hfr ⊢
    have hmem := hpx.subset (show (x1, x2) ∈ pre ++ [(x1, x2)] by simp)
    have hb1 := keptF_lt _ _ _ _ HOB.out _ hmem
    have hb2 := HLA.out _ hmem
    dsimp only at hb1 hb2
    have c6 := blkA b6
    have hkey : keyOf Tryd.prog 3 (.int .i64 (x1 : Int)) = some (Ki x1) := keyOf_int_mk Tryd.underlying3 (wfI _ (by omega))
    have hval := plainElem_int (H := Unit) (P := Tryd.prog) (e := 3) (q := .i64) (a := (x2 : Int)) Tryd.underlying3 (wfI _ (by omega))
    gi_wp2_with (first | (gi_at_mapUpdate; refine wpListIn_mapUpdate_in _ rfl _ _ _ 89 rfl 3 3 mapLawI Tryd.underlying89 _ (G + 1 + 1) k _ rfl own (by unfold maxLen; omega) _ _ _ rfl rfl hkey _ [] hval ?_; intro w7 own7 tu7))
    have kp7 : ∀ b o, b ≠ G + 1 + 1 → W.heap[b]? = some o → w7.heap[b]? = some o := fun b o hb ho => grown_other tu7.grown ho hb
    refine ⟨KeepM.turned tu7, fun b hb => tu7.grown.block b (by have := hb.1; omega) (fun e => hb.2 (Option.some.inj e)), ?_⟩
    exact ⟨_, k + 1, own7, by rw [List.length_append, List.length_singleton]; omega, hM.put (x1, x2) hfr, kp7 _ _ (by omega) b4, kp7 _ _ (by omega) b5, kp7 _ _ (by omega) b6, X.grown tu7.grown (fun k e => by cases e; omega), Nat.le_trans hs tu7.grown.size⟩
  case done =>
    rintro D1 W hD1 ⟨D, k, own, hk, hM, b4, b5, b6, X, hs⟩ hK1
    clear it own2 bKA bKB
    go_upto_region 9 with fail
    obtain ⟨N, hN⟩ : ∃ N, W.heap.size = N := ⟨_, rfl⟩
    rw [hN]
    have hNs : G + 4 ≤ N := by omega
    refine (fun (Rl : World → Prop) (h : Rl _) (k : ∀ W, Rl W → Code.wp _ _ _ _ W) => k _ h) (fun V => Ext W V ∧ V.heap.size = N + 4 ∧ V.heap[N]? = some (.cells #[.slice none 0 0] 25 (0, 0)) ∧ V.heap[N + 1]? = some (.cells #[.int .i64 ((0 : Nat) : Int)] 3 (0, 0)) ∧ V.heap[N + 1 + 1]? = some (.cells #[.int .i64 ((0 : Nat) : Int)] 3 (0, 0)) ∧ V.heap[N + 1 + 1 + 1]? = some (.cells #[.func (.func 60) #[] #[.pointer (some ⟨N + 1, 0, none⟩), .pointer (some ⟨N + 1 + 1, 0, none⟩), .pointer (some ⟨N, 0, none⟩), .pointer (some ⟨G, 0, none⟩), .pointer (some ⟨G + 1, 0, none⟩)]] 93 (0, 0))) ⟨((((Ext.refl W).alloc _).alloc _).alloc _).alloc _, by simp [hN], blk_old (blk_old (blk_old (blk_new hN))), blk_old (blk_old (blk_new (by simp [hN]))), blk_old (blk_new (by simp [hN])), blk_new (by simp [hN])⟩ ?_
    rintro w3 ⟨x3, hz3, bO, bA, bS, bF⟩
    have X3 := X.trans x3
    have b4 := x3.keeps b4
    have b5 := x3.keeps b5
    have b6 := x3.keeps b6
    have hK1 := x3.keeps hK1
    have own := ownsMapE own fun o ho => x3.keeps ho
    have hD1N := block_lt hK1
    go_wp2_with fail
    refine Calls.mono (keptC w3 _ from_.size A (HA.out.ext X3)) ?_
    rintro e w4 ⟨LA, LB, rfl, x4, bLA, bLB, hLA1, hLB1⟩
    have hsz4 := x4.size
    have X4 := X3.trans x4
    have b4 := x4.keeps b4
    have b5 := x4.keeps b5
    have b6 := x4.keeps b6
    have hK1 := x4.keeps hK1
    have own := ownsMapE own fun o ho => x4.keeps ho
    have bO := x4.keeps bO
    have bA := x4.keeps bA
    have bS := x4.keeps bS
    have bF := x4.keeps bF
    have hLA := block_lt bLA
    have hLB := block_lt bLB
    have it := kept_it 6 (by omega) w w4 LA LB from_.size _ A (fun b => b < w4.heap.size ∧ b ≠ N ∧ b ≠ N + 1 ∧ b ≠ N + 1 + 1) HA.out X4 bLA bLB HOA.out HSA.out (by omega) lA (fun b hb => ⟨by omega, by omega, by omega, by omega⟩) ⟨hLA, by omega, by omega, by omega⟩ ⟨hLB, by omega, by omega, by omega⟩
    have hkl := keptF_len from_.size A 0 0 HOA.out
    have hrA := ris_kept from_.size A 0 0 HOA.out
    have hrB := ris_kept m B 0 0 HOB.out
    clear bLA bLB X3 x3 x4
    have HRA := Lib.hid hrA
    have HRB := Lib.hid hrB
    have HM := Lib.hid hM
    clear hrA hrB hM
    go_wp2_with fail
    refine wpIn_wide.1 (wp_rangeM (enc := kpE) 7 (by omega) (gf := 65) (lb := #[.pointer (some ⟨LB, 0, none⟩), .pointer (some ⟨LA, 0, none⟩)]) rfl (enters_of Tryd.func65 (by kernel_rfl) rfl) (fun _ => rfl) (xs := keptF from_.size 0 0 A) (S := fun b => b < w4.heap.size ∧ b ≠ N ∧ b ≠ N + 1 ∧ b ≠ N + 1 + 1) (fun b hb => hb.1) it
      (fun pre W => LoopB w w4 G N D1 k D path to_ #[.func (.func 60) #[] #[.pointer (some ⟨N + 1, 0, none⟩), .pointer (some ⟨N + 1 + 1, 0, none⟩), .pointer (some ⟨N, 0, none⟩), .pointer (some ⟨G, 0, none⟩), .pointer (some ⟨G + 1, 0, none⟩)]] (stB path to_.data.toList (0, 0, []) (joinP (keptF m 0 0 B) pre)) W)
      (fun _ _ _ => False)
      (fun x a' W => a' = { tmps := #[Value.string path, Value.string from_, Value.string to_, Value.int IntKind.i64 (m : Int), Value.slice aa A.length ca, Value.slice ab B.length cb, Value.pointer (some ⟨G, 0, none⟩), undef, Value.pointer (some ⟨G + 1, 0, none⟩), undef, undef, undef, Value.slice none 0 0, Value.pointer (some ⟨G + 1 + 1 + 1, 0, none⟩), undef, undef, Value.pointer (some ⟨N, 0, none⟩), Value.pointer (some ⟨N + 1, 0, none⟩), Value.pointer (some ⟨N + 1 + 1, 0, none⟩), Value.pointer (some ⟨N + 1 + 1 + 1, 0, none⟩), Value.int IntKind.i64 (x.1 : Int), Value.int IntKind.i64 (x.2 : Int), undef, undef, Value.map (some (G + 1 + 1)), Value.slice ab B.length cb, Value.int IntKind.i64 (m : Int), Value.func (Fn.func 65) #[] #[Value.pointer (some ⟨KB, 0, none⟩), Value.pointer (some ⟨KA, 0, none⟩)], undef, undef, undef, undef, undef, Value.func (Fn.func 60) #[] #[.pointer (some ⟨N + 1, 0, none⟩), .pointer (some ⟨N + 1 + 1, 0, none⟩), .pointer (some ⟨N, 0, none⟩), .pointer (some ⟨G, 0, none⟩), .pointer (some ⟨G + 1, 0, none⟩)], Value.slice aa A.length ca, Value.string from_, Value.int IntKind.i64 (from_.size : Int), Value.func (Fn.func 65) #[] #[Value.pointer (some ⟨LB, 0, none⟩), Value.pointer (some ⟨LA, 0, none⟩)], Value.int IntKind.i64 (x.1 : Int), Value.int IntKind.i64 (x.2 : Int), undef, undef, undef, undef, undef, undef, undef, undef, undef, undef, undef, undef, undef, undef, undef, undef, undef, undef], defers := [] })
      ?ie2 ?is2 ?ip2 ?xp2 ?ap2 ?h02 ?assign2 ?body2 ?done2 ?stop2)
    case ie2 => exact fun pre A B h x => h.ext x
    case is2 => exact fun pre A h => h.size
    case ip2 => exact fun pre W l o o' h hl ho hc => h.put hl ho hc (by omega) (by omega)
    case xp2 => intro c pre W l o o' h; exact h.elim
    case ap2 => intro x a' W l o o' h _ _ _; exact h
    case h02 => exact ⟨_, own, bO, bA, bS, World.ownsRow_nil _ _ _ _, b4, b5, b6, bF, hK1, X4, Nat.le_refl _⟩
    case assign2 =>
      intro l x W K hws hK
      dsimp only [kpE]
      gi_wp2
      exact hK _ _ (Ext.refl W) rfl
    case body2 =>
      rintro l pre x a' W hpx hws hL rfl
      obtain ⟨ov, h1, h2, h3, h4, h5, h6, h7, h8, h9, h10, h11, h12⟩ := hL
      have hmem := hpx.subset (show x ∈ pre ++ [x] by simp)
      have hpl := hpx.length_le
      rw [List.length_append, List.length_singleton] at hpl
      have hrj := join_ris HRB.out (HRA.out.sublist hpx.sublist)
      have hjs := joinP_snoc (keptF m 0 0 B) pre x
      have hjl := join_len (keptF m 0 0 B) pre
      have hsl := stB_len path to_.data.toList (joinP (keptF m 0 0 B) pre) (0, 0, [])
      obtain ⟨x1, y1⟩ := x
      have hb1 := keptF_lt _ _ _ _ HOA.out _ hmem
      have hb2 := keptF_hi _ _ _ _ HOA.out _ hmem
      dsimp only at hb1 hb2 hjs hsl ⊢
      have hkey : keyOf Tryd.prog 3 (.int .i64 (y1 : Int)) = some (Ki y1) := keyOf_int_mk Tryd.underlying3 (wfI _ (by omega))
      have hhas := HM.out.has y1
      have hval := HM.out.val y1
      have c8 := blkA h8
      have c9 := blkA h9
      cases hz : lookP (keptF m 0 0 B) y1 with
      | none =>
        rw [hz] at hhas hjs
        simp only [Option.isSome_none, Option.map_none, Option.toList_none, List.append_nil] at hhas hjs
        clear hval hrj
        gi_wp2_with (first | (gi_at_lookup; refine wpListIn_lookup_own_ok_int _ rfl _ _ 89 rfl 3 3 .i64 mapLawI Tryd.underlying89 Tryd.underlying3 (zeroI' _) (G + 1 + 1) k D rfl h1 _ _ rfl hkey ?_; intro c hat hwc; rw [hhas]))
        refine ⟨KeepM.of (KeepO.refl _), KeepS.refl _ _, ?_⟩
        dsimp only
        rw [hjs]
        exact ⟨ov, h1, h2, h3, h4, h5, h6, h7, h8, h9, h10, h11, h12⟩
      | some z =>
        have hzm := HLA.out _ (look_mem hz)
        dsimp only at hzm
        rw [hz] at hhas hjs
        simp only [Option.isSome_some, Option.map_some, Option.toList_some] at hhas hjs
        have hv2 := hval z hz
        rw [hjs] at hrj
        have hle := stB_le path to_.data.toList (x1, z) (joinP (keptF m 0 0 B) pre) (0, 0, []) hrj (fun q r _ => ⟨Nat.zero_le _, Nat.zero_le _⟩)
        have hsn := stB_snoc path to_.data.toList (x1, z) (joinP (keptF m 0 0 B) pre) (0, 0, [])
        rw [← hjs] at hsn
        have HSN := Lib.hid hsn
        dsimp only at hle
        clear hval hrj hjs hsn
        generalize stB path to_.data.toList (0, 0, []) (joinP (keptF m 0 0 B) pre) = SB at *
        obtain ⟨sa, ss, L⟩ := SB
        dsimp only at h3 h4 h5 hle hsl HSN
        have hw4 := X4.size
        have C := partC w W (N + 1) (N + 1 + 1) N G (G + 1) w4.heap.size sa ss x1 z ov L path to_ h3 h4 h2 h6 h7 h5 (by simp at hsl; omega) h11 (by omega) h12 (by omega) (by omega) (by omega) (by omega) hle.1 (by omega) hle.2 (by omega) (by omega)
        have HC := Lib.hid C
        clear C
        gi_wp2_with (first | (gi_at_lookup; refine wpListIn_lookup_own_ok_int _ rfl _ _ 89 rfl 3 3 .i64 mapLawI Tryd.underlying89 Tryd.underlying3 (zeroI' _) (G + 1 + 1) k D rfl h1 _ _ rfl hkey ?_; intro c hat hwc; rw [hhas]; rw [hv2] at hat; obtain rfl : (z : Int) = c := (by injection hat with hat; injection hat)))
        refine ⟨trivial, (CallsIn.inRound l ((callsIn_wide (n := 4)).2 HC.out)).mono ?_⟩
        rintro e W' ⟨rfl, ov', e1, e2, e3, e4, e5, e6, e7⟩
        gi_wp2
        have nown : ∀ b c t f, W.heap[b]? = some (.cells c t f) → t ≠ 40 → ov.ownBlock ≠ some b := fun b c t f hb ht => own_neT h5 hb ht
        have nobj : ∀ (b : Nat) (o : Obj), W.heap[b]? = some o → o.isCells = false → b ≠ N + 1 ∧ b ≠ N + 1 + 1 ∧ b ≠ N ∧ ov.ownBlock ≠ some b := fun b o hb hc => by
          refine ⟨fun q => ?_, fun q => ?_, fun q => ?_, fun q => ?_⟩
          · subst q; rw [h3] at hb; cases hb; simp [Obj.isCells] at hc
          · subst q; rw [h4] at hb; cases hb; simp [Obj.isCells] at hc
          · subst q; rw [h2] at hb; cases hb; simp [Obj.isCells] at hc
          · obtain ⟨c, t, f, hh⟩ := own_cells h5 q
            rw [hh] at hb; cases hb; simp [Obj.isCells] at hc
        have kobj : ∀ (b : Nat) (o : Obj), W.heap[b]? = some o → o.isCells = false → W'.heap[b]? = some o := fun b o hb hc => by
          obtain ⟨q1, q2, q3, q4⟩ := nobj b o hb hc
          exact e6 b o hb q1 q2 q3 q4
        refine ⟨fun b o hb hc _ => kobj b o hb hc, fun b hb => ?_, ?_⟩
        · obtain ⟨hb1, hb2, hb3, hb4⟩ := hb
          have hlt : b < W.heap.size := by omega
          have := e6 b _ (Array.getElem?_eq_getElem hlt) hb3 hb4 hb2 (fun q => by have := (h5.lt b q).1; omega)
          rw [this, Array.getElem?_eq_getElem hlt]
        · dsimp only
          rw [HSN.out]
          refine ⟨ov', ownsMapE h1 fun o ho => ?_, e3, e1, e2, e4, e6 _ _ h6 (by omega) (by omega) (by omega) (nown _ _ _ _ h6 (by decide)), e6 _ _ h7 (by omega) (by omega) (by omega) (nown _ _ _ _ h7 (by decide)), e6 _ _ h8 (by omega) (by omega) (by omega) (nown _ _ _ _ h8 (by decide)), e6 _ _ h9 (by omega) (by omega) (by omega) (nown _ _ _ _ h9 (by decide)), kobj _ _ h10 rfl, e5, Nat.le_trans h12 e7⟩
          obtain ⟨es, cl, hm⟩ := ownsMap_at h1
          rw [hm] at ho
          cases ho
          exact kobj _ _ hm rfl
    case done2 =>
      rintro D2 W hD2 ⟨ov, h1, h2, h3, h4, h5, h6, h7, h8, h9, h10, h11, h12⟩ hK2
      have hjl := join_len (keptF m 0 0 B) (keptF from_.size 0 0 A)
      have hsl := stB_len path to_.data.toList (joinP (keptF m 0 0 B) (keptF from_.size 0 0 A)) (0, 0, [])
      have hall : ∀ p ∈ joinP (keptF m 0 0 B) (keptF from_.size 0 0 A), p.1 < from_.size ∧ p.2 < to_.size := fun p hp => by
        obtain ⟨q, hq, e⟩ := List.mem_filterMap.1 hp
        cases hz : lookP (keptF m 0 0 B) q.2 with
        | none => rw [hz] at e; cases e
        | some z =>
          rw [hz] at e
          simp only [Option.map_some, Option.some.injEq] at e
          subst e
          exact ⟨(keptF_lt _ _ _ _ HOA.out _ hq).1, HLA.out (q.2, z) (look_mem hz)⟩
      have hrj : Ris (joinP (keptF m 0 0 B) (keptF from_.size 0 0 A) ++ [(from_.size, to_.size)]) := List.pairwise_append.2 ⟨join_ris HRB.out HRA.out, List.pairwise_singleton _ _, fun p hp q hq => by
        rw [List.mem_singleton.1 hq]
        exact hall p hp⟩
      have hle := stB_le path to_.data.toList (from_.size, to_.size) _ (0, 0, []) hrj (fun q r _ => ⟨Nat.zero_le _, Nat.zero_le _⟩)
      have hsn := stB_snoc path to_.data.toList (from_.size, to_.size) (joinP (keptF m 0 0 B) (keptF from_.size 0 0 A)) (0, 0, [])
      have hRR := HR.out
      have hbo := stB_both path to_.data.toList (joinP (keptF m 0 0 B) (keptF from_.size 0 0 A) ++ [(from_.size, to_.size)]) 0 0 []
      rw [List.nil_append, show joinP (keptF m 0 0 B) (keptF from_.size 0 0 A) = bothP from_.size m A B from rfl, hRR] at hbo
      rw [show joinP (keptF m 0 0 B) (keptF from_.size 0 0 A) = bothP from_.size m A B from rfl] at hsn hle hsl h3 h4 h5 hjl
      rw [hsn] at hbo
      dsimp only at hbo hle hsl
      have HBO := Lib.hid hbo
      clear hbo hsn hRR hrj hall
      generalize stB path to_.data.toList (0, 0, []) (bothP from_.size m A B) = SB at *
      obtain ⟨sa, ss, L⟩ := SB
      dsimp only at h3 h4 h5 hle hsl HBO
      have hw4 := X4.size
      have C := partC w W (N + 1) (N + 1 + 1) N G (G + 1) w4.heap.size sa ss from_.size to_.size ov L path to_ h3 h4 h2 h6 h7 h5 (by simp at hsl; omega) h11 (by omega) h12 (by omega) (by omega) (by omega) (by omega) hle.1 (by omega) hle.2 (by omega) (by omega)
      have c7 := blkA h7
      have c9 := blkA h9
      go_wp2_with fail
      refine Calls.mono C ?_
      rintro e W' ⟨rfl, ov', e1, e2, e3, e4, e5, e6, e7⟩
      have cO := blkA e3
      have k1 : W'.heap[D1]? = some (.deferred (some [])) := e6 _ _ h10 (fun q => by subst q; rw [h3] at h10; cases h10) (fun q => by subst q; rw [h4] at h10; cases h10) (fun q => by subst q; rw [h2] at h10; cases h10) (fun q => by obtain ⟨c, t, f, hh⟩ := own_cells h5 q; rw [hh] at h10; cases h10)
      have k2 : W'.heap[D2]? = some (.deferred (some [])) := e6 _ _ hK2 (fun q => by subst q; rw [h3] at hK2; cases hK2) (fun q => by subst q; rw [h4] at hK2; cases hK2) (fun q => by subst q; rw [h2] at hK2; cases hK2) (fun q => by obtain ⟨c, t, f, hh⟩ := own_cells h5 q; rw [hh] at hK2; cases hK2)
      clear C h1 c7 c9 cO
      have cO := blkA e3
      go_wp2_with fail
      have k1' : (W'.putObj D2 (.deferred none)).heap[D1]? = some (.deferred (some [])) := (put_otherG (by omega)).trans k1
      have X5 : Ext w (W'.putObj D2 (.deferred none)) := e5.grown (grownBy_putObj' W' D2 _) (fun k e => by cases e; omega)
      have X6 : Ext w ((W'.putObj D2 (.deferred none)).putObj D1 (.deferred none)) := X5.grown (grownBy_putObj' _ D1 _) (fun k e => by cases e; omega)
      refine ⟨by simp, .inl ⟨_, _, rfl, run_takeDeferred k2, by simp, .inl ⟨_, _, rfl, run_takeDeferred k1', ?_⟩⟩⟩
      refine ⟨_, results_t rfl _ _, ?_⟩
      refine ⟨_, rfl, ?_, X6⟩
      rw [← HBO.out]
      exact ownsRow_base (owns_putE (owns_putE e4 k2 rfl) k1' rfl) (by omega)
    case stop2 => intro D c pre W _ _ h _; exact h.elim
  case stop => intro D c pre W _ _ h _; exact h.elim
end Go.Proofs.YtgcbkhmaabmdjaaDoor

namespace Go.Proofs.YtgcbkhmaabmdjaaDoor
open Go.RowKit
set_option linter.unusedVariables false
set_option linter.unusedSimpArgs false

theorem upd_flOkE {fs : List Fl} {l : List Ed} (hf : ∀ f ∈ fs, flOk f) (h : longB (fs.map (updF l)) = false) : ∀ f ∈ fs.map (updF l), flOk f := by
  intro f hfm
  have := long_each h f hfm
  obtain ⟨g, hg, rfl⟩ := List.mem_map.1 hfm
  exact ⟨(hf g hg).1, by omega⟩
theorem owns_isFE {w : World} {base : Nat} {v : Value} {l : List Fl} (h : w.ownsRow base 42 2 v l.length (l.flatMap flC)) (ho : ∀ f ∈ l, flOk f) : IsF w v l := ⟨IsSl.of_owns h, ho⟩
theorem apply_errE {fs : List Fl} {l : List Ed} (h : (applyL fs l).2 ≠ 0) : (applyL fs l).1 = [] := by
  unfold applyL at h ⊢
  split
  · rfl
  · split
    · rfl
    · split
      · rfl
      · split
        · rfl
        · split
          · rfl
          · rename_i h1 h2 h3 h4 h5
            rw [if_neg h1, if_neg h2, if_neg h3, if_neg h4, if_neg h5] at h
            exact absurd rfl h
theorem kept_last {s : List UInt8} {l : List Ed} (h : okFrom s.length 0 l) : ∀ p ∈ keptF s.length 0 0 l, p.2 < (doneFrom s 0 l).length := fun p hp => by
  rw [← kp_plain s l h] at hp
  have := kp_ge _ _ p hp
  rw [doB_len, plainN_fst] at this
  omega
theorem thenE_len (a b : List Ed) (f : Fl) {fs : List Fl} (h : Both fs a b f) : (thenE a b f).length ≤ 4097 := by
  unfold thenE
  have : ∀ (b : List (UInt8 × Int)) (n next : Nat) (fresh : List UInt8), (changeL f.path n next fresh b).length ≤ b.length + 1 := by
    intro b
    induction b with
    | nil => intro n next fresh; rw [changeL]; unfold chgE; split <;> simp
    | cons x b ih =>
      intro n next fresh
      rw [changeL, List.length_cons]
      split
      · have := ih n next (fresh ++ [x.1]); omega
      · have h1 := ih n (x.2.toNat + 1) []
        have h2 : (chgE f.path next x.2.toNat fresh).length ≤ 1 := by unfold chgE; split <;> simp
        rw [List.length_append]
        omega
  have h1 := this (bytesE a b f) f.text.data.toList.length 0 []
  have := h.len
  have := h.le
  omega
theorem edC_all (l : List Ed) : ∀ u ∈ l.flatMap edC, u.oneCell' = true := fun u hu => by
  obtain ⟨e, _, h⟩ := List.mem_flatMap.1 hu
  exact edC_one1 e u h
/-- What edit.both answers is the change. -/
theorem both_then {fs : List Fl} {a b : List Ed} {f : Fl} (h : Both fs a b f) :
    bothL f.path (updF b (updF a f)).text.data.toList 0 0 (bothP f.text.size (updF a f).text.size (ofL a f.path) (ofL b f.path) ++ [(f.text.size, (updF b (updF a f)).text.size)]) = thenE a b f := by
  have h1 := both_kp f.text.data.toList (ofL a f.path) (ofL b f.path) h.okA h.okB
  rw [h.mid, ba_len] at h1
  rw [h1]
  unfold thenE
  have hl : (bytesE a b f).length = ((bytesE a b f).map Prod.fst).length := (List.length_map ..).symm
  rw [change_both f.path _ ((bytesE a b f).map Prod.fst) (bytesE a b f) 0 0 0 [] rfl (by simp) (by omega) (by omega), bytes_fst, ba_len, ba_len]
  unfold bytesE
  rw [ba_len]
theorem then_take {fs : List Fl} {a b : List Ed} {k : Nat} (h : k < fs.length) : thenL (fs.take (k + 1)) a b = thenL (fs.take k) a b ++ thenE a b fs[k] := by
  unfold thenL
  rw [List.take_succ_eq_append_getElem h, List.flatMap_append]
  simp
def ThEnd (D : List Ed × Int) (w : World) (e : Ending) (w' : World) : Prop := ∃ v', e = .returned (.tuple #[v', .int .i64 D.2]) ∧ w'.ownsRow w.heap.size 40 4 v' D.1.length (D.1.flatMap edC) ∧ Ext w w'
theorem th_err {w w' : World} (x : Ext w w') (E : Int) : ThEnd ([], E) w (.returned (.tuple #[.slice none 0 0, .int .i64 E])) w' := ⟨_, rfl, World.ownsRow_nil _ _ _ _, x⟩
set_option maxHeartbeats 8000000 in
set_option maxRecDepth 100000 in
theorem editThen (w : World) (v : Value) (fs : List Fl) (va vb : Value) (a b : List Ed) (hF : IsF w v fs) (hA : IsE w va a) (hB : IsE w vb b) (lA : a.length ≤ 1000000) (lB : b.length ≤ 1000000) :
    Calls Tryd.prog 22 #[.agg #[v], va, vb] w (ThEnd (thenR fs a b) w) := by
  obtain ⟨zE, tyE⟩ := tyEd
  have b0 := heap_alloc_new w (.cells #[v] 24)
  have X0 : Ext w (w.alloc (.cells #[v] 24)) := (Ext.refl w).alloc _
  have HF := Lib.hid (hF.ext X0)
  have HA := Lib.hid (hA.ext X0)
  have HB := Lib.hid (hB.ext X0)
  obtain ⟨ao, cap, rfl, _, _, _, _⟩ := hF.opened
  clear hF hA hB
  obtain ⟨R, hR⟩ : ∃ R, thenR fs a b = R := ⟨_, rfl⟩
  rw [hR]
  unfold thenR at hR
  have HR := Lib.hid hR
  clear hR
  cases hca : chk a with
  | false =>
    have hRe : R = ([], 280) := by rw [← HR.out, hca]; rfl
    subst hRe
    have C := editCheck (w.alloc (.cells #[.slice ao fs.length cap] 24)) _ a HA.out
    rw [hca] at C
    go_enter Tryd.func22, Tryd.ntmps22
    go_wp2_with fail
    refine Calls.mono C ?_
    rintro e w1 ⟨rfl, x1⟩
    go_wp2_with fail
    go_ret2
    exact th_err (X0.trans x1) 280
  | true =>
    have C := editCheck (w.alloc (.cells #[.slice ao fs.length cap] 24)) _ a HA.out
    rw [hca] at C
    have HCA := Lib.hid hca
    cases hcb : chk b with
    | false =>
      have hRe : R = ([], 280) := by rw [← HR.out, hca, hcb]; rfl
      subst hRe
      go_enter Tryd.func22, Tryd.ntmps22
      go_wp2_with fail
      refine Calls.mono C ?_
      rintro e w1 ⟨rfl, x1⟩
      have C2 := editCheck w1 _ b (HB.out.ext x1)
      rw [hcb] at C2
      go_wp2_with fail
      refine Calls.mono C2 ?_
      rintro e w2 ⟨rfl, x2⟩
      go_wp2_with fail
      go_ret2
      exact th_err ((X0.trans x1).trans x2) 280
    | true =>
      have hRe : R = if (applyL fs a).2 ≠ 0 then ([], (applyL fs a).2) else if (applyL (fs.map (updF a)) b).2 ≠ 0 then ([], (applyL (fs.map (updF a)) b).2) else (thenL fs a b, 0) := by rw [← HR.out, hca, hcb]; rfl
      have HR := Lib.hid hRe
      have HCB := Lib.hid hcb
      clear hRe hca
      go_enter Tryd.func22, Tryd.ntmps22
      go_wp2_with fail
      refine Calls.mono C ?_
      rintro e w1 ⟨rfl, x1⟩
      have C2 := editCheck w1 _ b (HB.out.ext x1)
      rw [hcb] at C2
      go_wp2_with fail
      refine Calls.mono C2 ?_
      rintro e w2 ⟨rfl, x2⟩
      have X2 := (X0.trans x1).trans x2
      have b2 := (x1.trans x2).keeps b0
      replace HF := Lib.hid (HF.out.ext (x1.trans x2))
      replace HA := Lib.hid (HA.out.ext (x1.trans x2))
      replace HB := Lib.hid (HB.out.ext (x1.trans x2))
      clear x1 x2 C C2 b0 X0 hcb
      go_wp2_with ((with_reducible refine at_load 24 (.tmp 3) ?_); refine wpl_load (by rfl) 24 (.tmp 3) rfl w.heap.size (by rfl) 24 #[.slice ao fs.length cap] (0, 0) _ b2 Tryd.underlying24 rfl (info1 _) ?_)
      refine Calls.mono (editApply _ _ fs _ a HF.out HA.out lA) ?_
      rintro e w3 ⟨v3, rfl, own3, x3⟩
      obtain ⟨D, hD⟩ : ∃ D, applyL fs a = D := ⟨_, rfl⟩
      rw [hD] at own3 ⊢
      have HAP := Lib.hid (fun h => @apply_ok fs a h)
      have HD := Lib.hid hD
      obtain ⟨_, a3, c3, rfl, _⟩ := IsSl.of_owns own3
      have X3 := X2.trans x3
      by_cases hz : D.2 = 0
      · have hz2 : (D.2 != 0) = false := by rw [hz]; rfl
        obtain ⟨hc1, hr1, hh1, hfit1, hlong1, hsum1, he1⟩ := HAP.out (by rw [hD]; exact hz)
        have hDe : D = (fs.map (updF a), 0) := by rw [← hD]; exact he1
        have hz0 : (applyL fs a).2 = 0 := by rw [hD]; exact hz
        have HZ := Lib.hid hz0
        subst hDe
        dsimp only at own3 ⊢
        have okS := upd_flOkE HF.out.ok hlong1
        have IS := owns_isFE own3 okS
        have hlS : (fs.map (updF a)).length = fs.length := List.length_map ..
        rw [hlS] at IS ⊢
        have bS := heap_alloc_new w3 (.cells #[.slice a3 fs.length c3] 24)
        have xS : Ext w3 (w3.alloc (.cells #[.slice a3 fs.length c3] 24)) := (Ext.refl w3).alloc _
        replace IS := IS.ext xS
        replace HF := Lib.hid (HF.out.ext (x3.trans xS))
        replace HA := Lib.hid (HA.out.ext (x3.trans xS))
        replace HB := Lib.hid (HB.out.ext (x3.trans xS))
        have b4 := (x3.trans xS).keeps b2
        have X4 := X3.trans xS
        have HR := Lib.hid (show R = if (applyL (fs.map (updF a)) b).2 ≠ 0 then ([], (applyL (fs.map (updF a)) b).2) else (thenL fs a b, 0) by rw [HR.out, if_neg (by rw [hz0]; simp)])
        clear hD HD HAP hc1 hh1 hfit1 hsum1 he1 hz hz0 own3 X3 X2 b2 x3 xS hz2
        go_upto_region 6 with fail
        generalize w3.alloc (.cells #[.slice a3 fs.length c3] 24) = w4 at *
        generalize w3.heap.size = SB at *
        go_wp2_with ((with_reducible refine at_load 24 (.tmp 8) ?_); refine wpl_load (by rfl) 24 (.tmp 8) rfl SB (by rfl) 24 #[.slice a3 fs.length c3] (0, 0) _ bS Tryd.underlying24 rfl (info1 _) ?_)
        refine Calls.mono (editApply _ _ (fs.map (updF a)) _ b IS HB.out lB) ?_
        rintro e w5 ⟨v5, rfl, own5, x5⟩
        obtain ⟨D, hD⟩ : ∃ D, applyL (fs.map (updF a)) b = D := ⟨_, rfl⟩
        rw [hD] at own5 ⊢
        have HAP := Lib.hid (fun h => @apply_ok (fs.map (updF a)) b h)
        obtain ⟨_, a5, c5, rfl, _⟩ := IsSl.of_owns own5
        have X5 := X4.trans x5
        by_cases hz : D.2 = 0
        · have hz2 : (D.2 != 0) = false := by rw [hz]; rfl
          obtain ⟨hc1, hr2, hh1, hfit1, hlong2, hsum1, he1⟩ := HAP.out (by rw [hD]; exact hz)
          have hDe : D = ((fs.map (updF a)).map (updF b), 0) := by rw [← hD]; exact he1
          have hz0 : (applyL (fs.map (updF a)) b).2 = 0 := by rw [hD]; exact hz
          have hRe : R = (thenL fs a b, 0) := by rw [HR.out, if_neg (by rw [hz0]; simp)]
          subst hRe
          have HBO := Lib.hid (both_of HZ.out hz0)
          subst hDe
          dsimp only at own5 ⊢
          have okT := upd_flOkE okS hlong2
          have IT := owns_isFE own5 okT
          have hlT : ((fs.map (updF a)).map (updF b)).length = fs.length := by rw [List.length_map, List.length_map]
          rw [hlT] at IT ⊢
          have bT := heap_alloc_new w5 (.cells #[.slice a5 fs.length c5] 24)
          have xT : Ext w5 (w5.alloc (.cells #[.slice a5 fs.length c5] 24)) := (Ext.refl w5).alloc _
          replace IT := IT.ext xT
          replace IS := IS.ext (x5.trans xT)
          replace HF := Lib.hid (HF.out.ext (x5.trans xT))
          replace HA := Lib.hid (HA.out.ext (x5.trans xT))
          replace HB := Lib.hid (HB.out.ext (x5.trans xT))
          have b6 := (x5.trans xT).keeps b4
          have bS6 := (x5.trans xT).keeps bS
          have X6 := X5.trans xT
          have h16 := (repo_sum hr1).1
          clear hD HAP hc1 hh1 hfit1 hsum1 he1 hz hz0 own5 X5 X4 b4 bS x5 xT hz2 HR hlong1 hlong2 hr2 hr1
          go_upto_region 10 with fail
          have hG6 := X6.size
          generalize w5.alloc (.cells #[.slice a5 fs.length c5] 24) = w6 at *
          generalize w5.heap.size = TB at *
          have cR := (block_cell b6 0).trans (show _ = some (Value.slice ao fs.length cap) from rfl)
          go_wp2_with fail
          obtain ⟨ao', cap', e1, _, _, _, gF⟩ := HF.out.opened
          simp only [Value.slice.injEq] at e1
          obtain ⟨rfl, -, rfl⟩ := e1
          have GF := Lib.hid gF
          obtain ⟨as', cs', e1, hcs, _, _, gS⟩ := IS.opened
          simp only [Value.slice.injEq] at e1
          obtain ⟨rfl, -, rfl⟩ := e1
          have GS := Lib.hid gS
          obtain ⟨at', ct', e1, hct, _, _, gT⟩ := IT.opened
          simp only [Value.slice.injEq] at e1
          obtain ⟨rfl, -, rfl⟩ := e1
          have GT := Lib.hid gT
          have HLS := Lib.hid hlS
          have HLT := Lib.hid hlT
          have H16 := Lib.hid h16
          clear gF gS gT hcs hct hlS hlT h16 IS IT okS okT
          go_loopg [11, 43] fs.length (fun g s11 s43 wr => ∃ (k : Nat), k ≤ fs.length ∧ fs.length - k ≤ g ∧ s43 = .int .i64 (k : Int) ∧ (thenL (fs.take k) a b).length ≤ k * 4097 ∧ wr.ownsRow w6.heap.size 40 4 s11 (thenL (fs.take k) a b).length ((thenL (fs.take k) a b).flatMap edC) ∧ Ext w6 wr)
          case atStart => exact ⟨0, by omega, by omega, rfl, by simp [thenL], World.ownsRow_nil _ _ _ _, Ext.refl _⟩
          case round =>
            obtain ⟨k, hk, hgk, rfl, hlen, own, xr⟩ := hrel
            have HLEN := Lib.hid hlen
            clear hlen
            by_cases hlt : k < fs.length
            · obtain ⟨pb, o, rfl, e0, e1⟩ := GF.out k hlt
              obtain ⟨pbs, os, rfl, s0, s1⟩ := GS.out k (by rw [HLS.out]; exact hlt)
              obtain ⟨pbt, ot, rfl, t0, t1⟩ := GT.out k (by rw [HLT.out]; exact hlt)
              rw [List.getElem_map] at s1 t1
              rw [List.getElem_map] at t1
              have e0 := xr.cell e0
              have e1 := xr.cell e1
              have s1 := xr.cell s1
              have t1 := xr.cell t1
              have bS7 := xr.keeps bS6
              have bT7 := xr.keeps bT
              have HTK := Lib.hid (then_take (a := a) (b := b) hlt)
              have HBF := Lib.hid (HBO.out _ (List.getElem_mem hlt))
              have HTL := Lib.hid (thenE_len a b fs[k] HBF.out)
              clear s0 t0
              generalize fs[k] = f at *
              generalize thenL (fs.take k) a b = O at *
              have bF := heap_alloc_new wr (.cells #[.string f.path, .string f.text] 42)
              have xA : Ext wr (wr.alloc (.cells #[.string f.path, .string f.text] 42)) := (Ext.refl wr).alloc _
              have own := own.alloc (.cells #[.string f.path, .string f.text] 42)
              have s1 := xA.cell s1
              have t1 := xA.cell t1
              have bS7 := xA.keeps bS7
              have bT7 := xA.keeps bT7
              have x7 := xr.trans xA
              clear xA
              go_upto_region 13 with fail
              generalize wr.alloc (.cells #[.string f.path, .string f.text] 42) = w7 at *
              generalize wr.heap.size = FB at *
              have KF := fun v (h : Ext w7 v) => blkA (h.keeps bF)
              have KS := fun v (h : Ext w7 v) => blkA (h.keeps bS7)
              have KT := fun v (h : Ext w7 v) => blkA (h.keeps bT7)
              have KS1 := fun v (h : Ext w7 v) => h.cell s1
              have KT1 := fun v (h : Ext w7 v) => h.cell t1
              have hF := HBF.out
              have hst : (updF a f).text.data.toList.length = (updF a f).text.size := ba_len _
              have CB := fun (W : World) (x : Ext w6 W) (vA vB : Value) (hMA : IsE w6 vA (ofL a f.path)) (hMB : IsE w6 vB (ofL b f.path)) => bothC W f.path f.text (updF b (updF a f)).text (updF a f).text.size vA vB (ofL a f.path) (ofL b f.path) (hMA.ext x) (hMB.ext x) (by rw [← ba_len]; exact hF.okA) (by rw [← hF.mid]; exact hF.okB)
                (sepE_of _ (ofL_chk f.path HCA.out) fun e he => path_eq (ofL_mem e he)) (sepE_of _ (ofL_chk f.path HCB.out) fun e he => path_eq (ofL_mem e he)) (Nat.le_trans (ofL_len _ _) lA) (Nat.le_trans (ofL_len _ _) lB) (by have := hF.fle; omega) (by have := hF.mle; omega) (by have := hF.le; omega)
                (by
                  have h1 : okFrom (updF a f).text.data.toList.length 0 (ofL b f.path) := by rw [ba_len, ← hF.mid]; exact hF.okB
                  have := kept_last h1
                  rw [ba_len] at this
                  intro p hp
                  have h2 := this p hp
                  rw [upd_sz]
                  exact h2)
              rw [both_then hF] at CB
              have HCB2 := Lib.hid CB
              clear hF CB e0 e1
              refine wp_region_G 27 (fun v => Ext w7 v) (by kernel_rfl) fun wd hqd hHeld => ?_
              refine G_pure (i := 0) (u := ?vth0) rfl (by kernel_rfl) (by kernel_rfl) (by kernel_rfl) (fun _ _ _ h => h) (by decide) (Or.inl ⟨by rfl, ?hyth0⟩) hHeld ?_
              case hyth0 => (intro w hSw; go_simp; try with_reducible rfl)
              simp only [Act.put, List.setIfInBounds_toArray, List.set_cons_zero, List.set_cons_succ, List.getElem_toArray, List.getElem_cons_zero, List.getElem_cons_succ]
              refine G_pure (i := 1) (u := ?vth1) rfl (by kernel_rfl) (by kernel_rfl) (by kernel_rfl) (fun _ _ _ h => h) (by decide) (Or.inl ⟨by rfl, ?hyth1⟩) hHeld ?_
              case hyth1 => (intro w hSw; go_simp; try with_reducible rfl)
              simp only [Act.put, List.setIfInBounds_toArray, List.set_cons_zero, List.set_cons_succ, List.getElem_toArray, List.getElem_cons_zero, List.getElem_cons_succ]
              refine C_take (i := 2) (u := ?vth2) [26, 27] rfl (by kernel_rfl) (by kernel_rfl) (by kernel_rfl) (fun _ _ _ h => h) (by kernel_rfl) (by kernel_rfl) (by kernel_rfl) (by kernel_rfl) (Or.inl ⟨by rfl, ?hyth2⟩) hHeld ?_
              case hyth2 => (intro w hSw; have kk := KF _ hSw; go_simp; try with_reducible rfl)
              simp only [Act.put, List.setIfInBounds_toArray, List.set_cons_zero, List.set_cons_succ, List.getElem_toArray, List.getElem_cons_zero, List.getElem_cons_succ]
              refine G_pure (i := 3) (u := ?vth3) rfl (by kernel_rfl) (by kernel_rfl) (by kernel_rfl) (fun _ _ _ h => h) (by decide) (Or.inl ⟨by rfl, ?hyth3⟩) hHeld ?_
              case hyth3 => (intro w hSw; go_simp; try with_reducible rfl)
              simp only [Act.put, List.setIfInBounds_toArray, List.set_cons_zero, List.set_cons_succ, List.getElem_toArray, List.getElem_cons_zero, List.getElem_cons_succ]
              refine C_take (i := 4) (u := ?vth4) [26, 27] rfl (by kernel_rfl) (by kernel_rfl) (by kernel_rfl) (fun _ _ _ h => h) (by kernel_rfl) (by kernel_rfl) (by kernel_rfl) (by kernel_rfl) (Or.inl ⟨by rfl, ?hyth4⟩) hHeld ?_
              case hyth4 => (intro w hSw; have kk := KF _ hSw; go_simp; try with_reducible rfl)
              simp only [Act.put, List.setIfInBounds_toArray, List.set_cons_zero, List.set_cons_succ, List.getElem_toArray, List.getElem_cons_zero, List.getElem_cons_succ]
              refine G_pure (i := 5) (u := ?vth5) rfl (by kernel_rfl) (by kernel_rfl) (by kernel_rfl) (fun _ _ _ h => h) (by decide) (Or.inl ⟨by rfl, ?hyth5⟩) hHeld ?_
              case hyth5 => (intro w hSw; go_simp; try with_reducible rfl)
              simp only [Act.put, List.setIfInBounds_toArray, List.set_cons_zero, List.set_cons_succ, List.getElem_toArray, List.getElem_cons_zero, List.getElem_cons_succ]
              refine C_take (i := 6) (u := ?vth6) [8, 9, 10, 26, 27] rfl (by kernel_rfl) (by kernel_rfl) (by kernel_rfl) (fun _ _ _ h => h) (by kernel_rfl) (by kernel_rfl) (by kernel_rfl) (by kernel_rfl) (Or.inl ⟨by rfl, ?hyth6⟩) hHeld ?_
              case hyth6 => (intro w hSw; have kk := KT _ hSw; go_simp; try with_reducible rfl)
              simp only [Act.put, List.setIfInBounds_toArray, List.set_cons_zero, List.set_cons_succ, List.getElem_toArray, List.getElem_cons_zero, List.getElem_cons_succ]
              refine G_pure (i := 7) (u := ?vth7) rfl (by kernel_rfl) (by kernel_rfl) (by kernel_rfl) (fun _ _ _ h => h) (by decide) (Or.inl ⟨by rfl, ?hyth7⟩) hHeld ?_
              case hyth7 => (intro w hSw; go_simp; try with_reducible rfl)
              simp only [Act.put, List.setIfInBounds_toArray, List.set_cons_zero, List.set_cons_succ, List.getElem_toArray, List.getElem_cons_zero, List.getElem_cons_succ]
              refine G_pure (i := 8) (u := ?vth8) rfl (by kernel_rfl) (by kernel_rfl) (by kernel_rfl) (fun _ _ _ h => h) (by decide) (Or.inl ⟨by rfl, ?hyth8⟩) hHeld ?_
              case hyth8 => (intro w hSw; go_simp; try with_reducible rfl)
              simp only [Act.put, List.setIfInBounds_toArray, List.set_cons_zero, List.set_cons_succ, List.getElem_toArray, List.getElem_cons_zero, List.getElem_cons_succ]
              refine G_pure (i := 9) (u := ?vth9) rfl (by kernel_rfl) (by kernel_rfl) (by kernel_rfl) (fun _ _ _ h => h) (by decide) (Or.inl ⟨by rfl, ?hyth9⟩) hHeld ?_
              case hyth9 => (intro w hSw; go_simp; try with_reducible rfl)
              simp only [Act.put, List.setIfInBounds_toArray, List.set_cons_zero, List.set_cons_succ, List.getElem_toArray, List.getElem_cons_zero, List.getElem_cons_succ]
              refine C_take (i := 10) (u := ?vth10) [26, 27] rfl (by kernel_rfl) (by kernel_rfl) (by kernel_rfl) (fun _ _ _ h => h) (by kernel_rfl) (by kernel_rfl) (by kernel_rfl) (by kernel_rfl) (Or.inl ⟨by rfl, ?hyth10⟩) hHeld ?_
              case hyth10 => (intro w hSw; have kk := KT1 _ hSw; go_simp; try with_reducible rfl)
              simp only [Act.put, List.setIfInBounds_toArray, List.set_cons_zero, List.set_cons_succ, List.getElem_toArray, List.getElem_cons_zero, List.getElem_cons_succ]
              refine G_pure (i := 11) (u := ?vth11) rfl (by kernel_rfl) (by kernel_rfl) (by kernel_rfl) (fun _ _ _ h => h) (by decide) (Or.inl ⟨by rfl, ?hyth11⟩) hHeld ?_
              case hyth11 => (intro w hSw; go_simp; try with_reducible rfl)
              simp only [Act.put, List.setIfInBounds_toArray, List.set_cons_zero, List.set_cons_succ, List.getElem_toArray, List.getElem_cons_zero, List.getElem_cons_succ]
              refine C_take (i := 12) (u := ?vth12) [14, 15, 16, 17, 26, 27] rfl (by kernel_rfl) (by kernel_rfl) (by kernel_rfl) (fun _ _ _ h => h) (by kernel_rfl) (by kernel_rfl) (by kernel_rfl) (by kernel_rfl) (Or.inl ⟨by rfl, ?hyth12⟩) hHeld ?_
              case hyth12 => (intro w hSw; have kk := KS _ hSw; go_simp; try with_reducible rfl)
              simp only [Act.put, List.setIfInBounds_toArray, List.set_cons_zero, List.set_cons_succ, List.getElem_toArray, List.getElem_cons_zero, List.getElem_cons_succ]
              refine G_pure (i := 13) (u := ?vth13) rfl (by kernel_rfl) (by kernel_rfl) (by kernel_rfl) (fun _ _ _ h => h) (by decide) (Or.inl ⟨by rfl, ?hyth13⟩) hHeld ?_
              case hyth13 => (intro w hSw; go_simp; try with_reducible rfl)
              simp only [Act.put, List.setIfInBounds_toArray, List.set_cons_zero, List.set_cons_succ, List.getElem_toArray, List.getElem_cons_zero, List.getElem_cons_succ]
              refine G_pure (i := 14) (u := ?vth14) rfl (by kernel_rfl) (by kernel_rfl) (by kernel_rfl) (fun _ _ _ h => h) (by decide) (Or.inl ⟨by rfl, ?hyth14⟩) hHeld ?_
              case hyth14 => (intro w hSw; go_simp; try with_reducible rfl)
              simp only [Act.put, List.setIfInBounds_toArray, List.set_cons_zero, List.set_cons_succ, List.getElem_toArray, List.getElem_cons_zero, List.getElem_cons_succ]
              refine G_pure (i := 15) (u := ?vth15) rfl (by kernel_rfl) (by kernel_rfl) (by kernel_rfl) (fun _ _ _ h => h) (by decide) (Or.inl ⟨by rfl, ?hyth15⟩) hHeld ?_
              case hyth15 => (intro w hSw; go_simp; try with_reducible rfl)
              simp only [Act.put, List.setIfInBounds_toArray, List.set_cons_zero, List.set_cons_succ, List.getElem_toArray, List.getElem_cons_zero, List.getElem_cons_succ]
              refine C_take (i := 16) (u := ?vth16) [17, 26, 27] rfl (by kernel_rfl) (by kernel_rfl) (by kernel_rfl) (fun _ _ _ h => h) (by kernel_rfl) (by kernel_rfl) (by kernel_rfl) (by kernel_rfl) (Or.inl ⟨by rfl, ?hyth16⟩) hHeld ?_
              case hyth16 => (intro w hSw; have kk := KS1 _ hSw; go_simp; try with_reducible rfl)
              simp only [Act.put, List.setIfInBounds_toArray, List.set_cons_zero, List.set_cons_succ, List.getElem_toArray, List.getElem_cons_zero, List.getElem_cons_succ]
              refine C_take (i := 17) (u := ?vth17) [26, 27] rfl (by kernel_rfl) (by kernel_rfl) (by kernel_rfl) (fun _ _ _ h => h) (by kernel_rfl) (by kernel_rfl) (by kernel_rfl) (by kernel_rfl) (Or.inl ⟨by rfl, ?hyth17⟩) hHeld ?_
              case hyth17 => (intro w hSw; go_simp; try with_reducible rfl)
              simp only [Act.put, List.setIfInBounds_toArray, List.set_cons_zero, List.set_cons_succ, List.getElem_toArray, List.getElem_cons_zero, List.getElem_cons_succ]
              refine G_pure (i := 18) (u := ?vth18) rfl (by kernel_rfl) (by kernel_rfl) (by kernel_rfl) (fun _ _ _ h => h) (by decide) (Or.inl ⟨by rfl, ?hyth18⟩) hHeld ?_
              case hyth18 => (intro w hSw; go_simp; try with_reducible rfl)
              simp only [Act.put, List.setIfInBounds_toArray, List.set_cons_zero, List.set_cons_succ, List.getElem_toArray, List.getElem_cons_zero, List.getElem_cons_succ]
              refine G_pure (i := 19) (u := ?vth19) rfl (by kernel_rfl) (by kernel_rfl) (by kernel_rfl) (fun _ _ _ h => h) (by decide) (Or.inl ⟨by rfl, ?hyth19⟩) hHeld ?_
              case hyth19 => (intro w hSw; go_simp; try with_reducible rfl)
              simp only [Act.put, List.setIfInBounds_toArray, List.set_cons_zero, List.set_cons_succ, List.getElem_toArray, List.getElem_cons_zero, List.getElem_cons_succ]
              refine C_take (i := 20) (u := ?vth20) [21, 26, 27] rfl (by kernel_rfl) (by kernel_rfl) (by kernel_rfl) (fun _ _ _ h => h) (by kernel_rfl) (by kernel_rfl) (by kernel_rfl) (by kernel_rfl) (Or.inl ⟨by rfl, ?hyth20⟩) hHeld ?_
              case hyth20 => (intro w hSw; have kk := KF _ hSw; go_simp; try with_reducible rfl)
              simp only [Act.put, List.setIfInBounds_toArray, List.set_cons_zero, List.set_cons_succ, List.getElem_toArray, List.getElem_cons_zero, List.getElem_cons_succ]
              refine G_pure (i := 22) (u := ?vth22) rfl (by kernel_rfl) (by kernel_rfl) (by kernel_rfl) (fun _ _ _ h => h) (by decide) (Or.inl ⟨by rfl, ?hyth22⟩) hHeld ?_
              case hyth22 => (intro w hSw; go_simp; try with_reducible rfl)
              simp only [Act.put, List.setIfInBounds_toArray, List.set_cons_zero, List.set_cons_succ, List.getElem_toArray, List.getElem_cons_zero, List.getElem_cons_succ]
              refine G_pure (i := 23) (u := ?vth23) rfl (by kernel_rfl) (by kernel_rfl) (by kernel_rfl) (fun _ _ _ h => h) (by decide) (Or.inl ⟨by rfl, ?hyth23⟩) hHeld ?_
              case hyth23 => (intro w hSw; go_simp; try with_reducible rfl)
              simp only [Act.put, List.setIfInBounds_toArray, List.set_cons_zero, List.set_cons_succ, List.getElem_toArray, List.getElem_cons_zero, List.getElem_cons_succ]
              refine C_take (i := 24) (u := ?vth24) [25, 26, 27] rfl (by kernel_rfl) (by kernel_rfl) (by kernel_rfl) (fun _ _ _ h => h) (by kernel_rfl) (by kernel_rfl) (by kernel_rfl) (by kernel_rfl) (Or.inl ⟨by rfl, ?hyth24⟩) hHeld ?_
              case hyth24 => (intro w hSw; have kk := KF _ hSw; go_simp; try with_reducible rfl)
              simp only [Act.put, List.setIfInBounds_toArray, List.set_cons_zero, List.set_cons_succ, List.getElem_toArray, List.getElem_cons_zero, List.getElem_cons_succ]
              refine G_all (rs := [21]) (by kernel_rfl) (by simp) ?_
              intro i hi; obtain rfl : i = 21 := by simpa using hi
              refine wpOp_run rfl (by rfl) ?_
              go_simp
              refine Calls.mono (editOf2 w6 _ _ a f.path HA.out (HA.out.ext (x7.trans hHeld))) ?_
              rintro e w8 ⟨vA, rfl, hMA, x8⟩
              have hHeld := hHeld.trans x8
              first | refine ⟨fun _ => hHeld, ?_⟩ | refine ⟨hHeld, ?_⟩
              try simp only [Act.put, List.setIfInBounds_toArray, List.set_cons_zero, List.set_cons_succ, List.getElem_toArray, List.getElem_cons_zero, List.getElem_cons_succ]
              refine G_all (rs := [25]) (by kernel_rfl) (by simp) ?_
              intro i hi; obtain rfl : i = 25 := by simpa using hi
              refine wpOp_run rfl (by rfl) ?_
              go_simp
              refine Calls.mono (editOf2 w6 _ _ b f.path HB.out (HB.out.ext (x7.trans hHeld))) ?_
              rintro e w9 ⟨vB, rfl, hMB, x9⟩
              have hHeld := hHeld.trans x9
              first | refine ⟨fun _ => hHeld, ?_⟩ | refine ⟨hHeld, ?_⟩
              try simp only [Act.put, List.setIfInBounds_toArray, List.set_cons_zero, List.set_cons_succ, List.getElem_toArray, List.getElem_cons_zero, List.getElem_cons_succ]
              refine G_all (rs := [26]) (by kernel_rfl) (by simp) ?_
              intro i hi; obtain rfl : i = 26 := by simpa using hi
              refine wpOp_run rfl (by rfl) ?_
              go_simp
              refine Calls.mono (HCB2.out _ (x7.trans hHeld) vA vB hMA hMB) ?_
              rintro e w10 ⟨vR, rfl, ownR, x10⟩
              have hHeld := hHeld.trans x10
              first | refine ⟨fun _ => hHeld, ?_⟩ | refine ⟨hHeld, ?_⟩
              try simp only [Act.put, List.setIfInBounds_toArray, List.set_cons_zero, List.set_cons_succ, List.getElem_toArray, List.getElem_cons_zero, List.getElem_cons_succ]
              refine G_all (rs := [27]) (by kernel_rfl) (by simp) ?_
              intro i hi; obtain rfl : i = 27 := by simpa using hi
              refine wpOp_run rfl (by rfl) ?_
              refine wp_appO tyE (.tmp 48) (.tmp 74) rfl w6.heap.size _ O.length _ (ownsRow_ext own hHeld) (by rfl) _ (thenE a b f).length ((thenE a b f).flatMap edC) (IsSl.of_owns ownR) (by rfl) (edC_all _) (by have := HTL.out; have := HLEN.out; have := H16.out; omega) (by have := HTL.out; have := HLEN.out; have := H16.out; omega) (Nat.le_trans x7.size hHeld.size) ?_
              intro v11 w11 own11 gr11
              have X11 := own_base (ownsRow_ext own hHeld) gr11 (x7.trans hHeld) (Nat.le_refl _)
              try refine ⟨fun e => absurd e (by decide), ?_⟩
              refine G_free _ _ _ _ (by kernel_rfl) ?_
              try simp only [Act.put, List.setIfInBounds_toArray, List.set_cons_zero, List.set_cons_succ, List.getElem_toArray, List.getElem_cons_zero, List.getElem_cons_succ]
              refine wpAny_take (i := 28) (v := ?vth28) rfl (by kernel_rfl) (by kernel_rfl) (by kernel_rfl) (fun _ _ _ h => h) (Or.inl ⟨by rfl, ?hyth28⟩) ?_
              case hyth28 => (intro w ; go_simp; try with_reducible rfl)
              simp only [Act.put, List.setIfInBounds_toArray, List.set_cons_zero, List.set_cons_succ, List.getElem_toArray, List.getElem_cons_zero, List.getElem_cons_succ]
              refine wpAny_done (by kernel_rfl) ?_ _
              refine NoPanic.normal ?_
              go_wp2_with fail
              go_roundg (fs.length - (k + 1))
              case measure => omega
              case rel =>
                refine ⟨k + 1, by omega, by omega, by go_num, ?_, ?_, X11⟩
                · rw [HTK.out, List.length_append]; have := HTL.out; have := HLEN.out; omega
                · rw [HTK.out, List.length_append, List.flatMap_append]
                  exact own11
            · obtain rfl : k = fs.length := by omega
              rw [List.take_length] at own
              clear hgk GF GS GT
              go_wp2_with fail
              go_ret2
              exact ⟨_, rfl, ownsRow_base own (by omega), X6.trans xr⟩
        · have hz2 : (D.2 != 0) = true := by simpa using hz
          have hRe : R = ([], D.2) := by rw [HR.out, hD, if_pos hz]
          subst hRe
          clear hD
          go_wp2_with fail
          go_ret2
          exact th_err (X5.alloc _) _
      · have hz2 : (D.2 != 0) = true := by simpa using hz
        have hRe : R = ([], D.2) := by rw [HR.out, hD, if_pos hz]
        subst hRe
        clear hD
        go_wp2_with fail
        go_ret2
        exact th_err (X3.alloc _) _
end Go.Proofs.YtgcbkhmaabmdjaaDoor

namespace Go.Proofs.YtgcbkhmaabmdjaaDoor
open Go.RowKit
set_option linter.unusedVariables false
set_option linter.unusedSimpArgs false

theorem thenR_err {fs : List Fl} {a b : List Ed} (h : (thenR fs a b).2 ≠ 0) : (thenR fs a b).1 = [] := by
  unfold thenR at h ⊢
  split
  · rfl
  · split
    · rfl
    · split
      · rfl
      · rename_i h1 h2 h3
        rw [if_neg h1, if_neg h2, if_neg h3] at h
        exact absurd rfl h
theorem thenR_ok {fs : List Fl} {a b : List Ed} (h : (thenR fs a b).2 = 0) : (applyL fs a).2 = 0 ∧ (applyL (fs.map (updF a)) b).2 = 0 ∧ thenR fs a b = (thenL fs a b, 0) := by
  unfold thenR at h ⊢
  by_cases h1 : (chk a && chk b) = false
  · rw [if_pos h1] at h; cases h
  · rw [if_neg h1] at h ⊢
    by_cases h2 : (applyL fs a).2 ≠ 0
    · rw [if_pos h2] at h; exact absurd h h2
    · rw [if_neg h2] at h ⊢
      by_cases h3 : (applyL (fs.map (updF a)) b).2 ≠ 0
      · rw [if_pos h3] at h; exact absurd h h3
      · rw [if_neg h3]
        exact ⟨by simpa using h2, by simpa using h3, rfl⟩
theorem thenL_edOk {fs : List Fl} {a b : List Ed} (hf : ∀ f ∈ fs, flOk f) (h : chk (thenL fs a b) = true) : ∀ e ∈ thenL fs a b, edOk e := by
  intro e he
  obtain ⟨h1, h2, h3, h4, h5, _⟩ := okOne_all (chkR_mem (chkR_of _ h) e he)
  obtain ⟨f, hfm, hef⟩ := List.mem_flatMap.1 he
  have hp := then_path a b f e hef
  have := (hf f hfm).1
  exact ⟨by rw [hp]; omega, by omega, by omega, by omega⟩
theorem thenL_len {a b : List Ed} : ∀ (fs gs : List Fl), (∀ f ∈ gs, f ∈ fs) → (∀ f ∈ fs, Both fs a b f) → (thenL gs a b).length ≤ gs.length * 4097
  | fs, [], _, _ => by simp [thenL]
  | fs, f :: gs, hs, h => by
    have ih := thenL_len fs gs (fun g hg => hs g (by simp [hg])) h
    have h1 := thenE_len a b f (h f (hs f (by simp)))
    have e : thenL (f :: gs) a b = thenE a b f ++ thenL gs a b := rfl
    rw [e, List.length_append, List.length_cons, Nat.add_mul]
    omega
set_option maxHeartbeats 8000000 in
set_option maxRecDepth 100000 in
theorem walkEditTogether (w : World) (v : Value) (fs : List Fl) (h : ArgRepo w v fs) (va : Value) (la : List Ed) (hA : IsE w va la) (vb : Value) (lb : List Ed) (hB : IsE w vb lb) :
    Calls Tryd.prog 6 #[v, va, vb] w fun e w' => e = .returned (.bool true) ∧ Below w.heap.size w w' := by
  obtain ⟨u, rfl, hF⟩ := h
  obtain ⟨_, au, cu, rfl, _⟩ := hF.sl
  go_enter Tryd.func6, Tryd.ntmps6
  go_wp2_with fail
  refine Calls.mono (wakes _) ?_
  rintro e w1 ⟨rfl, x1⟩
  have X1 : Ext w w1 := ((Ext.refl w).alloc _).trans x1
  have b1 := x1.keeps (heap_alloc_new w (.cells #[.slice au fs.length cu] 24))
  generalize hR : w.heap.size = R at *
  have hfin : ∀ (W : World) (g : Nat) (c : Array Value), W.heap[g]? = some (.cells c 24 (0, 0)) → ∀ u, (W.setRow g #[u]).heap[g]? = some (.cells #[u] 24 (0, 0)) := fun W g c h u => setRow_heap _ _ _ _ _ _ h
  go_wp2_with ((with_reducible refine at_load 24 (.tmp 3) ?_); refine wpl_load (by rfl) 24 (.tmp 3) rfl R (by rfl) 24 #[.slice au fs.length cu] (0, 0) _ b1 Tryd.underlying24 rfl (info1 _) ?_)
  refine Calls.mono (lawShort w1 _ fs (hF.ext X1)) ?_
  rintro e w2 ⟨v1, rfl, own1, x2⟩
  have hS := shortF_ok fs
  have hS18 := short_len fs
  generalize hSS : shortF fs = S at *
  obtain ⟨a1, c1, rfl⟩ : ∃ a1 c1, v1 = .slice a1 S.length c1 := by obtain ⟨_, a, c, rfl, _⟩ := IsSl.of_owns own1; exact ⟨a, c, rfl⟩
  have X2 := X1.trans x2
  go_wp2_with fail
  refine Calls.mono (few' _ _ la (hA.ext X2)) ?_
  rintro e w3a ⟨vla, rfl, hla3, x3a⟩
  have hLa : (fewL la).length ≤ 60 := by unfold fewL; rw [List.length_map, List.length_take]; omega
  generalize fewL la = La at *
  go_wp2_with fail
  refine Calls.mono (few' _ _ lb (hB.ext (X2.trans x3a))) ?_
  rintro e w3 ⟨vlb, rfl, hlb3, x3b⟩
  have hLb : (fewL lb).length ≤ 60 := by unfold fewL; rw [List.length_map, List.length_take]; omega
  generalize fewL lb = Lb at *
  have hla3 := hla3.ext x3b
  have x3 := x3a.trans x3b
  have b3 := (x2.trans x3).keeps b1
  have own1 := owns_ext own1 x3
  have X3 := X2.trans x3
  have b4 := hfin w3 R _ b3 (.slice a1 S.length c1)
  have hone1 := slice_one a1 S.length c1
  have X4 : Ext w (w3.setRow R #[.slice a1 S.length c1]) := X3.grown grown_row1 (fun k hk => by cases hk; omega)
  have F4 : IsF (w3.setRow R #[.slice a1 S.length c1]) (.slice a1 S.length c1) S := owns_isF (own1.kept grown_row1 (.inr (own_neT own1 b3 (by decide)))) hS
  have A4 := (hla3.setRow (c' := #[.slice a1 S.length c1]) b3).isE
  have B4 := (hlb3.setRow (c' := #[.slice a1 S.length c1]) b3).isE
  go_wp2_with first
    | ((with_reducible refine at_store 24 (.tmp 3) (.tmp 17) ?_); refine wpl_store (by rfl) 24 (.tmp 3) (.tmp 17) rfl R #[.slice a1 S.length c1] (by rfl) (by rfl) 24 _ b3 (info1 _) rfl hone1 ?_)
    | ((with_reducible refine at_load 24 (.tmp 3) ?_); refine wpl_load (by rfl) 24 (.tmp 3) rfl R (by rfl) 24 #[.slice a1 S.length c1] (0, 0) _ b4 Tryd.underlying24 rfl (info1 _) ?_)
  generalize w3.setRow R #[.slice a1 S.length c1] = w4 at *
  have hend : ∀ W, Ext w4 W → Below w.heap.size w W := fun W k => X4.trans k
  clear own1 b1 b3 X1 X2 X3 x1 x2 x3 x3a x3b hla3 hlb3 hF hA hB
  refine Calls.mono (editThen w4 _ S vla vlb La Lb F4 A4 B4 (by omega) (by omega)) ?_
  rintro e w5 ⟨vc, rfl, ownC, x5⟩
  obtain ⟨R2, hR2⟩ : ∃ R2, thenR S La Lb = R2 := ⟨_, rfl⟩
  have hok := @thenR_ok S La Lb
  have herr := @thenR_err S La Lb
  rw [hR2] at ownC hok herr ⊢
  obtain ⟨C, ce⟩ := R2
  dsimp only at ownC hok herr ⊢
  obtain ⟨ac, cc, rfl⟩ : ∃ a c, vc = .slice a C.length c := by obtain ⟨_, a, c, rfl, _⟩ := IsSl.of_owns ownC; exact ⟨a, c, rfl⟩
  have b5 := x5.keeps b4
  have HOK := Lib.hid hok
  have HERR := Lib.hid herr
  clear hok herr hR2
  go_wp2_with ((with_reducible refine at_load 24 (.tmp 3) ?_); refine wpl_load (by rfl) 24 (.tmp 3) rfl R (by rfl) 24 #[.slice a1 S.length c1] (0, 0) _ b5 Tryd.underlying24 rfl (info1 _) ?_)
  refine Calls.mono (editApply w5 _ S vla La (F4.ext x5) (A4.ext x5) (by omega)) ?_
  rintro e w6 ⟨vs, rfl, own6, x6⟩
  obtain ⟨D, hD⟩ : ∃ D, applyL S La = D := ⟨_, rfl⟩
  have hapo := @apply_ok S La
  rw [hD] at own6 ⊢
  have HD := Lib.hid hD
  have HAPO := Lib.hid (fun h => @apply_ok S La h)
  clear hD hapo
  obtain ⟨n8, hn8⟩ : ∃ n, D.1.length = n := ⟨_, rfl⟩
  rw [hn8] at own6
  have HN8 := Lib.hid hn8
  clear hn8
  obtain ⟨ap, cp, rfl⟩ : ∃ a c, vs = .slice a n8 c := by obtain ⟨_, a, c, rfl, _⟩ := IsSl.of_owns own6; exact ⟨a, c, rfl⟩
  by_cases hz : ce = 0
  · obtain ⟨hz1, hz2, he⟩ := HOK.out hz
    simp only [Prod.mk.injEq] at he
    obtain ⟨rfl, -⟩ := he
    subst hz
    obtain ⟨_, hr1, _, _, hlg1, _, hDe⟩ := HAPO.out hz1
    obtain ⟨_, hr2, _, _, hlg2, _, hDe2⟩ := @apply_ok (S.map (updF La)) Lb hz2
    obtain ⟨hchk, hap⟩ := edit_together hz1 hz2
    have hD0 : D = (S.map (updF La), 0) := by rw [← HD.out, hDe]
    subst hD0
    have hCk := thenL_edOk hS hchk
    have h16 := (repo_sum hr1).1
    have hCl := thenL_len S S (fun f hf => hf) (both_of hz1 hz2)
    have hC6 : (thenL S La Lb).length ≤ 1000000 := by omega
    have okS := upd_flOkE hS hlg1
    have okT := upd_flOkE okS hlg2
    have FS : IsF w6 (.slice ap n8 cp) (S.map (updF La)) := owns_isF (by rw [HN8.out]; exact own6) okS
    have EC : IsE w5 (.slice ac (thenL S La Lb).length cc) (thenL S La Lb) := ⟨IsSl.of_owns ownC, hCk⟩
    obtain ⟨C, hC⟩ : ∃ C, thenL S La Lb = C := ⟨_, rfl⟩
    rw [hC] at hchk hap EC hC6 ⊢
    have HAP := Lib.hid hap
    have HCH := Lib.hid hchk
    have HDE2 := Lib.hid hDe2
    have tP := blk_new (w := w6) (b := w6.heap.size) (o := .cells #[.slice ap n8 cp] 24) rfl
    have xP : Ext w6 (w6.alloc (.cells #[.slice ap n8 cp] 24)) := (Ext.refl _).alloc _
    have FS := FS.ext xP
    have x7 := x6.trans xP
    clear hz1 hz2 hr1 hr2 hlg1 hlg2 hDe hDe2 hap hchk h16 hCl hCk hC own6 ownC HD HN8 HOK HERR HAPO
    go_wp2_with fail
    generalize w6.alloc (.cells #[.slice ap n8 cp] 24) = w7 at *
    generalize w6.heap.size = P at *
    refine Calls.mono (editCheck w7 _ C (EC.ext x7)) ?_
    rintro e w8 ⟨rfl, x8⟩
    rw [HCH.out]
    simp only [show errE true = 0 from rfl]
    have tP8 := x8.keeps tP
    have X8 := (x5.trans x7).trans x8
    have b8 := X8.keeps b4
    go_wp2_with ((with_reducible refine at_load 24 (.tmp 9) ?_); refine wpl_load (by rfl) 24 (.tmp 9) rfl P (by rfl) 24 #[.slice ap n8 cp] (0, 0) _ tP8 Tryd.underlying24 rfl (info1 _) ?_)
    refine Calls.mono (editApply w8 _ _ vlb Lb (FS.ext x8) (B4.ext X8) (by omega)) ?_
    rintro e w9 ⟨vt, rfl, own9, x9⟩
    rw [HDE2.out] at own9 ⊢
    dsimp only at own9 ⊢
    have FT := owns_isF own9 okT
    have hTl : ((S.map (updF La)).map (updF Lb)).length = S.length := by rw [List.length_map, List.length_map]
    rw [hTl] at own9
    obtain ⟨at', ct, rfl⟩ : ∃ a c, vt = .slice a S.length c := by obtain ⟨_, a, c, rfl, _⟩ := IsSl.of_owns own9; exact ⟨a, c, rfl⟩
    have tT := blk_new (w := w9) (b := w9.heap.size) (o := .cells #[.slice at' S.length ct] 24) rfl
    have xT : Ext w9 (w9.alloc (.cells #[.slice at' S.length ct] 24)) := (Ext.refl _).alloc _
    have FT := FT.ext xT
    have X10 := (X8.trans x9).trans xT
    have b10 := X10.keeps b4
    have EC := EC.ext ((x7.trans x8).trans (x9.trans xT))
    clear own9 tP tP8 hTl
    go_wp2_with ((with_reducible refine at_load 24 (.tmp 3) ?_); refine wpl_load (by rfl) 24 (.tmp 3) rfl R (by rfl) 24 #[.slice a1 S.length c1] (0, 0) _ b10 Tryd.underlying24 rfl (info1 _) ?_)
    generalize w9.alloc (.cells #[.slice at' S.length ct] 24) = w10 at *
    generalize w9.heap.size = TB at *
    refine Calls.mono (editApply w10 _ S _ C (F4.ext X10) EC hC6) ?_
    rintro e w11 ⟨vu, rfl, own11, x11⟩
    rw [HAP.out] at own11 ⊢
    dsimp only at own11 ⊢
    have FU := owns_isF own11 okT
    have hTl : ((S.map (updF La)).map (updF Lb)).length = S.length := by rw [List.length_map, List.length_map]
    rw [hTl] at own11
    obtain ⟨au', cu', rfl⟩ : ∃ a c, vu = .slice a S.length c := by obtain ⟨_, a, c, rfl, _⟩ := IsSl.of_owns own11; exact ⟨a, c, rfl⟩
    have tU := blk_new (w := w11) (b := w11.heap.size) (o := .cells #[.slice au' S.length cu'] 24) rfl
    have xU : Ext w11 (w11.alloc (.cells #[.slice au' S.length cu'] 24)) := (Ext.refl _).alloc _
    have FU := FU.ext xU
    have tT := (x11.trans xU).keeps tT
    have FT := FT.ext (x11.trans xU)
    have X12 := X10.trans (x11.trans xU)
    clear own11 hTl
    go_upto_region 12 with fail
    generalize w11.alloc (.cells #[.slice au' S.length cu'] 24) = w12 at *
    generalize w11.heap.size = UB at *
    go_wp2_with first
      | ((with_reducible refine at_load 24 (.tmp 11) ?_); refine wpl_load (by rfl) 24 (.tmp 11) rfl TB (by rfl) 24 #[.slice at' S.length ct] (0, 0) _ tT Tryd.underlying24 rfl (info1 _) ?_)
      | ((with_reducible refine at_load 24 (.tmp 12) ?_); refine wpl_load (by rfl) 24 (.tmp 12) rfl UB (by rfl) 24 #[.slice au' S.length cu'] (0, 0) _ tU Tryd.underlying24 rfl (info1 _) ?_)
    refine Calls.mono (treeSame w12 _ _ _ _ FT FU) ?_
    rintro e w13 ⟨rfl, x13⟩
    rw [decide_eq_true rfl]
    go_wp2_with fail
    go_ret
    exact ⟨rfl, hend _ (X12.trans x13)⟩
  · have hC0 : C = [] := HERR.out hz
    subst hC0
    have hz1 : (ce == 0) = false := beq_eq_false_iff_ne.2 hz
    go_wp2_with fail
    go_ret
    exact ⟨rfl, hend _ ((x5.trans x6).alloc _)⟩
end Go.Proofs.YtgcbkhmaabmdjaaDoor
