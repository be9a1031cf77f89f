/- The parts of a path, and the walk of strings.SplitSeq's iterator over them. -/
import Derived.RangeFuncNested
import Derived.RangeFuncBound
import Derived.RangeFuncCalls
import Derived.RangeFuncLeaves
import Derived.Shelf.Abstract
import Derived.WalkKit
import Derived.OwnWalkIn
import Derived.TacticsInMore
import Derived.LoopNIn
import Derived.LoopIn
import Derived.Sort.LoopGhostIn
import Derived.Lib.IndexLaws
import Derived.Test.YtgcbkhmaabmdjaaDoorReg
import Derived.Test.YtgcbkhmaabmdjaaDoorShelf
import Derived.Test.YtgcbkhmaabmdjaaDoorNm
namespace Go.Proofs.YtgcbkhmaabmdjaaDoor
open Go.RowKit Go.Shelf
attribute [local go_sem] Oper.semAt_some
set_option linter.unusedVariables false
set_option linter.unusedSimpArgs false

/-- What stands between the slashes. -/
def partsL : List UInt8 → List (List UInt8)
  | [] => [[]]
  | c :: r => if c = 47 then [] :: partsL r else match partsL r with
    | [] => [[c]]
    | p :: q => (c :: p) :: q
theorem partsL_none : ∀ (l : List UInt8), Lib.indexByte l 47 = -1 → partsL l = [l]
  | [], _ => rfl
  | c :: r, h => by
    unfold Lib.indexByte at h
    by_cases hc : c = 47
    · subst hc; simp at h
    · have hb : (c == 47) = false := by simpa using hc
      rw [hb] at h
      simp only [Bool.false_eq_true, if_false] at h
      by_cases hr : Lib.indexByte r 47 = -1
      · unfold partsL
        rw [if_neg hc, partsL_none r hr]
      · have hrb : (Lib.indexByte r 47 == -1) = false := by simpa using hr
        rw [hrb] at h
        simp only [Bool.false_eq_true, if_false] at h
        have := Lib.indexByte_ge r 47
        omega
theorem partsL_some : ∀ (l : List UInt8) (i : Nat), Lib.indexByte l 47 = (i : Int) → partsL l = l.take i :: partsL (l.drop (i + 1)) ∧ i < l.length
  | [], i, h => by simp [Lib.indexByte] at h
  | c :: r, i, h => by
    unfold Lib.indexByte at h
    by_cases hc : c = 47
    · subst hc
      have : i = 0 := by simp at h; omega
      subst this
      exact ⟨by unfold partsL; rw [if_pos rfl]; simp; cases r <;> rfl, by simp⟩
    · have hb : (c == 47) = false := by simpa using hc
      rw [hb] at h
      simp only [Bool.false_eq_true, if_false] at h
      by_cases hr : Lib.indexByte r 47 = -1
      · rw [hr] at h
        simp at h
      · have hrb : (Lib.indexByte r 47 == -1) = false := by simpa using hr
        rw [hrb] at h
        simp only [Bool.false_eq_true, if_false] at h
        have := Lib.indexByte_ge r 47
        obtain ⟨k, hk⟩ : ∃ k : Nat, i = k + 1 := ⟨i - 1, by omega⟩
        subst hk
        obtain ⟨e, hl⟩ := partsL_some r k (by omega)
        refine ⟨?_, by simp; omega⟩
        show (if c = 47 then [] :: partsL r else match partsL r with
          | [] => [[c]]
          | p :: q => (c :: p) :: q) = _
        rw [if_neg hc, e]
        rfl
/-- The parts of a text. -/
def partsB (s : ByteArray) : List ByteArray := (partsL s.data.toList).map fun l => ⟨l.toArray⟩
theorem ba_eta (s : ByteArray) : (⟨s.data.toList.toArray⟩ : ByteArray) = s := by cases s; rfl
theorem partsB_none {s : ByteArray} (h : Lib.indexByte s.data.toList 47 = -1) : partsB s = [s] := by
  unfold partsB
  rw [partsL_none _ h, List.map_singleton, ba_eta]
theorem ba_take (s : ByteArray) (i : Nat) (h : i ≤ s.size) : (⟨(s.data.toList.take i).toArray⟩ : ByteArray) = s.extract 0 i := by
  apply ByteArray.ext
  rw [ByteArray.data_extract]
  apply Array.ext'
  simp
theorem ba_drop (s : ByteArray) (i : Nat) (h : i ≤ s.size) : (s.extract i s.size).data.toList = s.data.toList.drop i := by
  rw [ByteArray.data_extract]
  simp
  rw [List.take_of_length_le]
  simp
theorem partsB_some {s : ByteArray} {i : Nat} (h : Lib.indexByte s.data.toList 47 = (i : Int)) : partsB s = s.extract 0 i :: partsB (s.extract (i + 1) s.size) ∧ i < s.size := by
  obtain ⟨e, hl⟩ := partsL_some _ i h
  have hl : i < s.size := by rw [Array.length_toList] at hl; exact hl
  refine ⟨?_, hl⟩
  unfold partsB
  rw [e, List.map_cons, ba_take s i (by omega), ba_drop s (i + 1) (by omega)]

set_option maxHeartbeats 4000000 in
set_option maxRecDepth 100000 in
/-- The iterator: each part comes, in its order, till a round says 'no more'. -/
theorem split_in (l n : Nat) (hn : 1 ≤ n) (Bp Bs Bv : Nat) (J Jx : List ByteArray → World → Prop)
    (hJs : ∀ pre W u, J pre W → J pre (W.setCell ⟨Bs, 0, none⟩ u))
    (hY : ∀ pre (x : ByteArray) W, x.size ≤ 1099511627776 → J pre W → YieldAt Fence.wide (n - 1) Tryd.prog l #[.string x] W fun e W' =>
      (e = .returned (.bool true) ∧ J (pre ++ [x]) W' ∧ W'.heap[Bp]? = W.heap[Bp]? ∧ W'.heap[Bs]? = W.heap[Bs]? ∧ W'.heap[Bv]? = W.heap[Bv]?) ∨ (e = .returned (.bool false) ∧ Jx (pre ++ [x]) W'))
    (s : ByteArray) (W : World) (hp : W.heap[Bp]? = some (.cells #[.string ⟨#[47]⟩] 9 (0, 0))) (hs : W.heap[Bs]? = some (.cells #[.string s] 9 (0, 0))) (hv : W.heap[Bv]? = some (.cells #[.int .i64 0] 3 (0, 0)))
    (hne : Bp ≠ Bs ∧ Bv ≠ Bs) (hsz : s.size ≤ 1099511627776) (h0 : J [] W) :
    CallsIn Fence.wide n Tryd.prog 69 #[.func (.yield l) #[] #[], .pointer (some ⟨Bp, 0, none⟩), .pointer (some ⟨Bs, 0, none⟩), .pointer (some ⟨Bv, 0, none⟩)] W fun e W' => (∃ v, e = .returned v) ∧
      (J (partsB s) W' ∨ ∃ pre, pre <+: partsB s ∧ Jx pre W') := by
  refine callsIn_of_wp Tryd.func69 rfl trivial ?_ rfl
  simp only [Tryd.ntmps69, List.size_toArray, List.length_cons, List.length_nil, Nat.reduceAdd, Nat.reduceSub, Array.replicate_succ, Array.replicate_zero, List.push_toArray, List.append_toArray, List.nil_append, List.cons_append]
  have cp : W.cell? ⟨Bp, 0, none⟩ = some (.string ⟨#[47]⟩) := by rw [block_cell hp]; rfl
  have cs : W.cell? ⟨Bs, 0, none⟩ = some (.string s) := by rw [block_cell hs]; rfl
  have cv : W.cell? ⟨Bv, 0, none⟩ = some (.int .i64 0) := by rw [block_cell hv]; rfl
  gi_wp2
  gi_loopg [7, 8] (s.size + 1) (fun g s7 s8 wr => ∃ (pre : List ByteArray) (r : ByteArray), r.size + 1 ≤ g ∧ pre ++ partsB r = partsB s ∧ r.size ≤ 1099511627776 ∧ wr.heap[Bp]? = some (.cells #[.string ⟨#[47]⟩] 9 (0, 0)) ∧ wr.heap[Bs]? = some (.cells #[.string r] 9 (0, 0)) ∧ wr.heap[Bv]? = some (.cells #[.int .i64 0] 3 (0, 0)) ∧ J pre wr)
  case atStart => exact ⟨[], s, by omega, rfl, hsz, hp, hs, hv, h0⟩
  case round =>
    clear hp hs hv h0 cp cs cv
    obtain ⟨pre, r, hg, hpr, hrs, hp, hs, hv, hJ⟩ := hrel
    have cp : wr.cell? ⟨Bp, 0, none⟩ = some (.string ⟨#[47]⟩) := by rw [block_cell hp]; rfl
    have cs : wr.cell? ⟨Bs, 0, none⟩ = some (.string r) := by rw [block_cell hs]; rfl
    have cv : wr.cell? ⟨Bv, 0, none⟩ = some (.int .i64 0) := by rw [block_cell hv]; rfl
    have fs := block_free hs 0
    obtain ⟨ix, hix⟩ : ∃ ix, Lib.indexByte r.data.toList 47 = ix := ⟨_, rfl⟩
    have hge := Lib.indexByte_ge r.data.toList 47
    rw [hix] at hge
    by_cases hneg : ix < 0
    · have hn1 : partsB r = [r] := partsB_none (by omega)
      have HN := Lib.hid hn1
      clear hn1 hge
      obtain ⟨fn, tmps, assign, body, hy, hR⟩ := hY pre r wr hrs hJ
      gi_wp2
      refine ⟨trivial, ((callsIn_wide (n := n - 1)).2 (Tryd.strings_Index_one r 47 wr)).mono ?_⟩
      rintro e w' ⟨rfl, rfl⟩
      rw [hix]
      gi_wp2
      refine hR.mono ?_
      rintro e W' (⟨rfl, hJ', hk1, hk2, hk3⟩ | ⟨rfl, hJx'⟩)
      · gi_wp2
        go_end0
        exact ⟨⟨_, rfl⟩, .inl (by rw [← hpr, HN.out]; exact hJ')⟩
      · gi_wp2
        go_end0
        exact ⟨⟨_, rfl⟩, .inr ⟨_, by rw [← hpr, HN.out]; exact List.prefix_rfl, hJx'⟩⟩
    · obtain ⟨i, rfl⟩ : ∃ i : Nat, ix = (i : Int) := ⟨ix.toNat, by omega⟩
      obtain ⟨hps, hil⟩ := partsB_some hix
      have HP := Lib.hid hps
      clear hps hge
      have hi1 : (i : Int) ≤ (r.size : Int) := by omega
      have hi2 : (i : Int) + 1 ≤ (r.size : Int) := by omega
      have hi0 : (0 : Int) ≤ (i : Int) := Int.natCast_nonneg _
      obtain ⟨fn, tmps, assign, body, hy, hR⟩ := hY pre (r.extract 0 i) wr (by rw [ByteArray.size_extract]; omega) hJ
      gi_wp2
      refine ⟨trivial, ((callsIn_wide (n := n - 1)).2 (Tryd.strings_Index_one r 47 wr)).mono ?_⟩
      rintro e w' ⟨rfl, rfl⟩
      rw [hix]
      gi_wp2
      refine hR.mono ?_
      rintro e W' (⟨rfl, hJ', hk1, hk2, hk3⟩ | ⟨rfl, hJx'⟩)
      · rw [hp] at hk1
        rw [hs] at hk2
        rw [hv] at hk3
        have cp2 : W'.cell? ⟨Bp, 0, none⟩ = some (.string ⟨#[47]⟩) := by rw [block_cell hk1]; rfl
        have cs2 : W'.cell? ⟨Bs, 0, none⟩ = some (.string r) := by rw [block_cell hk2]; rfl
        have fs2 := block_free hk2 0
        have bs3 := block_setCell hk2 (i := 0) (.string (r.extract (i + 1) r.size))
        have bp3 := set_other hk1 hne.1 (i := 0) (u := .string (r.extract (i + 1) r.size))
        have bv3 := set_other hk3 hne.2 (i := 0) (u := .string (r.extract (i + 1) r.size))
        have BS := Lib.hid bs3
        have BP := Lib.hid bp3
        have BV := Lib.hid bv3
        clear hk1 hk2 hk3 bs3 bp3 bv3
        gi_wp2
        gi_roundg (r.size - (i + 1) + 1)
        case measure => omega
        case rel =>
          refine ⟨pre ++ [r.extract 0 i], r.extract (i + 1) r.size, by rw [ByteArray.size_extract]; omega, ?_, by rw [ByteArray.size_extract]; omega, BP.out, BS.out, BV.out, hJs _ _ _ hJ'⟩
          rw [← hpr, HP.out, List.append_assoc]
          rfl
      · gi_wp2
        refine bodyPost_ret (results_none rfl _ _ _) rfl ?_
        exact ⟨⟨_, rfl⟩, .inr ⟨_, by rw [← hpr, HP.out]; exact ⟨partsB (r.extract (i + 1) r.size), by simp⟩, hJx'⟩⟩
end Go.Proofs.YtgcbkhmaabmdjaaDoor

namespace Go.Proofs.YtgcbkhmaabmdjaaDoor
open Go.RowKit Go.Shelf
set_option linter.unusedVariables false
set_option linter.unusedSimpArgs false

/-- What a round keeps: whatever is no cells; the iterator's own three blocks. -/
structure RKeeps (Bp Bs Bv : Nat) (W W' : World) : Prop where
  same : ∀ (k : Nat) (o : Obj), W.heap[k]? = some o → o.isCells = false → W'.heap[k]? = some o
  p : W'.heap[Bp]? = W.heap[Bp]?
  s : W'.heap[Bs]? = W.heap[Bs]?
  v : W'.heap[Bv]? = W.heap[Bv]?
def rPost (Bp Bs Bv : Nat) (I : List ByteArray → World → Prop) (Ix : Code → List ByteArray → World → Prop) (xs : List ByteArray) (W : World) : Exit → Act → World → Prop
  | .normal, _, W' => RKeeps Bp Bs Bv W W' ∧ I xs W'
  | .ret, _, W' => RKeeps Bp Bs Bv W W' ∧ Ix .ret xs W'
  | .exit id, _, W' => RKeeps Bp Bs Bv W W' ∧ Ix (.exit id) xs W'
  | .goto t, _, W' => RKeeps Bp Bs Bv W W' ∧ Ix (.goto t) xs W'
  | .panic _, _, _ => False
  | .outgrown, _, _ => False
theorem set_ne {W : World} {b g : Nat} {i : Nat} {u : Value} (h : g < W.heap.size) (hn : g ≠ b) : (W.setCell ⟨b, i, none⟩ u).heap[g]? = W.heap[g]? := (grown_setCell W b i u).block g h (by simpa using hn)
theorem RKeeps.set {Bp Bs Bv b i : Nat} {W : World} {u : Value} (hp : Bp < W.heap.size) (hs : Bs < W.heap.size) (hv : Bv < W.heap.size) (n1 : Bp ≠ b) (n2 : Bs ≠ b) (n3 : Bv ≠ b) : RKeeps Bp Bs Bv W (W.setCell ⟨b, i, none⟩ u) :=
  ⟨(KeepsOthers.setCell _ _ _).same, set_ne hp n1, set_ne hs n2, set_ne hv n3⟩
theorem RKeeps.ext {Bp Bs Bv : Nat} {W W' : World} (hp : Bp < W.heap.size) (hs : Bs < W.heap.size) (hv : Bv < W.heap.size) (x : Ext W W') : RKeeps Bp Bs Bv W W' :=
  ⟨fun k o h _ => x.keeps h, x.block hp, x.block hs, x.block hv⟩
theorem RKeeps.trans {Bp Bs Bv : Nat} {A B C : World} (h : RKeeps Bp Bs Bv A B) (k : RKeeps Bp Bs Bv B C) : RKeeps Bp Bs Bv A C :=
  ⟨fun i o a b => k.same i o (h.same i o a b) b, k.p.trans h.p, k.s.trans h.s, k.v.trans h.v⟩
theorem put_other {W : World} {l k : Nat} {o : Obj} (h : k ≠ l) : (W.putObj l o).heap[k]? = W.heap[k]? := World.putObj_heap_other h

set_option maxHeartbeats 1000000 in
theorem wp_rangeParts {g : Operand} {ps : Array Tmp} {assign body : Code} {Q : Exit → Act → World → Prop} {a : Act} {w : World} (n : Nat) (hn : 2 ≤ n) (Bp Bs Bv : Nat)
    (hg : a.eval g = .func (.func 69) #[] #[.pointer (some ⟨Bp, 0, none⟩), .pointer (some ⟨Bs, 0, none⟩), .pointer (some ⟨Bv, 0, none⟩)]) (hps : ps.size = 1)
    (s : ByteArray) (hp : w.heap[Bp]? = some (.cells #[.string ⟨#[47]⟩] 9 (0, 0))) (hs : w.heap[Bs]? = some (.cells #[.string s] 9 (0, 0))) (hv : w.heap[Bv]? = some (.cells #[.int .i64 0] 3 (0, 0)))
    (hne : Bp ≠ Bs ∧ Bv ≠ Bs) (hsz : s.size ≤ 1099511627776)
    (I : List ByteArray → World → Prop) (Ix : Code → List ByteArray → World → Prop)
    (hIp : ∀ pre (W : World) (l : Nat) (o o' : Obj), I pre W → w.heap.size ≤ l → W.heap[l]? = some o → o.isCells = false → I pre (W.putObj l o'))
    (hXp : ∀ c pre (W : World) (l : Nat) (o o' : Obj), Ix c pre W → w.heap.size ≤ l → W.heap[l]? = some o → o.isCells = false → Ix c pre (W.putObj l o'))
    (hIs : ∀ pre W u, I pre W → I pre (W.setCell ⟨Bs, 0, none⟩ u))
    (hIa : ∀ pre W o, I pre W → I pre (W.alloc o)) (h0 : I [] w) (a₁ : ByteArray → Act)
    (hassign : ∀ (l : Nat) (x : ByteArray) (W : World) (K : Act → World → Prop), K (a₁ x) W →
      assign.wpIn (Fence.wide.inRound l) (n - 1 - 1) Tryd.prog (Exit.then K (fun _ _ _ => False)) { tmps := (ps.zip #[.string x]).foldl (fun t (p, v) => t.setIfInBounds p v) a.tmps, defers := [] } W)
    (hbody : ∀ (l : Nat) (pre : List ByteArray) (x : ByteArray) (W : World), x.size ≤ 1099511627776 → I pre W → body.wpIn (Fence.wide.inRound l) (n - 1 - 1) Tryd.prog (rPost Bp Bs Bv I Ix (pre ++ [x]) W) (a₁ x) W)
    (hdone : ∀ (D : Nat) (W : World), w.heap.size ≤ D → I (partsB s) W → W.heap[D]? = some (.deferred (some [])) → Q .normal { a with defers := { target := .collected D, args := #[] } :: a.defers } W)
    (hstop : ∀ (D : Nat) (c : Code) (pre : List ByteArray) (W : World), w.heap.size ≤ D → pre <+: partsB s → Ix c pre W → W.heap[D]? = some (.deferred (some [])) → c.wpIn Fence.wide n Tryd.prog Q { a with defers := { target := .collected D, args := #[] } :: a.defers } W) :
    (Code.rangeFunc g ps assign body).wpIn Fence.wide n Tryd.prog Q a w := by
  refine wpIn_rangeFunc ?_
  intro fn hfn
  obtain ⟨mk, hmk⟩ : ∃ mk : LoopState → Option Code → Loop, mk = fun st pe => { state := st, pending := pe, fn, tmps := a.tmps, params := ps, assign, body, defers := w.heap.size } := ⟨_, rfl⟩
  have lp := block_lt hp
  have ls := block_lt hs
  have lv := block_lt hv
  have hD : (w.alloc (.deferred (some []))).heap[w.heap.size]? = some (.deferred (some [])) := heap_alloc_new w _
  have hDl : ((w.alloc (.deferred (some []))).alloc (.loop (mk .ready none))).heap[w.heap.size]? = some (.deferred (some [])) := blk_old hD
  have hL : ((w.alloc (.deferred (some []))).alloc (.loop (mk .ready none))).heap[w.heap.size + 1]? = some (.loop (mk .ready none)) := blk_new (by simp)
  have hI := hIa _ _ (.loop (mk .ready none)) (hIa _ _ (.deferred (some [])) h0)
  have hp1 := blk_old (o := .loop (mk .ready none)) (blk_old (o := .deferred (some [])) hp)
  have hs1 := blk_old (o := .loop (mk .ready none)) (blk_old (o := .deferred (some [])) hs)
  have hv1 := blk_old (o := .loop (mk .ready none)) (blk_old (o := .deferred (some [])) hv)
  refine ⟨w.heap.size + 1, [{ target := .collected w.heap.size, args := #[] }], (w.alloc (.deferred (some []))).alloc (.loop (mk .ready none)), { target := .fn (.func 69) #[.pointer (some ⟨Bp, 0, none⟩), .pointer (some ⟨Bs, 0, none⟩), .pointer (some ⟨Bv, 0, none⟩)], args := #[.func (.yield (w.heap.size + 1)) #[] #[]] }, ((w.alloc (.deferred (some []))).alloc (.loop (mk .ready none))), 69,
    #[.func (.yield (w.heap.size + 1)) #[] #[], .pointer (some ⟨Bp, 0, none⟩), .pointer (some ⟨Bs, 0, none⟩), .pointer (some ⟨Bv, 0, none⟩)], ((w.alloc (.deferred (some []))).alloc (.loop (mk .ready none))), ?_, ?_, fun _ _ => trivial, ?_, fun _ => by omega, ?_⟩
  · rw [hmk]
    exact run_enterLoop_outer _ _ _ _ _
  · simp only [resolve, hg]
    simp [go_sem]
  · simp [invoke, go_sem, enters_of Tryd.func69 (by kernel_rfl) rfl]
  · generalize (w.alloc (.deferred (some []))).alloc (.loop (mk .ready none)) = W0 at *
    refine (split_in (w.heap.size + 1) (n - 1) (by omega) Bp Bs Bv
      (fun pre W => I pre W ∧ W.heap[w.heap.size + 1]? = some (.loop (mk .ready none)) ∧ W.heap[w.heap.size]? = some (.deferred (some [])))
      (fun pre W => ∃ c, Ix c pre W ∧ W.heap[w.heap.size + 1]? = some (.loop (mk .done (some c))) ∧ W.heap[w.heap.size]? = some (.deferred (some [])))
      (fun pre W u ⟨h1, h2, h3⟩ => ⟨hIs _ _ _ h1, set_other h2 (by omega), set_other h3 (by omega)⟩) ?_ s W0 hp1 hs1 hv1 hne hsz ⟨hI, hL, hDl⟩).mono ?_
    · rintro pre x W hxs ⟨hi, hl, hk⟩
      have hlt : w.heap.size + 1 < W.heap.size := block_lt hl
      have hy := run_yield (P := Tryd.prog) (args := #[.string x]) hl (by rw [hmk]; exact hps.symm)
      rw [hmk] at hy
      refine ⟨fn, _, assign, body, hy, roundIn_of_wpIn trivial (hassign _ x W _ ⟨_, run_beginRound hl (by rw [hmk]), ?_⟩)⟩
      have hl2 : (W.putObj (w.heap.size + 1) (.loop { mk .ready none with state := .busy })).heap[w.heap.size + 1]? = some (.loop { mk .ready none with state := .busy }) := World.putObj_heap_same hlt
      have hk2 : (W.putObj (w.heap.size + 1) (.loop { mk .ready none with state := .busy })).heap[w.heap.size]? = some (.deferred (some [])) := (put_other (by omega)).trans hk
      refine wpIn_mono (hbody _ pre x _ hxs (hIp _ _ _ _ _ hi (by omega) hl rfl)) ?_
      have fin : ∀ (jump : Option Code) (W3 : World), RKeeps Bp Bs Bv (W.putObj (w.heap.size + 1) (.loop { mk .ready none with state := .busy })) W3 →
          (Instr.endRound (w.heap.size + 1) jump).run Tryd.prog W3 = .ok (.bool jump.isNone) (W3.putObj (w.heap.size + 1) (.loop (mk (if jump.isNone then .ready else .done) jump))) ∧
          W3.heap[w.heap.size + 1]? = some (.loop { mk .ready none with state := .busy }) ∧
          (W3.putObj (w.heap.size + 1) (.loop (mk (if jump.isNone then .ready else .done) jump))).heap[w.heap.size + 1]? = some (.loop (mk (if jump.isNone then .ready else .done) jump)) ∧
          (W3.putObj (w.heap.size + 1) (.loop (mk (if jump.isNone then .ready else .done) jump))).heap[w.heap.size]? = some (.deferred (some [])) := fun jump W3 k => by
        have hl3 := k.same _ _ hl2 rfl
        have hr := run_endRound (P := Tryd.prog) jump hl3
        refine ⟨?_, hl3, World.putObj_heap_same (block_lt hl3), (put_other (by omega)).trans (k.same _ _ hk2 rfl)⟩
        rw [hr, hmk]
      rintro e a3 W3 h
      cases e with
      | normal =>
        obtain ⟨k, hi3⟩ := h
        obtain ⟨hr, hl3, hl4, hk4⟩ := fin none W3 k
        refine ⟨_, _, hr, .inl ⟨rfl, ⟨hIp _ _ _ _ _ hi3 (by omega) hl3 rfl, hl4, hk4⟩, ?_, ?_, ?_⟩⟩
        · rw [put_other (by omega), k.p, put_other (by omega)]
        · rw [put_other (by omega), k.s, put_other (by omega)]
        · rw [put_other (by omega), k.v, put_other (by omega)]
      | ret =>
        obtain ⟨k, hi3⟩ := h
        obtain ⟨hr, hl3, hl4, hk4⟩ := fin (some .ret) W3 k
        exact ⟨_, _, hr, .inr ⟨rfl, .ret, hXp _ _ _ _ _ _ hi3 (by omega) hl3 rfl, hl4, hk4⟩⟩
      | exit id =>
        obtain ⟨k, hi3⟩ := h
        obtain ⟨hr, hl3, hl4, hk4⟩ := fin (some (.exit id)) W3 k
        exact ⟨_, _, hr, .inr ⟨rfl, .exit id, hXp _ _ _ _ _ _ hi3 (by omega) hl3 rfl, hl4, hk4⟩⟩
      | goto t =>
        obtain ⟨k, hi3⟩ := h
        obtain ⟨hr, hl3, hl4, hk4⟩ := fin (some (.goto t)) W3 k
        exact ⟨_, _, hr, .inr ⟨rfl, .goto t, hXp _ _ _ _ _ _ hi3 (by omega) hl3 rfl, hl4, hk4⟩⟩
      | panic ch => exact h.elim
      | outgrown => exact h.elim
    · rintro e W2 ⟨⟨v, rfl⟩, (⟨hi, hl, hk⟩ | ⟨pre, hpre, c, hi, hl, hk⟩)⟩
      · refine ⟨none, _, ?_, hdone _ _ (Nat.le_refl _) (hIp _ _ _ _ (.loop { mk .ready none with state := .exhausted }) hi (by omega) hl rfl) ((put_other (by omega)).trans hk)⟩
        have := run_endLoop (P := Tryd.prog) hl (by rw [hmk]; simp)
        rw [this, hmk]
      · refine ⟨some c, _, ?_, hstop _ c pre _ (Nat.le_refl _) hpre (hXp _ _ _ _ _ (.loop { mk .done (some c) with state := .exhausted }) hi (by omega) hl rfl) ((put_other (by omega)).trans hk)⟩
        have := run_endLoop (P := Tryd.prog) hl (by rw [hmk]; simp)
        rw [this, hmk]
end Go.Proofs.YtgcbkhmaabmdjaaDoor

namespace Go.Proofs.YtgcbkhmaabmdjaaDoor
open Go.RowKit Go.Shelf
attribute [local go_sem] Oper.semAt_some
set_option linter.unusedVariables false
set_option linter.unusedSimpArgs false

/-- Is a text a path? -/
def pathB (s : ByteArray) : Bool := decide (s.size ≤ 64) && (decide ((partsB s).length ≤ 4) && (partsB s).all nameB)
def seqV (b : Nat) : Value := .func (.func 69) #[] #[.pointer (some ⟨b + 1, 0, none⟩), .pointer (some ⟨b, 0, none⟩), .pointer (some ⟨b + 1 + 1, 0, none⟩)]
def seqW (w : World) (s : ByteArray) : World := ((w.alloc (.cells #[.string s] 9)).alloc (.cells #[.string ⟨#[47]⟩] 9)).alloc (.cells #[.int .i64 0] 3)
theorem splitSeqC (w : World) (s : ByteArray) : Calls Tryd.prog 68 #[.string s, .string ⟨#[47]⟩, .int .i64 0] w fun e w' => e = .returned (seqV w.heap.size) ∧ w' = seqW w s := by
  go_enter Tryd.func68, Tryd.ntmps68
  go_wp2
  go_ret
  exact ⟨rfl, rfl⟩
theorem SplitSeqC (w : World) (s : ByteArray) : Calls Tryd.prog 66 #[.string s, .string ⟨#[47]⟩] w fun e w' => e = .returned (seqV w.heap.size) ∧ w' = seqW w s := by
  go_enter Tryd.func66, Tryd.ntmps66
  go_wp2_with fail
  refine Calls.mono (splitSeqC _ s) ?_
  rintro e w1 ⟨rfl, rfl⟩
  go_wp2
  go_ret
  exact ⟨rfl, rfl⟩
theorem namesC (w : World) (s : ByteArray) : Calls Tryd.prog 61 #[.string s] w fun e w' => e = .returned (seqV w.heap.size) ∧ w' = seqW w s := by
  go_enter Tryd.func61, Tryd.ntmps61
  go_wp2_with fail
  refine Calls.mono (SplitSeqC _ s) ?_
  rintro e w1 ⟨rfl, rfl⟩
  go_wp2
  go_ret
  exact ⟨rfl, rfl⟩
theorem seqW_facts (w : World) (s : ByteArray) : (seqW w s).heap[w.heap.size]? = some (.cells #[.string s] 9 (0, 0)) ∧ (seqW w s).heap[w.heap.size + 1]? = some (.cells #[.string ⟨#[47]⟩] 9 (0, 0)) ∧ (seqW w s).heap[w.heap.size + 1 + 1]? = some (.cells #[.int .i64 0] 3 (0, 0)) ∧ (seqW w s).heap.size = w.heap.size + 3 ∧ Ext w (seqW w s) := by
  refine ⟨blk_old (blk_old (heap_alloc_new w _)), blk_old (blk_new (by simp)), blk_new (by simp), by simp [seqW], (((Ext.refl w).alloc _).alloc _).alloc _⟩

set_option maxHeartbeats 4000000 in
set_option maxRecDepth 100000 in
theorem treePath (w : World) (s : ByteArray) (hs : s.size ≤ 140737488355328) :
    Calls Tryd.prog 45 #[.string s] w fun e w' => e = .returned (.bool (pathB s)) ∧ Ext w w' := by
  refine (callsIn_wide (n := 5)).1 ?_
  refine callsIn_of_wp_marks Tryd.func45 rfl trivial ?_ rfl
  simp only [Tryd.ntmps45, List.size_toArray, List.length_cons, List.length_nil, Nat.reduceAdd, Nat.reduceSub, Array.replicate_succ, Array.replicate_zero, List.push_toArray, List.append_toArray, List.nil_append, List.cons_append]
  by_cases hb : (64 : Int) < (s.size : Int)
  · gi_wp2
    have hp : pathB s = false := by unfold pathB; rw [decide_eq_false (show ¬ s.size ≤ 64 by omega)]; rfl
    refine ⟨.bool false, ?_, by rw [hp], (Ext.refl w).alloc _⟩
    simp [results, Tryd.f45, go_sem]
  · gi_wp2
    refine ⟨trivial, ((callsIn_wide (n := 5 - 1)).2 (namesC _ s)).mono ?_⟩
    rintro e w1 ⟨rfl, rfl⟩
    gi_wp2
    have F := seqW_facts ((w.alloc (.cells #[.bool false] 4)).alloc (.cells #[.int .i64 0] 3)) s
    simp only [World.size_alloc] at F
    obtain ⟨f0, f1, f2, fz, fx⟩ := F
    have bR := fx.keeps (blk_old (o := .cells #[.int .i64 0] 3) (heap_alloc_new w (.cells #[.bool false] 4)))
    have bN := fx.keeps (blk_new (w := w.alloc (.cells #[.bool false] 4)) (b := w.heap.size + 1) (o := .cells #[.int .i64 0] 3) (by simp))
    have X2 : Ext w (seqW ((w.alloc (.cells #[.bool false] 4)).alloc (.cells #[.int .i64 0] 3)) s) := (((Ext.refl w).alloc _).alloc _).trans fx
    have hs64 : s.size ≤ 64 := by omega
    clear fx hb
    generalize seqW ((w.alloc (.cells #[.bool false] 4)).alloc (.cells #[.int .i64 0] 3)) s = w2 at *
    generalize hG : w.heap.size = G at *
    have hz2 : w2.heap.size = G + 5 := by omega
    clear fz
    refine wp_rangeParts 5 (by omega) (G + 1 + 1 + 1) (G + 1 + 1) (G + 1 + 1 + 1 + 1) rfl rfl s f1 f0 f2 ⟨by omega, by omega⟩ (by omega)
      (fun pre W => pre.all nameB = true ∧ pre.length ≤ 4 ∧ W.heap[G]? = some (.cells #[.bool false] 4 (0, 0)) ∧ W.heap[G + 1]? = some (.cells #[.int .i64 (pre.length : Int)] 3 (0, 0)) ∧ w2.heap.size ≤ W.heap.size ∧ Ext w W)
      (fun c pre W => c = .ret ∧ ¬ (pre.length ≤ 4 ∧ pre.all nameB = true) ∧ W.heap[G]? = some (.cells #[.bool false] 4 (0, 0)) ∧ Ext w W)
      ?ip ?xp ?is ?ia ?h0
      (fun x => { tmps := #[.string s, undef, .pointer (some ⟨G, 0, none⟩), .pointer (some ⟨G + 1, 0, none⟩), .string x, .string s, .int .i64 (s.size : Int), .bool false, .string s, seqV (G + 1 + 1), .string x, undef, undef, undef, undef, undef, undef, undef, undef, undef], defers := [] })
      ?assign ?body ?done ?stop
    case ip =>
      rintro pre W l o o' ⟨h1, h2, h3, h4, h5, h6⟩ hl ho hc
      exact ⟨h1, h2, (put_other (by omega)).trans h3, (put_other (by omega)).trans h4, by simpa [World.putObj] using h5, h6.grown (grownBy_putObj' W l o') (fun k e => by cases e; omega)⟩
    case xp =>
      rintro c pre W l o o' ⟨h1, h2, h3, h6⟩ hl ho hc
      exact ⟨h1, h2, (put_other (by omega)).trans h3, h6.grown (grownBy_putObj' W l o') (fun k e => by cases e; omega)⟩
    case is =>
      rintro pre W u ⟨h1, h2, h3, h4, h5, h6⟩
      exact ⟨h1, h2, set_other h3 (by omega), set_other h4 (by omega), Nat.le_trans h5 (grown_setCell W (G + 1 + 1) 0 u).size, h6.setCell (p := ⟨G + 1 + 1, 0, none⟩) (by show _ ≤ G + 1 + 1; omega) u⟩
    case ia =>
      rintro pre W o ⟨h1, h2, h3, h4, h5, h6⟩
      exact ⟨h1, h2, blk_old h3, blk_old h4, by rw [World.size_alloc]; omega, h6.alloc o⟩
    case h0 => exact ⟨rfl, by simp, bR, bN, Nat.le_refl _, X2⟩
    case assign =>
      intro l x W K hK
      gi_wp2
      exact hK
    case body =>
      rintro l pre x W hxs ⟨h1, h2, h3, h4, h5, h6⟩
      have cN : W.cell? ⟨G + 1, 0, none⟩ = some (.int .i64 (pre.length : Int)) := by rw [block_cell h4]; rfl
      have fN := block_free h4 0
      have cR : W.cell? ⟨G, 0, none⟩ = some (.bool false) := by rw [block_cell h3]; rfl
      have fR := block_free h3 0
      obtain ⟨W1, hW1⟩ : ∃ W1, W.setCell ⟨G + 1, 0, none⟩ (.int .i64 ((pre.length : Int) + 1)) = W1 := ⟨_, rfl⟩
      have k3 : W1.heap[G]? = some (.cells #[.bool false] 4 (0, 0)) := by rw [← hW1]; exact set_other h3 (by omega)
      have k4 : W1.heap[G + 1]? = some (.cells #[.int .i64 ((pre.length : Int) + 1)] 3 (0, 0)) := by rw [← hW1]; exact block_setCell h4 _
      have kK : RKeeps (G + 1 + 1 + 1) (G + 1 + 1) (G + 1 + 1 + 1 + 1) W W1 := by rw [← hW1]; exact RKeeps.set (by omega) (by omega) (by omega) (by omega) (by omega) (by omega)
      have k5 : w2.heap.size ≤ W1.heap.size := by rw [← hW1]; exact Nat.le_trans h5 (grown_setCell W (G + 1) 0 _).size
      have k6 : Ext w W1 := by rw [← hW1]; exact h6.setCell (p := ⟨G + 1, 0, none⟩) (by show _ ≤ G + 1; omega) _
      have cR1 : W1.cell? ⟨G, 0, none⟩ = some (.bool false) := by rw [block_cell k3]; rfl
      have fR1 := block_free k3 0
      have hlen : (pre ++ [x]).length = pre.length + 1 := by simp
      have hall : (pre ++ [x]).all nameB = nameB x := by rw [List.all_append, h1]; simp
      have HW := Lib.hid hW1
      clear hW1
      by_cases hlt : pre.length < 4
      · have ht : ¬ (4 : Int) < (pre.length : Int) + 1 := by omega
        gi_wp2
        refine ⟨trivial, ?_⟩
        rw [HW.out]
        refine (CallsIn.inRound l ((callsIn_wide (n := 2)).2 (objName W1 x (by omega)))).mono ?_
        rintro e W2 ⟨rfl, y⟩
        have q3 := y.keeps k3
        have q4 := y.keeps k4
        have cR2 := y.cell cR1
        have fR2 := block_free q3 0
        have kK2 := kK.trans (RKeeps.ext (by omega) (by omega) (by omega) y)
        have q5 : w2.heap.size ≤ W2.heap.size := Nat.le_trans k5 y.size
        have q6 := k6.trans y
        cases hx : nameB x with
        | true =>
          gi_wp2
          exact ⟨kK2, by rw [hall, hx], by omega, q3, by rw [hlen]; exact q4, q5, q6⟩
        | false =>
          gi_wp2
          exact ⟨kK2.trans (RKeeps.set (by omega) (by omega) (by omega) (by omega) (by omega) (by omega)), rfl, fun h => by rw [hall, hx] at h; exact absurd h.2 (by decide), block_setCell q3 _, q6.setCell (p := ⟨G, 0, none⟩) (by show _ ≤ G; omega) _⟩
      · have ht : (4 : Int) < (pre.length : Int) + 1 := by omega
        gi_wp2
        refine ⟨trivial, ?_⟩
        rw [HW.out]
        gi_wp2
        exact ⟨kK.trans (RKeeps.set (by omega) (by omega) (by omega) (by omega) (by omega) (by omega)), rfl, fun h => by omega, block_setCell k3 _, k6.setCell (p := ⟨G, 0, none⟩) (by show _ ≤ G; omega) _⟩
    case done =>
      rintro D W hD ⟨h1, h2, h3, h4, h5, h6⟩ hK
      have cR : W.cell? ⟨G, 0, none⟩ = some (.bool false) := by rw [block_cell h3]; rfl
      have fR := block_free h3 0
      have hp : pathB s = true := by unfold pathB; rw [decide_eq_true hs64, decide_eq_true h2, h1]; rfl
      gi_wp2
      have hK' := (KeepsOthers.setCell W ⟨G, 0, none⟩ (.bool true)).same D _ hK rfl
      refine ⟨by simp, .inl ⟨_, _, rfl, run_takeDeferred hK', ?_⟩⟩
      have b5 : ((W.setCell ⟨G, 0, none⟩ (.bool true)).putObj D (.deferred none)).heap[G]? = _ := (put_other (by omega)).trans (block_setCell h3 (i := 0) (.bool true))
      have hc5 : ((W.setCell ⟨G, 0, none⟩ (.bool true)).putObj D (.deferred none)).cell? ⟨G, 0, none⟩ = some (.bool true) := by rw [block_cell b5]; rfl
      refine ⟨.bool true, ?_, by rw [hp], (h6.setCell (p := ⟨G, 0, none⟩) (by show _ ≤ G; omega) _).grown (grownBy_putObj' _ D _) (fun k e => by cases e; omega)⟩
      simp [results, Tryd.f45, go_sem, hc5]
    case stop =>
      rintro D c pre W hD hpre ⟨rfl, h2, h3, h6⟩ hK
      have hp : pathB s = false := by
        unfold pathB
        by_cases hl : (partsB s).length ≤ 4
        · have : (partsB s).all nameB = false := by
            cases ha : (partsB s).all nameB with
            | false => rfl
            | true =>
              refine absurd ⟨Nat.le_trans hpre.length_le hl, ?_⟩ h2
              rw [List.all_eq_true] at ha ⊢
              exact fun y hy => ha y (hpre.subset hy)
          rw [this]
          simp
        · rw [decide_eq_false hl]
          simp
      gi_wp2
      refine ⟨by simp, .inl ⟨_, _, rfl, run_takeDeferred hK, ?_⟩⟩
      have b5 : (W.putObj D (.deferred none)).heap[G]? = _ := (put_other (by omega)).trans h3
      have hc5 : (W.putObj D (.deferred none)).cell? ⟨G, 0, none⟩ = some (.bool false) := by rw [block_cell b5]; rfl
      refine ⟨.bool false, ?_, by rw [hp], h6.grown (grownBy_putObj' _ D _) (fun k e => by cases e; omega)⟩
      simp [results, Tryd.f45, go_sem, hc5]
end Go.Proofs.YtgcbkhmaabmdjaaDoor
