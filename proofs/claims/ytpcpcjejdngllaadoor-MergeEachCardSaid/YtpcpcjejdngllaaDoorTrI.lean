/- The parts of a path, and the walk of strings.SplitSeq's iterator over them. -/
import Derived.RangeFuncNested
import Derived.RangeFuncBound
import Derived.RangeFuncCalls
import Derived.RangeFuncLeaves
import Derived.Shelf.Abstract
import Derived.WalkKit
import Derived.OwnWalkIn
import Derived.TacticsInMore
import Derived.LoopNIn
import Derived.LoopIn
import Derived.Sort.LoopGhostIn
import Derived.Lib.IndexLaws
import Derived.Test.YtpcpcjejdngllaaDoorReg
import Derived.Test.YtpcpcjejdngllaaDoorShelf
namespace Go.Proofs.YtpcpcjejdngllaaDoor
open Go.RowKit Go.Shelf
attribute [local go_sem] Oper.semAt_some
set_option linter.unusedVariables false
set_option linter.unusedSimpArgs false

/-- What stands between the slashes. -/
def partsL : List UInt8 → List (List UInt8)
  | [] => [[]]
  | c :: r => if c = 47 then [] :: partsL r else match partsL r with
    | [] => [[c]]
    | p :: q => (c :: p) :: q
theorem partsL_none : ∀ (l : List UInt8), Lib.indexByte l 47 = -1 → partsL l = [l]
  | [], _ => rfl
  | c :: r, h => by
    unfold Lib.indexByte at h
    by_cases hc : c = 47
    · subst hc; simp at h
    · have hb : (c == 47) = false := by simpa using hc
      rw [hb] at h
      simp only [Bool.false_eq_true, if_false] at h
      by_cases hr : Lib.indexByte r 47 = -1
      · unfold partsL
        rw [if_neg hc, partsL_none r hr]
      · have hrb : (Lib.indexByte r 47 == -1) = false := by simpa using hr
        rw [hrb] at h
        simp only [Bool.false_eq_true, if_false] at h
        have := Lib.indexByte_ge r 47
        omega
theorem partsL_some : ∀ (l : List UInt8) (i : Nat), Lib.indexByte l 47 = (i : Int) → partsL l = l.take i :: partsL (l.drop (i + 1)) ∧ i < l.length
  | [], i, h => by simp [Lib.indexByte] at h
  | c :: r, i, h => by
    unfold Lib.indexByte at h
    by_cases hc : c = 47
    · subst hc
      have : i = 0 := by simp at h; omega
      subst this
      exact ⟨by unfold partsL; rw [if_pos rfl]; simp; cases r <;> rfl, by simp⟩
    · have hb : (c == 47) = false := by simpa using hc
      rw [hb] at h
      simp only [Bool.false_eq_true, if_false] at h
      by_cases hr : Lib.indexByte r 47 = -1
      · rw [hr] at h
        simp at h
      · have hrb : (Lib.indexByte r 47 == -1) = false := by simpa using hr
        rw [hrb] at h
        simp only [Bool.false_eq_true, if_false] at h
        have := Lib.indexByte_ge r 47
        obtain ⟨k, hk⟩ : ∃ k : Nat, i = k + 1 := ⟨i - 1, by omega⟩
        subst hk
        obtain ⟨e, hl⟩ := partsL_some r k (by omega)
        refine ⟨?_, by simp; omega⟩
        show (if c = 47 then [] :: partsL r else match partsL r with
          | [] => [[c]]
          | p :: q => (c :: p) :: q) = _
        rw [if_neg hc, e]
        rfl
/-- The parts of a text. -/
def partsB (s : ByteArray) : List ByteArray := (partsL s.data.toList).map fun l => ⟨l.toArray⟩
theorem ba_eta (s : ByteArray) : (⟨s.data.toList.toArray⟩ : ByteArray) = s := by cases s; rfl
theorem partsB_none {s : ByteArray} (h : Lib.indexByte s.data.toList 47 = -1) : partsB s = [s] := by
  unfold partsB
  rw [partsL_none _ h, List.map_singleton, ba_eta]
theorem ba_take (s : ByteArray) (i : Nat) (h : i ≤ s.size) : (⟨(s.data.toList.take i).toArray⟩ : ByteArray) = s.extract 0 i := by
  apply ByteArray.ext
  rw [ByteArray.data_extract]
  apply Array.ext'
  simp
theorem ba_drop (s : ByteArray) (i : Nat) (h : i ≤ s.size) : (s.extract i s.size).data.toList = s.data.toList.drop i := by
  rw [ByteArray.data_extract]
  simp
  rw [List.take_of_length_le]
  simp
theorem partsB_some {s : ByteArray} {i : Nat} (h : Lib.indexByte s.data.toList 47 = (i : Int)) : partsB s = s.extract 0 i :: partsB (s.extract (i + 1) s.size) ∧ i < s.size := by
  obtain ⟨e, hl⟩ := partsL_some _ i h
  have hl : i < s.size := by rw [Array.length_toList] at hl; exact hl
  refine ⟨?_, hl⟩
  unfold partsB
  rw [e, List.map_cons, ba_take s i (by omega), ba_drop s (i + 1) (by omega)]

set_option maxHeartbeats 4000000 in
set_option maxRecDepth 100000 in
/-- The iterator: each part comes, in its order, till a round says 'no more'. -/
theorem split_in (l n : Nat) (hn : 1 ≤ n) (Bp Bs Bv : Nat) (J Jx : List ByteArray → World → Prop)
    (hJs : ∀ pre W u, J pre W → J pre (W.setCell ⟨Bs, 0, none⟩ u))
    (hY : ∀ pre (x : ByteArray) W, x.size ≤ 1099511627776 → J pre W → YieldAt Fence.wide (n - 1) Tryd.prog l #[.string x] W fun e W' =>
      (e = .returned (.bool true) ∧ J (pre ++ [x]) W' ∧ W'.heap[Bp]? = W.heap[Bp]? ∧ W'.heap[Bs]? = W.heap[Bs]? ∧ W'.heap[Bv]? = W.heap[Bv]?) ∨ (e = .returned (.bool false) ∧ Jx (pre ++ [x]) W'))
    (s : ByteArray) (W : World) (hp : W.heap[Bp]? = some (.cells #[.string ⟨#[47]⟩] 9 (0, 0))) (hs : W.heap[Bs]? = some (.cells #[.string s] 9 (0, 0))) (hv : W.heap[Bv]? = some (.cells #[.int .i64 0] 3 (0, 0)))
    (hne : Bp ≠ Bs ∧ Bv ≠ Bs) (hsz : s.size ≤ 1099511627776) (h0 : J [] W) :
    CallsIn Fence.wide n Tryd.prog 102 #[.func (.yield l) #[] #[], .pointer (some ⟨Bp, 0, none⟩), .pointer (some ⟨Bs, 0, none⟩), .pointer (some ⟨Bv, 0, none⟩)] W fun e W' => (∃ v, e = .returned v) ∧
      (J (partsB s) W' ∨ ∃ pre, pre <+: partsB s ∧ Jx pre W') := by
  refine callsIn_of_wp Tryd.func102 rfl trivial ?_ rfl
  simp only [Tryd.ntmps102, List.size_toArray, List.length_cons, List.length_nil, Nat.reduceAdd, Nat.reduceSub, Array.replicate_succ, Array.replicate_zero, List.push_toArray, List.append_toArray, List.nil_append, List.cons_append]
  have cp : W.cell? ⟨Bp, 0, none⟩ = some (.string ⟨#[47]⟩) := by rw [block_cell hp]; rfl
  have cs : W.cell? ⟨Bs, 0, none⟩ = some (.string s) := by rw [block_cell hs]; rfl
  have cv : W.cell? ⟨Bv, 0, none⟩ = some (.int .i64 0) := by rw [block_cell hv]; rfl
  gi_wp2
  gi_loopg [7, 8] (s.size + 1) (fun g s7 s8 wr => ∃ (pre : List ByteArray) (r : ByteArray), r.size + 1 ≤ g ∧ pre ++ partsB r = partsB s ∧ r.size ≤ 1099511627776 ∧ wr.heap[Bp]? = some (.cells #[.string ⟨#[47]⟩] 9 (0, 0)) ∧ wr.heap[Bs]? = some (.cells #[.string r] 9 (0, 0)) ∧ wr.heap[Bv]? = some (.cells #[.int .i64 0] 3 (0, 0)) ∧ J pre wr)
  case atStart => exact ⟨[], s, by omega, rfl, hsz, hp, hs, hv, h0⟩
  case round =>
    clear hp hs hv h0 cp cs cv
    obtain ⟨pre, r, hg, hpr, hrs, hp, hs, hv, hJ⟩ := hrel
    have cp : wr.cell? ⟨Bp, 0, none⟩ = some (.string ⟨#[47]⟩) := by rw [block_cell hp]; rfl
    have cs : wr.cell? ⟨Bs, 0, none⟩ = some (.string r) := by rw [block_cell hs]; rfl
    have cv : wr.cell? ⟨Bv, 0, none⟩ = some (.int .i64 0) := by rw [block_cell hv]; rfl
    have fs := block_free hs 0
    obtain ⟨ix, hix⟩ : ∃ ix, Lib.indexByte r.data.toList 47 = ix := ⟨_, rfl⟩
    have hge := Lib.indexByte_ge r.data.toList 47
    rw [hix] at hge
    by_cases hneg : ix < 0
    · have hn1 : partsB r = [r] := partsB_none (by omega)
      have HN := Lib.hid hn1
      clear hn1 hge
      obtain ⟨fn, tmps, assign, body, hy, hR⟩ := hY pre r wr hrs hJ
      gi_wp2
      refine ⟨trivial, ((callsIn_wide (n := n - 1)).2 (Tryd.strings_Index_one r 47 wr)).mono ?_⟩
      rintro e w' ⟨rfl, rfl⟩
      rw [hix]
      gi_wp2
      refine hR.mono ?_
      rintro e W' (⟨rfl, hJ', hk1, hk2, hk3⟩ | ⟨rfl, hJx'⟩)
      · gi_wp2
        go_end0
        exact ⟨⟨_, rfl⟩, .inl (by rw [← hpr, HN.out]; exact hJ')⟩
      · gi_wp2
        go_end0
        exact ⟨⟨_, rfl⟩, .inr ⟨_, by rw [← hpr, HN.out]; exact List.prefix_rfl, hJx'⟩⟩
    · obtain ⟨i, rfl⟩ : ∃ i : Nat, ix = (i : Int) := ⟨ix.toNat, by omega⟩
      obtain ⟨hps, hil⟩ := partsB_some hix
      have HP := Lib.hid hps
      clear hps hge
      have hi1 : (i : Int) ≤ (r.size : Int) := by omega
      have hi2 : (i : Int) + 1 ≤ (r.size : Int) := by omega
      have hi0 : (0 : Int) ≤ (i : Int) := Int.natCast_nonneg _
      obtain ⟨fn, tmps, assign, body, hy, hR⟩ := hY pre (r.extract 0 i) wr (by rw [ByteArray.size_extract]; omega) hJ
      gi_wp2
      refine ⟨trivial, ((callsIn_wide (n := n - 1)).2 (Tryd.strings_Index_one r 47 wr)).mono ?_⟩
      rintro e w' ⟨rfl, rfl⟩
      rw [hix]
      gi_wp2
      refine hR.mono ?_
      rintro e W' (⟨rfl, hJ', hk1, hk2, hk3⟩ | ⟨rfl, hJx'⟩)
      · rw [hp] at hk1
        rw [hs] at hk2
        rw [hv] at hk3
        have cp2 : W'.cell? ⟨Bp, 0, none⟩ = some (.string ⟨#[47]⟩) := by rw [block_cell hk1]; rfl
        have cs2 : W'.cell? ⟨Bs, 0, none⟩ = some (.string r) := by rw [block_cell hk2]; rfl
        have fs2 := block_free hk2 0
        have bs3 := block_setCell hk2 (i := 0) (.string (r.extract (i + 1) r.size))
        have bp3 := set_other hk1 hne.1 (i := 0) (u := .string (r.extract (i + 1) r.size))
        have bv3 := set_other hk3 hne.2 (i := 0) (u := .string (r.extract (i + 1) r.size))
        have BS := Lib.hid bs3
        have BP := Lib.hid bp3
        have BV := Lib.hid bv3
        clear hk1 hk2 hk3 bs3 bp3 bv3
        gi_wp2
        gi_roundg (r.size - (i + 1) + 1)
        case measure => omega
        case rel =>
          refine ⟨pre ++ [r.extract 0 i], r.extract (i + 1) r.size, by rw [ByteArray.size_extract]; omega, ?_, by rw [ByteArray.size_extract]; omega, BP.out, BS.out, BV.out, hJs _ _ _ hJ'⟩
          rw [← hpr, HP.out, List.append_assoc]
          rfl
      · gi_wp2
        refine bodyPost_ret (results_none rfl _ _ _) rfl ?_
        exact ⟨⟨_, rfl⟩, .inr ⟨_, by rw [← hpr, HP.out]; exact ⟨partsB (r.extract (i + 1) r.size), by simp⟩, hJx'⟩⟩
end Go.Proofs.YtpcpcjejdngllaaDoor
