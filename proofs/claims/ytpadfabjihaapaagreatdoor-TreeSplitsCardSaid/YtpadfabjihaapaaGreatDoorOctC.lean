/- The walks of the reader: octet.Read, spot.take, Raw, number, U8 .. U64, Left, Err: what they answer and what becomes of the reader, for every input. -/
import Derived.Test.YtpadfabjihaapaaGreatDoorOctB
namespace Go.Proofs.YtpadfabjihaapaaGreatDoor
open Go.RowKit

/-- A reader at block g: the bytes l, the place at, the error. -/
structure IsRd (w : World) (g : Nat) (l : List UInt8) (at_ : Nat) (err : Int) : Prop where
  le : at_ ≤ l.length
  lim : l.length ≤ 140737488355328
  form : ∃ v, w.heap[g]? = some (.cells #[v, .int .i64 (at_ : Int), .int .i64 err] 208 (0, 0)) ∧ IsB w v l ∧ RowLt v g
theorem IsRd.ext {w w' : World} {g : Nat} {l : List UInt8} {at_ : Nat} {err : Int} (h : IsRd w g l at_ err) (k : Ext w w') : IsRd w' g l at_ err := by
  obtain ⟨h1, h2, v, h3, h4, h5⟩ := h
  exact ⟨h1, h2, v, by rw [k.block (block_lt h3)]; exact h3, h4.ext k, h5⟩
/-- A reader stays where a later block turns. -/
theorem IsRd.later {w w' : World} {g r : Nat} {l : List UInt8} {at_ : Nat} {err : Int} (h : IsRd w g l at_ err) (k : w.grownBy w' (some r)) (hr : g < r) : IsRd w' g l at_ err := by
  obtain ⟨h1, h2, v, h3, h4, h5⟩ := h
  exact ⟨h1, h2, v, by rw [k.block g (block_lt h3) (by simp; omega)]; exact h3, IsSl.low h4 h5 k (by omega), h5⟩
/-- What taking n bytes off makes of the place and the error, and the bytes. -/
def rNext (l : List UInt8) (at_ : Nat) (err n : Int) : Nat × Int :=
  if err ≠ 0 then (at_, err) else if n < 0 then (at_, 2) else if (l.length : Int) - at_ < n then (at_, 7) else (at_ + n.toNat, 0)
def rTake (l : List UInt8) (at_ : Nat) (err n : Int) : List UInt8 :=
  if err ≠ 0 then [] else if n < 0 then [] else if (l.length : Int) - at_ < n then [] else (l.drop at_).take n.toNat

set_option maxHeartbeats 1000000 in
theorem octetRead (w : World) (v : Value) (l : List UInt8) (h : IsB w v l) (hb : l.length ≤ 140737488355328) :
    Calls Tryz.prog 156 #[v] w fun e w' => ∃ g, e = .returned (.pointer (some ⟨g, 0, none⟩)) ∧ w.heap.size ≤ g ∧ IsRd w' g l 0 0 ∧ Ext w w' := by
  go_enter Tryz.func156, Tryz.ntmps156
  go_wp2_with fail
  refine (slicesClone _ v l h hb).mono ?_
  rintro e w1 ⟨v1, rfl, hown, hext⟩
  have hv := IsB.of_owns hown
  have hrl := RowLt.of_owns hown
  obtain ⟨ao, cap, rfl, b1, m1, z1, g1⟩ := hv.opened
  clear g1 z1
  go_wp2
  go_ret
  refine ⟨w1.heap.size, rfl, hext.size, ⟨Nat.zero_le _, hb, _, ?_, hv.ext ((Ext.refl _).alloc _), hrl⟩, hext.alloc _⟩
  exact heap_alloc_new w1 _

theorem rd_err {l : List UInt8} {at_ : Nat} {err n : Int} (h : err ≠ 0) : rNext l at_ err n = (at_, err) ∧ rTake l at_ err n = [] := by simp [rNext, rTake, h]
theorem rd_neg {l : List UInt8} {at_ : Nat} {n : Int} (h : n < 0) : rNext l at_ 0 n = (at_, 2) ∧ rTake l at_ 0 n = [] := by simp [rNext, rTake, h]
theorem rd_short {l : List UInt8} {at_ : Nat} {n : Int} (h : ¬ n < 0) (hs : (l.length : Int) - at_ < n) : rNext l at_ 0 n = (at_, 7) ∧ rTake l at_ 0 n = [] := by simp [rNext, rTake, h, hs]
theorem rd_ok {l : List UInt8} {at_ m : Nat} (hs : ¬ (l.length : Int) - at_ < m) : rNext l at_ 0 m = (at_ + m, 0) ∧ rTake l at_ 0 m = (l.drop at_).take m := by
  have h : ¬ (m : Int) < 0 := by omega
  simp [rNext, rTake, h, hs]

set_option maxHeartbeats 2000000 in
theorem octetTake (w : World) (g : Nat) (l : List UInt8) (at_ : Nat) (err n : Int) (h : IsRd w g l at_ err) (hn : -9223372036854775808 ≤ n ∧ n ≤ 9223372036854775807) :
    Calls Tryz.prog 163 #[.pointer (some ⟨g, 0, none⟩), .int .i64 n] w fun e w' => ∃ v', e = .returned v' ∧ IsB w' v' (rTake l at_ err n) ∧ IsRd w' g l (rNext l at_ err n).1 (rNext l at_ err n).2 ∧ w.grownBy w' (some g) := by
  obtain ⟨hle, hlim, v, hg, hv, hrl⟩ := h
  obtain ⟨ao, cap, rfl, b1, m1, z1, g1⟩ := hv.opened
  clear g1 z1
  have c0 : w.cell? ⟨g, 0, none⟩ = some (.slice ao l.length cap) := by rw [block_cell hg]; rfl
  have c1 : w.cell? ⟨g, 1, none⟩ = some (.int .i64 (at_ : Int)) := by rw [block_cell hg]; rfl
  have c2 : w.cell? ⟨g, 2, none⟩ = some (.int .i64 err) := by rw [block_cell hg]; rfl
  have f1 : w.frozen? ⟨g, 1, none⟩ = false := block_free hg 1
  have f2 : w.frozen? ⟨g, 2, none⟩ = false := block_free hg 2
  obtain ⟨n1, n2⟩ := hn
  have HG := Lib.hid hg
  clear hg
  have nou8 : ∀ k, Value.int .u8 k ∉ (#[Value.slice ao l.length cap, .int .i64 (at_ : Int), .int .i64 err]).toList := by intro k; simp
  by_cases he : err = 0
  · subst he
    by_cases hneg : n < 0
    · rw [(rd_neg hneg).1, (rd_neg hneg).2]
      go_enter Tryz.func163, Tryz.ntmps163
      go_wp2
      go_ret
      exact ⟨_, rfl, IsB.nil _, ⟨hle, hlim, _, block_setCell HG.out _, hv.kept (grown_setCell _ _ _ _) HG.out nou8, hrl⟩, grown_setCell _ _ _ _⟩
    · by_cases hs : (l.length : Int) - at_ < n
      · rw [(rd_short hneg hs).1, (rd_short hneg hs).2]
        go_enter Tryz.func163, Tryz.ntmps163
        go_wp2_with fail
        go_quiet (fail)
        go_wp2
        go_ret
        exact ⟨_, rfl, IsB.nil _, ⟨hle, hlim, _, block_setCell (w := w.drewN nq) HG.out _, hv.kept (grown_trans (grown_drewN w nq _) (grown_setCell _ _ _ _)) HG.out nou8, hrl⟩, grown_trans (grown_drewN w nq _) (grown_setCell _ _ _ _)⟩
      · obtain ⟨m, rfl⟩ : ∃ m : Nat, n = m := ⟨n.toNat, by omega⟩
        have hcut := hv.cut at_ (at_ + m) (by omega) (by omega)
        rw [show at_ + m - at_ = m from by omega] at hcut
        rw [(rd_ok hs).1, (rd_ok hs).2]
        have e1 : (at_ : Int) + m - m = at_ := by omega
        go_enter Tryz.func163, Tryz.ntmps163
        go_wp2_with fail
        go_quiet (fail)
        go_wp2_with fail
        go_quiet (fail)
        go_wp2
        all_goals go_ret
        all_goals
          have gr : ∀ (p q : Nat) (u : Value), w.grownBy (((w.drewN p).setCell ⟨g, 1, none⟩ u).drewN q) (some g) := fun p q u => grown_trans (grown_trans (grown_drewN w p _) (grown_setCell _ _ _ _)) (grown_drewN _ q _)
          refine ⟨_, rfl, ?_, ⟨by omega, hlim, _, block_setCell (w := w.drewN _) HG.out _, hv.kept (gr _ _ _) HG.out nou8, hrl⟩, gr _ _ _⟩
          have hk := fun p q u => hcut.kept (gr p q u) HG.out nou8
          simpa [*] using hk _ _ _
  · rw [(rd_err he).1, (rd_err he).2]
    have he' : (err != 0) = true := by simpa using he
    go_enter Tryz.func163, Tryz.ntmps163
    go_wp2
    go_ret
    exact ⟨_, rfl, IsB.nil _, ⟨hle, hlim, _, HG.out, hv, hrl⟩, World.grownBy.refl _ _⟩
end Go.Proofs.YtpadfabjihaapaaGreatDoor
