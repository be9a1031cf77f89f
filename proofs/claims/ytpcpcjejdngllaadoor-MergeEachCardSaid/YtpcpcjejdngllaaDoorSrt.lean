/- The library's Sort and Compact at a row of strings of the call's own. -/
import Derived.Test.YtpcpcjejdngllaaDoorReg
import Derived.Test.YtpcpcjejdngllaaDoorShelf
import Derived.Sort.OwnSorted
import Derived.Lib.RowBridge
namespace Go.Proofs.YtpcpcjejdngllaaDoor
open Go.RowKit
set_option linter.unusedVariables false
set_option linter.unusedSimpArgs false

theorem sortRow (w : World) (base : Nat) (v : Value) (ss : List (List UInt8)) (h : w.ownsRow base 9 1 v ss.length (ss.map encStr)) (hl : ss.length ≤ 1000000) :
    Calls Tryd.prog 58 #[v] w fun e w' => e = .returned (.tuple #[]) ∧ w'.ownsRow base 9 1 v ss.length ((ss.mergeSort fun x y => decide (x ≤ y)).map encStr) ∧ w.grownBy w' v.ownBlock := by
  have h0 := h
  rcases h.2 with ⟨rfl, hn⟩ | ⟨g, cap, cur, rfl, hb, hg, hn, hcap, hs, ht⟩
  · obtain rfl : ss = [] := List.eq_nil_of_length_eq_zero hn
    refine Calls.mono (Tryd.slices_Sort_string_none none 0 w) ?_
    rintro e w' ⟨rfl, rfl⟩
    exact ⟨rfl, by simpa using h0, World.grownBy.refl _ _⟩
  · refine Calls.mono (Tryd.slices_Sort_string g 0 cap ss w (holds_of_block hg (by simpa using ht)) (block_lt hg) (by omega)) ?_
    rintro e w' ⟨rfl, n, os, rfl⟩
    exact ⟨rfl, ownsRow_sorted (by simp) hb hg hn hcap hs, grownBy_sorted _⟩
theorem compactRow (w : World) (base : Nat) (v : Value) (zs : List (List UInt8)) (h : w.ownsRow base 9 1 v zs.length (zs.map encStr)) (hl : zs.length ≤ 1000000) :
    Calls Tryd.prog 59 #[v] w fun e w' => ∃ v', e = .returned v' ∧ v'.ownBlock = v.ownBlock ∧ w'.ownsRow base 9 1 v' (Lib.compact zs).length ((Lib.compact zs).map encStr) ∧ w.grownBy w' v.ownBlock := by
  have h0 := h
  rcases h.2 with ⟨rfl, hn⟩ | ⟨g, cap, cur, rfl, hb, hg, hn, hcap, hs, ht⟩
  · obtain rfl : zs = [] := List.eq_nil_of_length_eq_zero hn
    refine Calls.mono (Tryd.slices_Compact_string_empty none 0 w) ?_
    rintro e w' ⟨rfl, rfl⟩
    exact ⟨_, rfl, rfl, by simpa [Lib.compact, Lib.compactUpTo] using h0, World.grownBy.refl _ _⟩
  · refine Calls.mono (Tryd.slices_Compact_string g 0 cap zs w (holds_of_block hg (by simpa using ht)) (by omega) hn) ?_
    rintro e w' ⟨rfl, n, rfl⟩
    have hcl := Lib.compact_length_le zs
    have hlen : (Lib.compact zs ++ List.replicate (zs.length - (Lib.compact zs).length) []).length = zs.length := by rw [List.length_append, List.length_replicate]; omega
    have own := ownsRow_sorted (w := w) (n := n) (os := #[]) (e := 9) hlen hb hg hn hcap hs
    have gr := grownBy_sorted (w := w) (g := g) (n := n) (os := #[]) (Lib.compact zs ++ List.replicate (zs.length - (Lib.compact zs).length) []).toArray
    rw [Sort.grow_empty] at own gr
    refine ⟨_, rfl, rfl, ?_, gr⟩
    rcases own.2 with ⟨e1, _⟩ | ⟨g', cap', cur', e1, hb', hg', hn', hcap', hs', ht'⟩
    · cases e1
    · simp only [Value.slice.injEq, Option.some.injEq, Addr.mk.injEq, true_and, and_true] at e1
      obtain ⟨rfl, rfl⟩ := e1
      refine ⟨by simp, .inr ⟨g, cap, cur', rfl, hb', hg', by omega, hcap', hs', ?_⟩⟩
      rw [Nat.mul_one] at ht' ⊢
      have : (cur'.toList.take zs.length).take (Lib.compact zs).length = (Lib.compact zs).map encStr := by
        rw [ht', List.map_append, List.take_left' (by simp)]
      rw [List.take_take, Nat.min_eq_left hcl] at this
      exact this
end Go.Proofs.YtpcpcjejdngllaaDoor
