/- '[]byte(s)' at one operation of a drawn region. Over any program. -/
import Derived.Test.YtpadfabjihaapaaGreatDoorReg
import Derived.Test.YtpadfabjihaapaaGreatDoorOctA
import Derived.Laws.IdiomStrings
namespace Go.Proofs.YtpadfabjihaapaaGreatDoor
open Go.RowKit
set_option linter.unusedVariables false

theorem wp_strBytes {P : Program} {o : Oper} {a : Act} {w : World} {K : Act → World → Prop} {Q : Exit → Act → World → Prop} (src dst e : TypeId) (x : Operand) (ho : o.op = .convert src dst x) (s : ByteArray) (hx : a.eval x = .string s)
    (hs : P.underlying src = some .string) (hd : P.underlying dst = some (.slice e)) (he : P.underlying e = some (.int .u8)) (hl : s.size ≤ 9223372036854775807)
    (h : ∀ cap w', IsB w' (.slice (some ⟨w.heap.size, 0, none⟩) s.size cap) s.data.toList → Ext w w' → K (a.put o.dst (.slice (some ⟨w.heap.size, 0, none⟩) s.size cap)) w') : o.wp P a w K Q := by
  unfold Oper.wp execOp
  simp only [ho, hx, Sem.run_bind, run_bytes_of_string w src dst e s hs hd he, Result.andThen_ok]
  have hsz : s.data.toList.length = s.size := by rw [Array.length_toList]; rfl
  refine h _ _ ?_ (((Ext.refl w).drew).alloc _)
  refine ⟨by simp, some ⟨w.heap.size, 0, none⟩, _, by rw [hsz], by rw [hsz]; exact grownCap_ge w s.size 0 e, grownCap_le_maxLen w s.size 0 e hl, (fun h => by cases h), fun i hi => ⟨_, 0, rfl, ?_⟩⟩
  have hi' : i < s.data.size := by simpa using hi
  have hc : (w.drew.alloc (.cells (bytesRow s (grownCap w s.size 0 e)) e ((bytesRow s (grownCap w s.size 0 e)).size, (bytesRow s (grownCap w s.size 0 e)).size + 1))).cell? ⟨w.heap.size, i, none⟩ = _ := block_cell (heap_alloc_new w.drew _) i
  rw [Nat.zero_add, hc, bytesRow_at s _ i hi']
  simp only [List.getElem?_map, Array.getElem?_toList]
  rw [Array.getElem?_eq_getElem hi']
  rfl
/-- Cells in the middle of a block as a slice. -/
theorem range_sl {w : World} {b o n : Nat} {l : List UInt8} (h : w.rangeAt b o (l.map bc)) (hn : l.length = n) (hm : n ≤ 9223372036854775807) : IsSl w (.slice (some ⟨b, o, none⟩) n n) 1 n (l.map bc) := by
  subst hn
  refine ⟨by simp, _, _, rfl, Nat.le_refl _, hm, (fun h => by cases h), fun i hi => ⟨_, _, rfl, ?_⟩⟩
  have := h i ((l.map bc)[i]) (by rw [List.getElem?_eq_getElem hi])
  rw [this, List.getElem?_eq_getElem hi]
/-- A slice beside the block that grew. -/
theorem IsSl.apart {w w' : World} {g o n cap size m : Nat} {xs : List Value} (h : IsSl w (.slice (some ⟨g, o, none⟩) n cap) size m xs) {b : Option Nat} (k : w.grownBy w' b) (hb : b ≠ some g) : IsSl w' (.slice (some ⟨g, o, none⟩) n cap) size m xs := by
  obtain ⟨h1, ao, cap', e, h2, h3, h4, h5⟩ := h
  refine ⟨h1, ao, cap', e, h2, h3, h4, fun i hi => ?_⟩
  obtain ⟨b', off, e', hc⟩ := h5 i hi
  subst e'
  obtain ⟨⟨rfl, rfl, _⟩, _⟩ : (g = b' ∧ o = off ∧ True) ∧ True := by simp only [Value.slice.injEq, Option.some.injEq, Addr.mk.injEq] at e; exact ⟨⟨e.1.1, e.1.2.1, trivial⟩, trivial⟩
  refine ⟨g, o, rfl, ?_⟩
  rw [← hc]
  unfold World.cell? at hc ⊢
  cases hg : w.heap[g]? with
  | none => rw [hg] at hc; rw [List.getElem?_eq_getElem hi] at hc; simp at hc
  | some x => rw [k.block g (block_lt hg) (fun e => hb e.symm), hg]
end Go.Proofs.YtpadfabjihaapaaGreatDoor
