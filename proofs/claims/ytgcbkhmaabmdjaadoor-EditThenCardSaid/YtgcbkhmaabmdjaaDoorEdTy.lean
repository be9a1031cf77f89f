/- What an api.Edit is in a slice. -/
import Derived.Test.YtgcbkhmaabmdjaaDoorEdJ
namespace Go.Proofs.YtgcbkhmaabmdjaaDoor
open Go.RowKit
set_option linter.unusedVariables false

theorem tyE : ETy Tryd.prog 25 40 (.agg #[.string ByteArray.empty, .int .i64 0, .int .i64 0, .string ByteArray.empty]) 4 48 := ⟨Tryd.underlying25, info_parts infoEdit, rfl, by decide⟩
theorem edC_one (l : List Ed) : ∀ u ∈ l.flatMap edC, u.oneCell' = true := by
  intro u hu
  obtain ⟨x, _, hx⟩ := List.mem_flatMap.1 hu
  simp only [edC, List.mem_cons, List.not_mem_nil, or_false] at hx
  rcases hx with rfl | rfl | rfl | rfl <;> rfl

theorem lit_sl (w : World) (x : Ed) {b : Nat} (hb : w.heap.size = b) : IsSl (w.alloc (.cells #[.string x.path, .int .i64 x.at_, .int .i64 x.n, .string x.text] 40)) (.slice (some ⟨b, 0, none⟩) 1 1) 4 1 (edC x) := by
  subst hb
  refine ⟨rfl, _, _, rfl, by decide, by decide, (fun h => by cases h), fun i hi => ⟨_, 0, rfl, ?_⟩⟩
  rw [Nat.zero_add, World.cell?_alloc_new, ← Array.getElem?_toList]
  rfl
theorem edC_one1 (x : Ed) : ∀ u ∈ edC x, u.oneCell' = true := by
  intro u hu
  exact edC_one [x] u (by simpa using hu)
end Go.Proofs.YtgcbkhmaabmdjaaDoor
