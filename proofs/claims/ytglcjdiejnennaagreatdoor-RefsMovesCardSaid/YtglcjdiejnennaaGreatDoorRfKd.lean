/- The walk of the reference's Apply. -/
import Derived.Test.YtglcjdiejnennaaGreatDoorRfI
import Derived.Test.YtglcjdiejnennaaGreatDoorRegG
import Derived.Test.YtglcjdiejnennaaGreatDoorRegC
import Derived.Test.YtglcjdiejnennaaGreatDoorRegP
import Derived.Test.YtglcjdiejnennaaGreatDoorObL
import Derived.Deep.DeepAppendWide
import Derived.Deep.DeepCutAuto
namespace Go.Proofs.YtglcjdiejnennaaGreatDoor
open Go.RowKit
set_option linter.unusedVariables false
set_option linter.unusedSimpArgs false

def keepL (nm : ByteArray) (x : Rf) : List Rf := if (x.name.toList == nm.toList) = true then [] else [x]
def stepL (nm : ByteArray) (dst : List UInt8) : List Rf → Bool → List Rf
  | [], d => if d = true then [] else [⟨nm, dst⟩]
  | x :: r, d => if d = false ∧ nl x.name nm = false then ⟨nm, dst⟩ :: (keepL nm x ++ stepL nm dst r true) else keepL nm x ++ stepL nm dst r d
/-- What the reference's Apply answers. -/
def applyS (l : List Rf) (m : Mv) : List Rf × Int :=
  if (!okR l || (!nameB m.nm || (zr m.fr && zr m.dst))) = true then ([], 190)
  else match getR l m.nm with
  | none => if zr m.fr = false then ([], 4) else if l.length = 8 then ([], 6) else (stepL m.nm m.dst l (zr m.dst), 0)
  | some e => if zr m.fr = true then ([], 5) else if e.id ≠ m.fr then ([], 191) else (stepL m.nm m.dst l (zr m.dst), 0)
theorem own_neT {w : World} {base : Nat} {e t : TypeId} {size : Nat} {v : Value} {n : Nat} {xs : List Value} {g : Nat} {c : Array Value} {f : Nat × Nat} (h : w.ownsRow base e size v n xs) (hg : w.heap[g]? = some (.cells c t f)) (hne : t ≠ e) : v.ownBlock ≠ some g := by
  rcases h.2 with ⟨rfl, rfl⟩ | ⟨g', cap, cur, rfl, _, hh, _⟩
  · simp [Value.ownBlock]
  · intro hx
    simp [Value.ownBlock] at hx
    subst hx
    rw [hh] at hg
    simp only [Option.some.injEq, Obj.cells.injEq] at hg
    exact hne hg.2.1.symm

theorem block_all {w : World} {g : Nat} {c : Array Value} {e : TypeId} {f : Nat × Nat} (h : w.heap[g]? = some (.cells c e f)) : ∀ i, w.cell? ⟨g, i, none⟩ = c[i]? := fun i => block_cell h i
end Go.Proofs.YtglcjdiejnennaaGreatDoor
