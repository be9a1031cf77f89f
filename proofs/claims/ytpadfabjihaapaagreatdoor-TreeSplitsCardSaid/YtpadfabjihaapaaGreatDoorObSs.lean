/- An object is the same as itself. -/
import Derived.Test.YtpadfabjihaapaaGreatDoorObE
namespace Go.Proofs.YtpadfabjihaapaaGreatDoor
open Go.RowKit
set_option linter.unusedVariables false

theorem entEq_iff (a b : EntL) : entEq a b = true ↔ a = b := by
  unfold entEq
  simp only [Bool.and_eq_true, beq_iff_eq, decide_eq_true_eq]
  constructor
  · rintro ⟨⟨h1, h2⟩, h3⟩
    have h1' : a.name = b.name := by
      rw [ByteArray.toList_eq, ByteArray.toList_eq] at h1
      exact ByteArray.ext (Array.toList_inj.1 h1)
    cases a; cases b; simp_all
  · rintro rfl
    exact ⟨⟨rfl, rfl⟩, rfl⟩
theorem same_self (o : ObjL) : sameB o o = true := by
  unfold sameB
  have h1 : listEq entEq o.ents o.ents = true := (listEq_same entEq entEq_iff _ _).2 rfl
  have h2 : listEq idEq o.pars o.pars = true := (listEq_same idEq (fun a b => by unfold idEq; simp) _ _).2 rfl
  rw [h1, h2]
  simp
end Go.Proofs.YtpadfabjihaapaaGreatDoor
