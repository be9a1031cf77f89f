/- Drawn regions with calls inside a round of a range over a function: walked as outside. Over any program. -/
import Derived.Test.YtkcddcomjbihgaaDoorRegP
import Derived.OrdersIn
import Derived.RangeFuncCalls
import Derived.TacticsIn
namespace Go.Proofs.YtkcddcomjbihgaaDoor
open Go.RowKit
set_option linter.unusedVariables false
def OnlyN (Q : Exit → Act → World → Prop) : Exit → Act → World → Prop
  | .normal, a, w => Q .normal a w
  | _, _, _ => False
section
variable {P : Program} {ops : Array Oper} {Q : Exit → Act → World → Prop} {md : Region.Mode}
theorem OnlyN.normal {a : Act} {w : World} (h : Q .normal a w) : OnlyN Q .normal a w := h
theorem opIn_of_wp {l n : Nat} {o : Oper} {a : Act} {w : World} {K : Act → World → Prop} (hd : ∀ c, o.op ≠ .defer c) (h : o.wp P a w K (NoPanic (OnlyN Q))) : o.wpIn (Fence.wide.inRound l) n P a w K (NoPanic (OnlyN Q)) := by
  unfold Oper.wpIn
  rw [Fence.inRound_round, Oper.semAt_some l _ o hd]
  refine ⟨fun f _ => trivial, ?_⟩
  unfold Oper.wp at h
  cases hr : (execOp a.eval o).run P w with
  | ok x w' =>
    rw [hr] at h
    cases x with
    | value v => exact h
    | skip => exact h
    | defer d => exact h
    | enter f args => exact ⟨fun h => by simp [Fence.wide, Fence.inRound] at h, CallsIn.inRound l (callsIn_wide.2 h)⟩
    | row row args => exact ⟨fun h => by simp [Fence.wide, Fence.inRound] at h, fun c cs _ => (h c cs).elim fun v h => h.elim fun w' h => ⟨v, w', h.1, stepsIn_wide.2 h.2⟩⟩
    | round l f tmps assign body => exact h.elim
    | _ => exact h.elim
  | halt x w' =>
    rw [hr] at h
    cases x <;> exact h
theorem noOut : ¬ LetsOut (NoPanic (OnlyN Q)) := fun ⟨_, _, h⟩ => h
def noDefer (o : Oper) : Bool := match o.op with | .defer _ => false | _ => true
theorem noDefer_spec {o : Oper} (h : noDefer o = true) : ∀ c, o.op ≠ .defer c := fun c e => by
  unfold noDefer at h
  rw [e] at h
  cases h
theorem anyIn_of_any {l m : Nat} (hd : ops.all noDefer = true) : ∀ (n : Nat) (done : Array Bool) (a : Act) (w : World), wpAny P md ops (NoPanic (OnlyN Q)) n done a w → wpAnyIn (Fence.wide.inRound l) m P md ops (NoPanic (OnlyN Q)) n done a w
  | 0, _, _, _, h => h
  | n + 1, done, a, w, h => ⟨h.1, fun i hi => by
      have h2 := h.2 i hi
      unfold wpOp at h2
      unfold wpOpIn
      cases ho : ops[i]? with
      | none => rw [ho] at h2; exact anyIn_of_any hd n _ _ _ h2
      | some o =>
        rw [ho] at h2
        simp only at h2 ⊢
        by_cases hw : Region.wanted o (yielded ops a.tmps) = true
        · rw [if_pos hw] at h2 ⊢
          rcases h2 with h2 | h2
          · obtain ⟨hlt, rfl⟩ := Array.getElem?_eq_some_iff.1 ho
            refine Oper.wpIn_mono (fun a w q => anyIn_of_any hd n _ a w q) (opIn_of_wp (noDefer_spec ?_) h2)
            exact Array.all_eq_true.1 hd i hlt
          · exact absurd h2.2 noOut
        · rw [if_neg hw] at h2 ⊢
          exact ⟨fun f _ => trivial, anyIn_of_any hd n _ _ _ h2⟩⟩
theorem only_imp {Q : Exit → Act → World → Prop} : ∀ (e : Exit) (a : Act) (w : World), NoPanic (OnlyN Q) e a w → Q e a w := fun e a w h => by
  cases e <;> first | exact h | exact (h : False).elim
/-- A drawn region inside a round: what S says is held until operation p comes up. -/
theorem wpR_region_G {id l m : Nat} {a : Act} {w : World} (p : Nat) (S : World → Prop) (hm : P.follows .mixedOrders = true) (hd : ops.all noDefer = true)
    (h : ∀ w', (∃ q, w' = w.drewN q) → Ext w w' → wpAnyG P .any ops (NoPanic (OnlyN Q)) p S ops.size (Array.replicate ops.size false) a w') : (Code.region id ops true).wpIn (Fence.wide.inRound l) m P Q a w :=
  wpIn_mono (wpIn_region_any hm (anyIn_of_any hd _ _ _ _ (any_of_G _ _ _ _ (h w.drew ⟨1, rfl⟩ ((Ext.refl w).drew))))) only_imp
end
end Go.Proofs.YtkcddcomjbihgaaDoor
