/- Drawn regions: what S says is held until operation p comes up; what p waits for by way of others may be taken first. Over any program. -/
import Derived.Test.YtgcbkhmaabmdjaaDoorRegG
import Derived.Test.YtgcbkhmaabmdjaaDoorRegGI
namespace Go.Proofs.YtgcbkhmaabmdjaaDoor
open Go.RowKit
set_option linter.unusedVariables false
section
variable {P : Program} {ops : Array Oper} {Q : Exit → Act → World → Prop} {md : Region.Mode} {S : World → Prop} {p : Nat}
theorem C_first {i : Nat} {oi : Oper} {u : Value} (ds : List Nat) (hi : ops[i]? = some oi) (hsel : Region.noSelect ops = true) (hQ : ∀ c a w, Q (.panic c) (a.put oi.dst u) w → Q (.panic c) a w)
    (hch : chainB md ops i ds = true) (hpd : p ∈ ds) (hid : i ∉ ds) :
    ∀ (n : Nat) (done : Array Bool) (a : Act) (w : World), (∀ j oj, ops[j]? = some oj → j ≠ i → done.getD j true = false → (∀ e ∈ oj.after, Region.binds md e = true → e.on ≠ i) → oi.apart ops oj = true) →
      i ∈ Region.ready md ops done → YieldsIf P ops S oi u a → S w → (∀ d ∈ ds, done.getD d true = false) →
      wpAnyG P md ops Q p S n (done.setIfInBounds i true) (a.put oi.dst u) w → wpAnyG P md ops Q p S (n + 1) done a w
  | 0, done, a, w, _, hr, hy, hS, _, H => by
    refine ⟨fun h => (by rw [h] at hr; cases hr), fun j hj => ?_⟩
    by_cases e : j = i
    · subst e
      exact hy.wpOp hi hS ⟨fun _ => hS, H⟩
    · have := ready_mono hj e
      rw [H.1] at this
      cases this
  | n + 1, done, a, w, hfree, hr, hy, hS, hun, H => by
    refine ⟨fun h => (by rw [h] at hr; cases hr), fun j hj => ?_⟩
    by_cases e : j = i
    · subst e
      exact hy.wpOp hi hS ⟨fun _ => hS, H⟩
    · have h1 := H.2 j (ready_mono hj e)
      obtain ⟨hjun, oj, hoj, hall⟩ := mem_ready.1 hj
      have hiun := (mem_ready.1 hr).1
      have hnot : ∀ d ∈ oj.after, Region.binds md d = true → d.on ≠ i := fun d hd hb q => by
        have h2 := hall d hd hb
        rw [q] at h2
        rcases Nat.lt_or_ge i done.size with h' | h'
        · simp [h'] at hiun h2; rw [hiun] at h2; cases h2
        · simp [Array.getElem?_eq_none h'] at h2
      have hjd : j ∉ ds := fun q => chain_not ds i hch hiun hun j q hj
      have hjp : j ≠ p := fun q => by subst q; exact hjd hpd
      have hip : i ≠ p := fun q => by subst q; exact hid hpd
      have hpu := hun p hpd
      have h2 := wpOp_putIf hoj (hfree j oj hoj e hjun hnot) (fun cs b => Region.noSelect_spec hsel i oi cs b hi) (fun cs b => Region.noSelect_spec hsel j oj cs b hoj) hQ hy h1
      have hfree' : ∀ k ok, ops[k]? = some ok → k ≠ i → (done.setIfInBounds j true).getD k true = false → (∀ d ∈ ok.after, Region.binds md d = true → d.on ≠ i) → oi.apart ops ok = true := fun k ok hk hki hun hno => by
        refine hfree k ok hk hki ?_ hno
        by_cases q : j = k
        · subst q; exact hjun
        · rwa [getD_set_ne true q] at hun
      have hp2 : ((done.setIfInBounds i true).setIfInBounds j true).getD p true = false := by rw [getD_set_ne true hjp, getD_set_ne true hip]; exact hpu
      refine wpOp_mono (fun b v h3 => ⟨fun _ => h3.2.1 hp2, C_first ds hi hsel hQ hch hpd hid n (done.setIfInBounds j true) b v hfree' (ready_mono hr (Ne.symm e)) h3.1 (h3.2.1 hp2) (fun d hd => by
        rw [getD_set_ne true (fun q => by subst q; exact hjd hd)]
        exact hun d hd) ?_⟩) h2
      rw [Array.setIfInBounds_comm _ _ e]
      exact h3.2.2
theorem C_take {i : Nat} {oi : Oper} {u : Value} (ds : List Nat) {n : Nat} {done : Array Bool} {a : Act} {w : World} (hi : ops[i]? = some oi) (hs : Region.noSelect ops = true) (hf : Region.free md ops done i = true) (hr : (Region.ready md ops done).contains i = true)
    (hQ : ∀ c a w, Q (.panic c) (a.put oi.dst u) w → Q (.panic c) a w) (hch : chainB md ops i ds = true) (hpd : ds.contains p = true) (hid : ds.contains i = false) (hun : (ds.all fun d => !(done.getD d true)) = true) (hy : YieldsIf P ops S oi u a) (hS : S w)
    (h : wpAnyG P md ops Q p S n (done.setIfInBounds i true) (a.put oi.dst u) w) : wpAnyG P md ops Q p S (n + 1) done a w :=
  C_first ds hi hs hQ hch (by simpa using hpd) (fun q => by have : ds.contains i = true := by simpa using q
                                                            rw [hid] at this; cases this) n done a w (Region.free_spec hi hf) (by simpa using hr) hy hS (fun d hd => by have := List.all_eq_true.1 hun d hd; simpa using this) h
end
end Go.Proofs.YtgcbkhmaabmdjaaDoor
