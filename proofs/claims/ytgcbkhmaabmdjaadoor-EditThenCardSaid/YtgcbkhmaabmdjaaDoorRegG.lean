/- Drawn regions whose loads come ahead of their stores: what S says is held until operation p comes up, and a load that p waits for may be taken first. Over any program. -/
import Derived.Test.YtgcbkhmaabmdjaaDoorRegS
import Derived.OrdersHeld
namespace Go.Proofs.YtgcbkhmaabmdjaaDoor
open Go.RowKit
section
variable {P : Program} {ops : Array Oper} {Q : Exit → Act → World → Prop} {md : Region.Mode} {S : World → Prop} {p : Nat}

/-- Whatever order is picked; S holds as long as operation p has not come up. -/
def wpAnyG (P : Program) (md : Region.Mode) (ops : Array Oper) (Q : Exit → Act → World → Prop) (p : Nat) (S : World → Prop) : Nat → Array Bool → Act → World → Prop
  | 0, done, a, w => Region.ready md ops done = [] ∧ Q .normal a w
  | n + 1, done, a, w =>
    (Region.ready md ops done = [] → Q .normal a w) ∧
      ∀ k ∈ Region.ready md ops done, wpOp P ops Q k (fun b v => ((done.setIfInBounds k true).getD p true = false → S v) ∧ wpAnyG P md ops Q p S n (done.setIfInBounds k true) b v) a w
theorem any_of_G : ∀ (n : Nat) (done : Array Bool) (a : Act) (w : World), wpAnyG P md ops Q p S n done a w → wpAny P md ops Q n done a w
  | 0, _, _, _, h => h
  | n + 1, _, _, _, h => ⟨h.1, fun k hk => wpOp_mono (fun b v q => any_of_G n _ b v q.2) (h.2 k hk)⟩
theorem G_first {i : Nat} {oi op : Oper} {u : Value} (hi : ops[i]? = some oi) (hsel : Region.noSelect ops = true) (hQ : ∀ c a w, Q (.panic c) (a.put oi.dst u) w → Q (.panic c) a w)
    (hp : ops[p]? = some op) (hwait : (op.after.any fun e => Region.binds md e && e.on == i) = true) (hip : i ≠ p) :
    ∀ (n : Nat) (done : Array Bool) (a : Act) (w : World), (∀ j oj, ops[j]? = some oj → j ≠ i → done.getD j true = false → (∀ e ∈ oj.after, Region.binds md e = true → e.on ≠ i) → oi.apart ops oj = true) →
      i ∈ Region.ready md ops done → YieldsIf P ops S oi u a → S w → done.getD p true = false →
      wpAnyG P md ops Q p S n (done.setIfInBounds i true) (a.put oi.dst u) w → wpAnyG P md ops Q p S (n + 1) done a w
  | 0, done, a, w, _, hr, hy, hS, _, H => by
    refine ⟨fun h => (by rw [h] at hr; cases hr), fun j hj => ?_⟩
    by_cases e : j = i
    · subst e
      exact hy.wpOp hi hS ⟨fun _ => hS, H⟩
    · have := ready_mono hj e
      rw [H.1] at this
      cases this
  | n + 1, done, a, w, hfree, hr, hy, hS, hpd, H => by
    refine ⟨fun h => (by rw [h] at hr; cases hr), fun j hj => ?_⟩
    by_cases e : j = i
    · subst e
      exact hy.wpOp hi hS ⟨fun _ => hS, H⟩
    · have h1 := H.2 j (ready_mono hj e)
      obtain ⟨hjun, oj, hoj, hall⟩ := mem_ready.1 hj
      have hiun := (mem_ready.1 hr).1
      have hnot : ∀ d ∈ oj.after, Region.binds md d = true → d.on ≠ i := fun d hd hb q => by
        have h2 := hall d hd hb
        rw [q] at h2
        rcases Nat.lt_or_ge i done.size with h' | h'
        · simp [h'] at hiun h2; rw [hiun] at h2; cases h2
        · simp [Array.getElem?_eq_none h'] at h2
      have hjp : j ≠ p := fun q => by
        subst q
        rw [hp] at hoj
        cases hoj
        obtain ⟨x, hx, hb⟩ := Array.any_eq_true.1 hwait
        rw [Bool.and_eq_true] at hb
        exact hnot _ (Array.getElem_mem hx) hb.1 (by simpa using hb.2)
      have h2 := wpOp_putIf hoj (hfree j oj hoj e hjun hnot) (fun cs b => Region.noSelect_spec hsel i oi cs b hi) (fun cs b => Region.noSelect_spec hsel j oj cs b hoj) hQ hy h1
      have hfree' : ∀ k ok, ops[k]? = some ok → k ≠ i → (done.setIfInBounds j true).getD k true = false → (∀ d ∈ ok.after, Region.binds md d = true → d.on ≠ i) → oi.apart ops ok = true := fun k ok hk hki hun hno => by
        refine hfree k ok hk hki ?_ hno
        by_cases q : j = k
        · subst q; exact hjun
        · rwa [getD_set_ne true q] at hun
      have hp1 : (done.setIfInBounds j true).getD p true = false := by rw [getD_set_ne true hjp]; exact hpd
      have hp2 : ((done.setIfInBounds i true).setIfInBounds j true).getD p true = false := by rw [getD_set_ne true hjp, getD_set_ne true hip]; exact hpd
      refine wpOp_mono (fun b v h3 => ⟨fun _ => h3.2.1 hp2, G_first hi hsel hQ hp hwait hip n (done.setIfInBounds j true) b v hfree' (ready_mono hr (Ne.symm e)) h3.1 (h3.2.1 hp2) hp1 ?_⟩) h2
      rw [Array.setIfInBounds_comm _ _ e]
      exact h3.2.2
/-- Number i first: a load that p waits for. -/
theorem G_take {i : Nat} {oi op : Oper} {u : Value} {n : Nat} {done : Array Bool} {a : Act} {w : World} (hi : ops[i]? = some oi) (hs : Region.noSelect ops = true) (hf : Region.free md ops done i = true) (hr : (Region.ready md ops done).contains i = true)
    (hQ : ∀ c a w, Q (.panic c) (a.put oi.dst u) w → Q (.panic c) a w) (hp : ops[p]? = some op) (hwait : (op.after.any fun e => Region.binds md e && e.on == i) = true) (hip : i ≠ p) (hpd : done.getD p true = false) (hy : YieldsIf P ops S oi u a) (hS : S w)
    (h : wpAnyG P md ops Q p S n (done.setIfInBounds i true) (a.put oi.dst u) w) : wpAnyG P md ops Q p S (n + 1) done a w :=
  G_first hi hs hQ hp hwait hip n done a w (Region.free_spec hi hf) (by simpa using hr) hy hS hpd h
/-- What reads no memory, at any time. -/
theorem G_all {rs : List Nat} {n : Nat} {done : Array Bool} {a : Act} {w : World} (hr : Region.ready md ops done = rs) (hne : rs ≠ [])
    (h : ∀ i ∈ rs, wpOp P ops Q i (fun b v => ((done.setIfInBounds i true).getD p true = false → S v) ∧ wpAnyG P md ops Q p S n (done.setIfInBounds i true) b v) a w) : wpAnyG P md ops Q p S (n + 1) done a w :=
  ⟨fun h0 => absurd (hr ▸ h0) hne, hr ▸ h⟩
/-- From where all that S is wanted for has come up: no S any more. -/
theorem G_free : ∀ (n : Nat) (done : Array Bool) (a : Act) (w : World), done.getD p true = true → wpAny P md ops Q n done a w → wpAnyG P md ops Q p S n done a w
  | 0, _, _, _, _, h => h
  | n + 1, done, a, w, hd, h => by
    have key : ∀ k, (done.setIfInBounds k true).getD p true = true := fun k => by
      by_cases q : k = p
      · subst q
        by_cases hk : k < done.size
        · simp [Array.getD, hk]
        · simp [Array.getD, hk]
      · rw [getD_set_ne true q]; exact hd
    exact ⟨h.1, fun k hk => wpOp_mono (fun b v q => ⟨fun e => absurd e (by rw [key k]; decide), G_free n _ b v (key k) q⟩) (h.2 k hk)⟩
theorem wp_region_G {id : Nat} {a : Act} {w : World} (p : Nat) (S : World → Prop) (hm : P.follows .mixedOrders = true)
    (h : ∀ w', (∃ q, w' = w.drewN q) → Ext w w' → wpAnyG P .any ops (NoPanic Q) p S ops.size (Array.replicate ops.size false) a w') : (Code.region id ops true).wp P Q a w :=
  wp_region_noPanic (wp_region_any hm (any_of_G _ _ _ _ (h w.drew ⟨1, rfl⟩ ((Ext.refl w).drew))))
end
end Go.Proofs.YtgcbkhmaabmdjaaDoor
