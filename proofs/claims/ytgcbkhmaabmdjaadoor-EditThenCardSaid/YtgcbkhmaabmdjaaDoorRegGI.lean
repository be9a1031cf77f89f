/- Drawn regions inside a fence: what S says is held until operation p comes up, and what reads under S may be taken first. Over any program. -/
import Derived.Test.YtgcbkhmaabmdjaaDoorRegG
import Derived.OrdersIn
namespace Go.Proofs.YtgcbkhmaabmdjaaDoor
open Go.RowKit
set_option linter.unusedVariables false
section
variable {F : Fence} {m : Nat} {P : Program} {ops : Array Oper} {Q : Exit → Act → World → Prop} {md : Region.Mode} {S : World → Prop} {p : Nat}

/-- Under S it yields v, and is about to call nothing. -/
def YieldsG (P : Program) (ops : Array Oper) (S : World → Prop) (o : Oper) (v : Value) (a : Act) : Prop := YieldsIf P ops S o v a ∧ ∀ w, o.about P w a.eval = none
theorem YieldsG.go {i : Nat} {o : Oper} {v : Value} {a : Act} (hro : F.round = none) (hi : ops[i]? = some o) (hy : YieldsG P ops S o v a) {K : Act → World → Prop} {w : World} (hS : S w) (h : K (a.put o.dst v) w) : wpOpIn F m P ops Q i K a w := by
  have hab : ∀ f, o.about P w a.eval = some f → F.fn f := fun f hf => by rw [hy.2 w] at hf; cases hf
  unfold wpOpIn
  rw [hi]
  rcases hy.1 with ⟨hw, hv⟩ | ⟨hw, rfl⟩
  · simp only [hw, if_true, Oper.wpIn, hro, Oper.semAt_none, hv w hS, Oper.uponIn]
    exact ⟨hab, h⟩
  · simp only [hw, Bool.false_eq_true, if_false]
    exact ⟨hab, h⟩
theorem YieldsG.put {oi oj : Oper} {v : Value} {a : Act} (hy : YieldsG P ops S oi v a) (hsi : ∀ cs b, oi.op ≠ .select cs b) (h : ∀ d, oj.dst = some d → d ∉ oi.looksAt ops) (u : Value) : YieldsG P ops S oi v (a.put oj.dst u) :=
  ⟨hy.1.of_same (execOp_put oi hsi a oj.dst u h) (wanted_put oi a oj.dst u h), fun w => by rw [about_put oi w a oj.dst u h]; exact hy.2 w⟩
theorem GI_swap {j : Nat} {oi oj : Oper} {v : Value} (hro : F.round = none) (hj : ops[j]? = some oj) (hap : oi.apart ops oj = true) (hsi : ∀ cs b, oi.op ≠ .select cs b) (hsj : ∀ cs b, oj.op ≠ .select cs b)
    (hQ : ∀ c a w, Q (.panic c) (a.put oi.dst v) w → Q (.panic c) a w) {K : Act → World → Prop} {a : Act} {w : World} (hy : YieldsG P ops S oi v a) (h : wpOpIn F m P ops Q j K (a.put oi.dst v) w) :
    wpOpIn F m P ops Q j (fun b u => YieldsG P ops S oi v b ∧ K (b.put oi.dst v) u) a w := by
  obtain ⟨k1, k2, k3⟩ := Oper.apart_spec hap
  have step := fun u => hy.put hsi k3 u
  unfold wpOpIn at *
  rw [hj] at h ⊢
  simp only at h ⊢
  rw [wanted_put oj a oi.dst v k1, about_put oj w a oi.dst v k1] at h
  split at h
  · rename_i hw
    rw [if_pos hw]
    unfold Oper.wpIn at h ⊢
    rw [about_put oj w a oi.dst v k1, hro, Oper.semAt_none, execOp_put oj hsj a oi.dst v k1] at h
    rw [hro, Oper.semAt_none]
    refine ⟨h.1, ?_⟩
    replace h := h.2
    cases hr : (execOp a.eval oj).run P w with
    | ok x w' =>
      rw [hr] at h
      cases x <;> simp only [Oper.uponIn] at h ⊢
      case value u => rw [Act.put_comm a v u k2] at h; exact ⟨step u, h⟩
      case skip => rw [Act.put_comm a v undef k2] at h; exact ⟨step _, h⟩
      case defer d =>
        refine ⟨(show YieldsG P ops S oi v { a with defers := d :: a.defers } from ⟨hy.1.of_same rfl rfl, hy.2⟩).put hsi k3 _, ?_⟩
        rw [← Act.put_comm _ v undef k2, ← Act.put_defers]
        exact h
      case enter f args =>
        refine ⟨h.1, CallsIn.mono h.2 fun e w2 he => ?_⟩
        cases e with
        | returned u => simp only at he; rw [Act.put_comm a v u k2] at he; exact ⟨step u, he⟩
        | panicked c => exact hQ _ _ _ he
        | outgrown => exact he
      case row row args => exact ⟨h.1, RowsIn.mono h.2 fun u w2 he => ⟨step u, by rw [← Act.put_comm a v u k2]; exact he⟩⟩
      case round l f tmps assign body =>
        refine ⟨h.1, RoundIn.mono h.2 fun e w2 he => ?_⟩
        cases e with
        | returned u => simp only at he; rw [Act.put_comm a v u k2] at he; exact ⟨step u, he⟩
        | panicked c => exact hQ _ _ _ he
        | outgrown => exact he
    | halt x w' =>
      rw [hr] at h
      cases x <;> simp only [Oper.uponIn] at h ⊢
      case panic u => exact hQ _ _ _ h
  · rename_i hw
    rw [if_neg hw]
    exact ⟨h.1, step _, by rw [← Act.put_comm a v undef k2]; exact h.2⟩

/-- Whatever order is picked; S holds as long as operation p has not come up. -/
def wpAnyGI (F : Fence) (m : Nat) (P : Program) (md : Region.Mode) (ops : Array Oper) (Q : Exit → Act → World → Prop) (p : Nat) (S : World → Prop) : Nat → Array Bool → Act → World → Prop
  | 0, done, a, w => Region.ready md ops done = [] ∧ Q .normal a w
  | n + 1, done, a, w =>
    (Region.ready md ops done = [] → Q .normal a w) ∧
      ∀ k ∈ Region.ready md ops done, wpOpIn F m P ops Q k (fun b v => ((done.setIfInBounds k true).getD p true = false → S v) ∧ wpAnyGI F m P md ops Q p S n (done.setIfInBounds k true) b v) a w
theorem any_of_GI : ∀ (n : Nat) (done : Array Bool) (a : Act) (w : World), wpAnyGI F m P md ops Q p S n done a w → wpAnyIn F m P md ops Q n done a w
  | 0, _, _, _, h => h
  | n + 1, _, _, _, h => ⟨h.1, fun k hk => wpOpIn_mono (fun b v q => any_of_GI n _ b v q.2) (h.2 k hk)⟩
/-- Operation d waits for operation i. -/
def waitsB (md : Region.Mode) (ops : Array Oper) (d i : Nat) : Bool := match ops[d]? with | some o => o.after.any fun e => Region.binds md e && e.on == i | none => false
/-- One waits for the next. -/
def chainB (md : Region.Mode) (ops : Array Oper) : Nat → List Nat → Bool
  | _, [] => true
  | i, d :: r => waitsB md ops d i && chainB md ops d r
theorem waits_not {d i : Nat} {done : Array Bool} (h : waitsB md ops d i = true) (hu : done.getD i true = false) : d ∉ Region.ready md ops done := fun hd => by
  obtain ⟨_, o, ho, hall⟩ := mem_ready.1 hd
  unfold waitsB at h
  rw [ho] at h
  obtain ⟨x, hx, hb⟩ := Array.any_eq_true.1 h
  rw [Bool.and_eq_true] at hb
  have h2 := hall _ (Array.getElem_mem hx) hb.1
  have h3 : (o.after[x]).on = i := by simpa using hb.2
  rw [h3] at h2
  rcases Nat.lt_or_ge i done.size with h' | h'
  · simp [h'] at hu h2; rw [hu] at h2; cases h2
  · simp [Array.getD, Nat.not_lt.2 h'] at hu
theorem chain_not {done : Array Bool} : ∀ (ds : List Nat) (i : Nat), chainB md ops i ds = true → done.getD i true = false → (∀ d ∈ ds, done.getD d true = false) → ∀ d ∈ ds, d ∉ Region.ready md ops done
  | [], _, _, _, _ => fun d hd => by cases hd
  | e :: r, i, h, hu, hun => fun d hd => by
    unfold chainB at h
    rw [Bool.and_eq_true] at h
    rcases List.mem_cons.1 hd with rfl | hd
    · exact waits_not h.1 hu
    · exact chain_not r e h.2 (hun e (List.mem_cons_self ..)) (fun x hx => hun x (List.mem_cons_of_mem _ hx)) d hd
theorem GI_first {i : Nat} {oi : Oper} {u : Value} (ds : List Nat) (hro : F.round = none) (hi : ops[i]? = some oi) (hsel : Region.noSelect ops = true) (hQ : ∀ c a w, Q (.panic c) (a.put oi.dst u) w → Q (.panic c) a w)
    (hch : chainB md ops i ds = true) (hpd : p ∈ ds) (hid : i ∉ ds) :
    ∀ (n : Nat) (done : Array Bool) (a : Act) (w : World), (∀ j oj, ops[j]? = some oj → j ≠ i → done.getD j true = false → (∀ e ∈ oj.after, Region.binds md e = true → e.on ≠ i) → oi.apart ops oj = true) →
      i ∈ Region.ready md ops done → YieldsG P ops S oi u a → S w → (∀ d ∈ ds, done.getD d true = false) →
      wpAnyGI F m P md ops Q p S n (done.setIfInBounds i true) (a.put oi.dst u) w → wpAnyGI F m P md ops Q p S (n + 1) done a w
  | 0, done, a, w, _, hr, hy, hS, _, H => by
    refine ⟨fun h => (by rw [h] at hr; cases hr), fun j hj => ?_⟩
    by_cases e : j = i
    · subst e
      exact hy.go hro hi hS ⟨fun _ => hS, H⟩
    · have := ready_mono hj e
      rw [H.1] at this
      cases this
  | n + 1, done, a, w, hfree, hr, hy, hS, hun, H => by
    refine ⟨fun h => (by rw [h] at hr; cases hr), fun j hj => ?_⟩
    by_cases e : j = i
    · subst e
      exact hy.go hro hi hS ⟨fun _ => hS, H⟩
    · have h1 := H.2 j (ready_mono hj e)
      obtain ⟨hjun, oj, hoj, hall⟩ := mem_ready.1 hj
      have hiun := (mem_ready.1 hr).1
      have hnot : ∀ d ∈ oj.after, Region.binds md d = true → d.on ≠ i := fun d hd hb q => by
        have h2 := hall d hd hb
        rw [q] at h2
        rcases Nat.lt_or_ge i done.size with h' | h'
        · simp [h'] at hiun h2; rw [hiun] at h2; cases h2
        · simp [Array.getElem?_eq_none h'] at h2
      have hjd : j ∉ ds := fun q => chain_not ds i hch hiun hun j q hj
      have hjp : j ≠ p := fun q => by subst q; exact hjd hpd
      have hip : i ≠ p := fun q => by subst q; exact hid hpd
      have hpu := hun p hpd
      have h2 := GI_swap hro hoj (hfree j oj hoj e hjun hnot) (fun cs b => Region.noSelect_spec hsel i oi cs b hi) (fun cs b => Region.noSelect_spec hsel j oj cs b hoj) hQ hy h1
      have hfree' : ∀ k ok, ops[k]? = some ok → k ≠ i → (done.setIfInBounds j true).getD k true = false → (∀ d ∈ ok.after, Region.binds md d = true → d.on ≠ i) → oi.apart ops ok = true := fun k ok hk hki hun hno => by
        refine hfree k ok hk hki ?_ hno
        by_cases q : j = k
        · subst q; exact hjun
        · rwa [getD_set_ne true q] at hun
      have hp2 : ((done.setIfInBounds i true).setIfInBounds j true).getD p true = false := by rw [getD_set_ne true hjp, getD_set_ne true hip]; exact hpu
      refine wpOpIn_mono (fun b v h3 => ⟨fun _ => h3.2.1 hp2, GI_first ds hro hi hsel hQ hch hpd hid n (done.setIfInBounds j true) b v hfree' (ready_mono hr (Ne.symm e)) h3.1 (h3.2.1 hp2) (fun d hd => by
        rw [getD_set_ne true (fun q => by subst q; exact hjd hd)]
        exact hun d hd) ?_⟩) h2
      rw [Array.setIfInBounds_comm _ _ e]
      exact h3.2.2
/-- Number i first: it reads under S, and p waits for it by way of ds. -/
theorem GI_take {i : Nat} {oi : Oper} {u : Value} (ds : List Nat) {n : Nat} {done : Array Bool} {a : Act} {w : World} (hro : F.round = none) (hi : ops[i]? = some oi) (hs : Region.noSelect ops = true) (hf : Region.free md ops done i = true) (hr : (Region.ready md ops done).contains i = true)
    (hQ : ∀ c a w, Q (.panic c) (a.put oi.dst u) w → Q (.panic c) a w) (hch : chainB md ops i ds = true) (hpd : ds.contains p = true) (hid : ds.contains i = false) (hun : (ds.all fun d => !(done.getD d true)) = true) (hy : YieldsIf P ops S oi u a) (hab : ∀ w, oi.about P w a.eval = none) (hS : S w)
    (h : wpAnyGI F m P md ops Q p S n (done.setIfInBounds i true) (a.put oi.dst u) w) : wpAnyGI F m P md ops Q p S (n + 1) done a w :=
  GI_first ds hro hi hs hQ hch (by simpa using hpd) (fun q => by have : ds.contains i = true := by simpa using q
                                                                 rw [hid] at this; cases this) n done a w (Region.free_spec hi hf) (by simpa using hr) ⟨hy, hab⟩ hS (fun d hd => by have := List.all_eq_true.1 hun d hd; simpa using this) h
/-- Whatever may come up. -/
theorem GI_all {rs : List Nat} {n : Nat} {done : Array Bool} {a : Act} {w : World} (hr : Region.ready md ops done = rs) (hne : rs ≠ [])
    (h : ∀ i ∈ rs, wpOpIn F m P ops Q i (fun b v => ((done.setIfInBounds i true).getD p true = false → S v) ∧ wpAnyGI F m P md ops Q p S n (done.setIfInBounds i true) b v) a w) : wpAnyGI F m P md ops Q p S (n + 1) done a w :=
  ⟨fun h0 => absurd (hr ▸ h0) hne, hr ▸ h⟩
/-- From where p has come up: no S any more. -/
theorem GI_free : ∀ (n : Nat) (done : Array Bool) (a : Act) (w : World), done.getD p true = true → wpAnyIn F m P md ops Q n done a w → wpAnyGI F m P md ops Q p S n done a w
  | 0, _, _, _, _, h => h
  | n + 1, done, a, w, hd, h => by
    have key : ∀ k, (done.setIfInBounds k true).getD p true = true := fun k => by
      by_cases q : k = p
      · subst q
        by_cases hk : k < done.size
        · simp [Array.getD, hk]
        · simp [Array.getD, hk]
      · rw [getD_set_ne true q]; exact hd
    exact ⟨h.1, fun k hk => wpOpIn_mono (fun b v q => ⟨fun e => absurd e (by rw [key k]; decide), GI_free n _ b v (key k) q⟩) (h.2 k hk)⟩
theorem wpIn_noPanic {id : Nat} {b : Bool} {a : Act} {w : World} (h : (Code.region id ops b).wpIn F m P (NoPanic Q) a w) : (Code.region id ops b).wpIn F m P Q a w := wpIn_mono h NoPanic.imp
theorem wpIn_region_GI {id : Nat} {a : Act} {w : World} (p : Nat) (S : World → Prop) (hm : P.follows .mixedOrders = true)
    (h : ∀ w', (∃ q, w' = w.drewN q) → Ext w w' → wpAnyGI F m P .any ops (NoPanic Q) p S ops.size (Array.replicate ops.size false) a w') : (Code.region id ops true).wpIn F m P Q a w :=
  wpIn_noPanic (wpIn_region_any hm (any_of_GI _ _ _ _ (h w.drew ⟨1, rfl⟩ ((Ext.refl w).drew))))
/-- A call of a function that returns. -/
theorem opIn_enter {o : Oper} {K : Act → World → Prop} {a : Act} {w : World} {f : FuncId} {args : Array Value} (h : (o.semAt F.round a.eval).run P w = .ok (.enter f args) w) (hab : ∀ f, o.about P w a.eval = some f → F.fn f) (hd : F.depth.isSome = true → 1 ≤ m)
    (hc : CallsIn F (m - 1) P f args w fun e w2 => ∃ v, e = .returned v ∧ K (a.put o.dst v) w2) : o.wpIn F m P a w K Q :=
  ⟨hab, by rw [h]; exact ⟨hd, CallsIn.mono hc fun e w2 he => by obtain ⟨v, rfl, hk⟩ := he; exact hk⟩⟩
/-- A call of yield. -/
theorem opIn_yield {o : Oper} {K : Act → World → Prop} {a : Act} {w : World} {l : Nat} {fn : FuncId} {tmps : Array Value} {assign body : Code} (h : (o.semAt F.round a.eval).run P w = .ok (.round l fn tmps assign body) w) (hab : ∀ f, o.about P w a.eval = some f → F.fn f) (hd : F.depth.isSome = true → 1 ≤ m)
    (hc : RoundIn F (m - 1) P l fn tmps assign body w fun e w2 => ∃ v, e = .returned v ∧ K (a.put o.dst v) w2) : o.wpIn F m P a w K Q :=
  ⟨hab, by rw [h]; exact ⟨hd, RoundIn.mono hc fun e w2 he => by obtain ⟨v, rfl, hk⟩ := he; exact hk⟩⟩
theorem wpOpIn_run {i : Nat} {o : Oper} {K : Act → World → Prop} {a : Act} {w : World} (hi : ops[i]? = some o) (hg : Region.wanted o (yielded ops a.tmps) = true) (h : o.wpIn F m P a w K Q) : wpOpIn F m P ops Q i K a w := by
  unfold wpOpIn
  simp only [hi, hg, if_true]
  exact h
end
end Go.Proofs.YtgcbkhmaabmdjaaDoor
