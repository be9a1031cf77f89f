/- The closure of edit.Apply; slices.Clone at files. -/
import Derived.Test.YtgcbkhmaabmdjaaDoorFlE
import Derived.Test.YtgcbkhmaabmdjaaDoorEdA
import Derived.Lib.SliceRun
namespace Go.Proofs.YtgcbkhmaabmdjaaDoor
open Go.RowKit
set_option linter.unusedVariables false
set_option linter.unusedSimpArgs false

set_option maxHeartbeats 4000000 in
set_option maxRecDepth 100000 in
theorem indexAp (w : World) (v : Value) (l : List Fl) (h : IsF w v l) (q : Addr) (C : World → Prop) (hC : C w) (hCx : ∀ A B, C A → Ext A B → C B) (p : Fl → Bool)
    (hc : ∀ (W : World) (x : Fl), C W → flOk x → Calls Tryd.prog 28 #[.agg #[.string x.path, .string x.text], .pointer (some q)] W fun e w' => e = .returned (.bool (p x)) ∧ Ext W w') :
    Calls Tryd.prog 48 #[v, .func (Fn.func 28) #[] #[.pointer (some q)]] w fun e w' => ∃ r, e = .returned (.int .i64 r) ∧ FoundF l p r ∧ Ext w w' := by
  obtain ⟨ao, cap, rfl, b1, m1, z1, g1⟩ := h.opened
  have G1 := Lib.hid g1
  have HO := Lib.hid h.ok
  have HC := Lib.hid hc
  clear g1 z1 h hc
  go_enter Tryd.func48, Tryd.ntmps48
  go_wp2
  go_loopg [8] l.length (fun g s8 wr => ∃ k : Nat, k ≤ l.length ∧ l.length - k ≤ g ∧ s8 = .int .i64 k ∧ (∀ j (hj : j < l.length), j < k → p l[j] = false) ∧ Ext w wr)
  case atStart => exact ⟨0, Nat.zero_le _, by omega, rfl, fun j _ hj => absurd hj (Nat.not_lt_zero _), Ext.refl _⟩
  case round =>
    obtain ⟨k, hk, hg, rfl, hall, xr⟩ := hrel
    have HALL := Lib.hid hall
    clear hall
    by_cases hlt : k < l.length
    · obtain ⟨pb, o, rfl, e0, e1⟩ := G1.out k hlt
      have e0 := xr.cell e0
      have e1 := xr.cell e1
      have hqr := hCx _ _ hC xr
      have hok := HO.out l[k] (List.getElem_mem hlt)
      generalize hx : l[k] = x at *
      have HX := Lib.hid hx
      clear hx
      go_wp2_with fail
      refine Calls.mono (HC.out _ x hqr hok) ?_
      rintro e w2 ⟨rfl, x2⟩
      cases hp : p x
      · have HP := Lib.hid hp
        clear hp
        go_wp2
        go_roundg (l.length - (k + 1))
        case measure => omega
        case rel =>
          refine ⟨k + 1, by omega, by omega, by go_num, fun j hj hj1 => ?_, xr.trans x2⟩
          by_cases e : j = k
          · subst e; rw [HX.out]; exact HP.out
          · exact HALL.out j hj (by omega)
      · have HP := Lib.hid hp
        clear hp
        go_wp2
        go_ret
        exact ⟨_, rfl, .inl ⟨k, hlt, rfl, by rw [HX.out]; exact HP.out, fun j hj hj1 => HALL.out j hj hj1⟩, xr.trans x2⟩
    · have : k = l.length := by omega
      subst this
      go_wp2
      go_ret
      exact ⟨_, rfl, .inr ⟨rfl, fun j hj => HALL.out j hj hj⟩, xr⟩

set_option maxHeartbeats 4000000 in
theorem containsAp (w : World) (v : Value) (l : List Fl) (h : IsF w v l) (q : Addr) (C : World → Prop) (hC : C w) (hCx : ∀ A B, C A → Ext A B → C B) (p : Fl → Bool)
    (hc : ∀ (W : World) (x : Fl), C W → flOk x → Calls Tryd.prog 28 #[.agg #[.string x.path, .string x.text], .pointer (some q)] W fun e w' => e = .returned (.bool (p x)) ∧ Ext W w') :
    Calls Tryd.prog 27 #[v, .func (Fn.func 28) #[] #[.pointer (some q)]] w fun e w' => e = .returned (.bool (l.any p)) ∧ Ext w w' := by
  obtain ⟨R, hR⟩ : ∃ R, l.any p = R := ⟨_, rfl⟩
  rw [hR]
  have HR := Lib.hid hR
  clear hR
  go_enter Tryd.func27, Tryd.ntmps27
  go_wp2_with fail
  refine Calls.mono (indexAp _ v l h q C hC hCx p hc) ?_
  rintro e w1 ⟨r, rfl, hf, x1⟩
  rcases hf with ⟨i, hi, rfl, hp, _⟩ | ⟨rfl, hn⟩
  · have hRt : R = true := by rw [← HR.out, List.any_eq_true]; exact ⟨l[i], List.getElem_mem hi, hp⟩
    have hi0 : (0 : Int) ≤ (i : Int) := Int.natCast_nonneg _
    subst hRt
    clear hp
    go_wp2
    go_ret
    exact ⟨rfl, x1⟩
  · have hRf : R = false := by
      rw [← HR.out, List.any_eq_false]
      intro x hx
      obtain ⟨j, hj, rfl⟩ := List.getElem_of_mem hx
      rw [hn j hj]
      decide
    subst hRf
    clear hn
    go_wp2
    go_ret
    exact ⟨rfl, x1⟩

set_option maxHeartbeats 4000000 in
theorem apClosure (w : World) (x : Fl) (q : Nat) (p : ByteArray) (h0 : w.cell? ⟨q, 0, none⟩ = some (.string p)) :
    Calls Tryd.prog 28 #[.agg #[.string x.path, .string x.text], .pointer (some ⟨q, 0, none⟩)] w fun e w' => e = .returned (.bool (x.path.toList == p.toList)) ∧ Ext w w' := by
  have hq := World.block_lt_of_cell? _ _ h0
  simp only at hq
  go_enter Tryd.func28, Tryd.ntmps28
  go_wp2
  go_ret
  exact ⟨rfl, (Ext.refl w).alloc _⟩

theorem infoFile : (Tryd.prog.info? 42).map (fun i => (i.zero, i.size, i.bytes)) = some (some (.agg #[.string ByteArray.empty, .string ByteArray.empty]), 2, 32) := by kernel_rfl
theorem tyFl : ETy Tryd.prog 22 42 (.agg #[.string ByteArray.empty, .string ByteArray.empty]) 2 32 := ⟨Tryd.underlying22, info_parts infoFile, rfl, by decide⟩
theorem flC_one (l : List Fl) : ∀ u ∈ l.flatMap flC, u.oneCell' = true := by
  intro u hu
  obtain ⟨x, _, hx⟩ := List.mem_flatMap.1 hu
  simp only [flC, List.mem_cons, List.not_mem_nil, or_false] at hx
  rcases hx with rfl | rfl <;> rfl

set_option maxHeartbeats 4000000 in
set_option maxRecDepth 100000 in
theorem cloneF (w : World) (v : Value) (l : List Fl) (h : IsF w v l) (hl : l.length ≤ 1000000) :
    Calls Tryd.prog 29 #[v] w fun e w' => ∃ v', e = .returned v' ∧ w'.ownsRow w.heap.size 42 2 v' l.length (l.flatMap flC) ∧ Ext w w' := by
  have hx := h
  have q22 : ∀ (w : World) (a : Option Addr) (n c n' c' : Nat), (binOp .eql 22 (.slice a n c) (.slice none n' c')).run Tryd.prog w = .ok (.bool a.isNone) w := fun w a n c n' c' => Lib.run_eql_slice_nil w _ _ a n c n' c' Tryd.underlying22
  obtain ⟨ao, cap, rfl, b1, m1, z1, g1⟩ := h.opened
  clear h
  cases ao with
  | none =>
    have hc := z1 rfl
    have hn : l = [] := List.eq_nil_of_length_eq_zero (by omega)
    subst hn
    subst hc
    clear g1 z1
    go_enter Tryd.func29, Tryd.ntmps29
    go_wp2
    go_ret
    exact ⟨_, rfl, World.ownsRow_nil _ _ _ _, Ext.refl _⟩
  | some a =>
    clear g1 z1
    have o0 := World.ownsRow_made (base := w.heap.size) (e := 42) (size := 2) w #[] 0 (Nat.le_refl _) (by decide) rfl
    go_enter Tryd.func29, Tryd.ntmps29
    go_wp2_with (at_builtin; refine wp_app tyFl rfl _ _ rfl w.heap.size _ 0 [] o0 (by rfl) _ l.length (l.flatMap flC) (hx.sl.ext ((Ext.refl _).alloc _)) (by rfl) (flC_one l) (by omega) (by omega) (by simp) ?_; intro v2 w2 own2 gr2)
    go_ret
    have x2 := own_base o0 gr2 ((Ext.refl w).alloc _) (Nat.le_refl _)
    rw [Nat.zero_add, List.nil_append] at own2
    exact ⟨v2, rfl, own2, x2⟩
end Go.Proofs.YtgcbkhmaabmdjaaDoor
