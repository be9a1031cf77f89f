/- Which files contain what; the closure of tree.Check. -/
import Derived.Test.YtpcpcjejdngllaaDoorFlA
namespace Go.Proofs.YtpcpcjejdngllaaDoor
open Go.RowKit
set_option linter.unusedVariables false
set_option linter.unusedSimpArgs false

def FoundF (l : List Fl) (p : Fl → Bool) (r : Int) : Prop := (∃ i, ∃ hi : i < l.length, r = (i : Int) ∧ p l[i] = true ∧ ∀ j (hj : j < l.length), j < i → p l[j] = false) ∨ (r = -1 ∧ ∀ j (hj : j < l.length), p l[j] = false)
/-- Is a text what stands ahead of a path's slash and more? -/
def preB (g f : ByteArray) : Bool := Lib.hasPrefix g.data.toList (f ++ (⟨#[47]⟩ : ByteArray)).data.toList

set_option maxHeartbeats 4000000 in
set_option maxRecDepth 100000 in
theorem indexPre (w : World) (v : Value) (l : List Fl) (h : IsF w v l) (q : Addr) (C : World → Prop) (hC : C w) (hCx : ∀ A B, C A → Ext A B → C B) (p : Fl → Bool)
    (hc : ∀ (W : World) (x : Fl), C W → flOk x → Calls Tryd.prog 41 #[.agg #[.string x.path, .string x.text], .pointer (some q)] W fun e w' => e = .returned (.bool (p x)) ∧ Ext W w') :
    Calls Tryd.prog 64 #[v, .func (Fn.func 41) #[] #[.pointer (some q)]] w fun e w' => ∃ r, e = .returned (.int .i64 r) ∧ FoundF l p r ∧ Ext w w' := by
  obtain ⟨ao, cap, rfl, b1, m1, z1, g1⟩ := h.opened
  have G1 := Lib.hid g1
  have HO := Lib.hid h.ok
  have HC := Lib.hid hc
  clear g1 z1 h hc
  go_enter Tryd.func64, Tryd.ntmps64
  go_wp2
  go_loopg [8] l.length (fun g s8 wr => ∃ k : Nat, k ≤ l.length ∧ l.length - k ≤ g ∧ s8 = .int .i64 k ∧ (∀ j (hj : j < l.length), j < k → p l[j] = false) ∧ Ext w wr)
  case atStart => exact ⟨0, Nat.zero_le _, by omega, rfl, fun j _ hj => absurd hj (Nat.not_lt_zero _), Ext.refl _⟩
  case round =>
    obtain ⟨k, hk, hg, rfl, hall, xr⟩ := hrel
    have HALL := Lib.hid hall
    clear hall
    by_cases hlt : k < l.length
    · obtain ⟨pb, o, rfl, e0, e1⟩ := G1.out k hlt
      have e0 := xr.cell e0
      have e1 := xr.cell e1
      have hqr := hCx _ _ hC xr
      have hok := HO.out l[k] (List.getElem_mem hlt)
      generalize hx : l[k] = x at *
      have HX := Lib.hid hx
      clear hx
      go_wp2_with fail
      refine Calls.mono (HC.out _ x hqr hok) ?_
      rintro e w2 ⟨rfl, x2⟩
      cases hp : p x
      · have HP := Lib.hid hp
        clear hp
        go_wp2
        go_roundg (l.length - (k + 1))
        case measure => omega
        case rel =>
          refine ⟨k + 1, by omega, by omega, by go_num, fun j hj hj1 => ?_, xr.trans x2⟩
          by_cases e : j = k
          · subst e; rw [HX.out]; exact HP.out
          · exact HALL.out j hj (by omega)
      · have HP := Lib.hid hp
        clear hp
        go_wp2
        go_ret
        exact ⟨_, rfl, .inl ⟨k, hlt, rfl, by rw [HX.out]; exact HP.out, fun j hj hj1 => HALL.out j hj hj1⟩, xr.trans x2⟩
    · have : k = l.length := by omega
      subst this
      go_wp2
      go_ret
      exact ⟨_, rfl, .inr ⟨rfl, fun j hj => HALL.out j hj hj⟩, xr⟩

set_option maxHeartbeats 4000000 in
theorem containsPre (w : World) (v : Value) (l : List Fl) (h : IsF w v l) (q : Addr) (C : World → Prop) (hC : C w) (hCx : ∀ A B, C A → Ext A B → C B) (p : Fl → Bool)
    (hc : ∀ (W : World) (x : Fl), C W → flOk x → Calls Tryd.prog 41 #[.agg #[.string x.path, .string x.text], .pointer (some q)] W fun e w' => e = .returned (.bool (p x)) ∧ Ext W w') :
    Calls Tryd.prog 40 #[v, .func (Fn.func 41) #[] #[.pointer (some q)]] w fun e w' => e = .returned (.bool (l.any p)) ∧ Ext w w' := by
  obtain ⟨R, hR⟩ : ∃ R, l.any p = R := ⟨_, rfl⟩
  rw [hR]
  have HR := Lib.hid hR
  clear hR
  go_enter Tryd.func40, Tryd.ntmps40
  go_wp2_with fail
  refine Calls.mono (indexPre _ v l h q C hC hCx p hc) ?_
  rintro e w1 ⟨r, rfl, hf, x1⟩
  rcases hf with ⟨i, hi, rfl, hp, _⟩ | ⟨rfl, hn⟩
  · have hRt : R = true := by rw [← HR.out, List.any_eq_true]; exact ⟨l[i], List.getElem_mem hi, hp⟩
    have hi0 : (0 : Int) ≤ (i : Int) := Int.natCast_nonneg _
    subst hRt
    clear hp
    go_wp2
    go_ret
    exact ⟨rfl, x1⟩
  · have hRf : R = false := by
      rw [← HR.out, List.any_eq_false]
      intro x hx
      obtain ⟨j, hj, rfl⟩ := List.getElem_of_mem hx
      rw [hn j hj]
      decide
    subst hRf
    clear hn
    go_wp2
    go_ret
    exact ⟨rfl, x1⟩

set_option maxHeartbeats 4000000 in
theorem preClosure (w : World) (x : Fl) (q : Nat) (f : Fl) (hf : flOk f) (hx : flOk x) (h0 : w.cell? ⟨q, 0, none⟩ = some (.string f.path)) :
    Calls Tryd.prog 41 #[.agg #[.string x.path, .string x.text], .pointer (some ⟨q, 0, none⟩)] w fun e w' => e = .returned (.bool (preB x.path f.path)) ∧ Ext w w' := by
  have hq := World.block_lt_of_cell? _ _ h0
  simp only at hq
  have hf1 := hf.1
  have hf2 : f.path.size + 1 ≤ 9223372036854775807 := by omega
  have hf3 : (f.path.size : Int) + 1 ≤ 9223372036854775807 := by omega
  go_enter Tryd.func41, Tryd.ntmps41
  go_wp2_with fail
  refine Calls.mono (Tryd.strings_HasPrefix _ _ _) ?_
  rintro e w1 ⟨rfl, rfl⟩
  go_wp2
  go_ret
  exact ⟨rfl, (Ext.refl w).alloc _⟩
end Go.Proofs.YtpcpcjejdngllaaDoor
