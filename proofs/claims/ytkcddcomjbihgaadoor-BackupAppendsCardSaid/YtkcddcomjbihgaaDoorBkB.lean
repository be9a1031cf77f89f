/- Backup: has. -/
import Derived.Test.YtkcddcomjbihgaaDoorBkA
namespace Go.Proofs.YtkcddcomjbihgaaDoor
open Go.RowKit
set_option linter.unusedVariables false
set_option linter.unusedSimpArgs false

def FoundL (l : List LgE) (p : LgE → Bool) (r : Int) : Prop := (∃ i, ∃ hi : i < l.length, r = (i : Int) ∧ p l[i] = true ∧ ∀ j (hj : j < l.length), j < i → p l[j] = false) ∨ (r = -1 ∧ ∀ j (hj : j < l.length), p l[j] = false)
def hasB (p : Pr) (m : Mk) : Bool := meq m p.base || p.log.any fun e => meq e.m m
set_option maxHeartbeats 400000 in
theorem hasClosure (w : World) (x : LgE) (u : Value) (q : Nat) (m : Mk) (h0 : w.cell? ⟨q, 0, none⟩ = some (.int .u32 (m.1 : Int))) (h1 : w.cell? ⟨q, 1, none⟩ = some (.int .u32 (m.2 : Int))) :
    Calls Tryd.prog 100 #[.agg #[.int .u32 (x.m.1 : Int), .int .u32 (x.m.2 : Int), u], .pointer (some ⟨q, 0, none⟩)] w fun e w' => e = .returned (.bool (meq x.m m)) ∧ Ext w w' := by
  have hq := World.block_lt_of_cell? _ _ h0
  simp only at hq
  have heq := mkEql
  go_enter Tryd.func100, Tryd.ntmps100
  go_wp2
  go_ret
  exact ⟨rfl, (Ext.refl w).alloc _⟩
set_option maxHeartbeats 4000000 in
set_option maxRecDepth 100000 in
theorem indexHas (w : World) (v : Value) (l : List LgE) (h : IsLg w v l) (q : Nat) (m : Mk) (hm0 : w.cell? ⟨q, 0, none⟩ = some (.int .u32 (m.1 : Int))) (hm1 : w.cell? ⟨q, 1, none⟩ = some (.int .u32 (m.2 : Int))) :
    Calls Tryd.prog 103 #[v, .func (Fn.func 100) #[] #[.pointer (some ⟨q, 0, none⟩)]] w fun e w' => ∃ r, e = .returned (.int .i64 r) ∧ FoundL l (fun e => meq e.m m) r ∧ Ext w w' := by
  obtain ⟨ao, cap, rfl, b1, m1, z1, g1⟩ := h.opened
  have G1 := Lib.hid g1
  clear g1 z1 h
  go_enter Tryd.func103, Tryd.ntmps103
  go_wp2
  go_loopg [8] l.length (fun g s8 wr => ∃ k : Nat, k ≤ l.length ∧ l.length - k ≤ g ∧ s8 = .int .i64 k ∧ (∀ j (hj : j < l.length), j < k → (meq l[j].m m) = false) ∧ Ext w wr)
  case atStart => exact ⟨0, Nat.zero_le _, by omega, rfl, fun j _ hj => absurd hj (Nat.not_lt_zero _), Ext.refl _⟩
  case round =>
    obtain ⟨k, hk, hg, rfl, hall, xr⟩ := hrel
    have HALL := Lib.hid hall
    clear hall
    by_cases hlt : k < l.length
    · obtain ⟨pb, o, u, rfl, e0, e1, e2, e3⟩ := G1.out k hlt
      have e0 := xr.cell e0
      have e1 := xr.cell e1
      have e2 := xr.cell e2
      have hq0 := xr.cell hm0
      have hq1 := xr.cell hm1
      generalize hx : l[k] = x at *
      have HX := Lib.hid hx
      clear hx e3 hm0 hm1
      go_wp2_with fail
      refine Calls.mono (hasClosure _ x u q m hq0 hq1) ?_
      rintro e w2 ⟨rfl, x2⟩
      cases hp : (meq x.m m)
      · have HP := Lib.hid hp
        clear hp
        go_wp2
        go_roundg (l.length - (k + 1))
        case measure => omega
        case rel =>
          refine ⟨k + 1, by omega, by omega, by go_num, fun j hj hj1 => ?_, xr.trans x2⟩
          by_cases e : j = k
          · subst e; rw [HX.out]; exact HP.out
          · exact HALL.out j hj (by omega)
      · have HP := Lib.hid hp
        clear hp
        go_wp2
        go_ret
        exact ⟨_, rfl, .inl ⟨k, hlt, rfl, by rw [HX.out]; exact HP.out, fun j hj hj1 => HALL.out j hj hj1⟩, xr.trans x2⟩
    · have : k = l.length := by omega
      subst this
      go_wp2
      go_ret
      exact ⟨_, rfl, .inr ⟨rfl, fun j hj => HALL.out j hj hj⟩, xr⟩
set_option maxHeartbeats 4000000 in
theorem containsHas (w : World) (v : Value) (l : List LgE) (h : IsLg w v l) (q : Nat) (m : Mk) (hm0 : w.cell? ⟨q, 0, none⟩ = some (.int .u32 (m.1 : Int))) (hm1 : w.cell? ⟨q, 1, none⟩ = some (.int .u32 (m.2 : Int))) :
    Calls Tryd.prog 99 #[v, .func (Fn.func 100) #[] #[.pointer (some ⟨q, 0, none⟩)]] w fun e w' => e = .returned (.bool (l.any fun e => meq e.m m)) ∧ Ext w w' := by
  obtain ⟨R, hR⟩ : ∃ R, (l.any fun e => meq e.m m) = R := ⟨_, rfl⟩
  rw [hR]
  have HR := Lib.hid hR
  clear hR
  go_enter Tryd.func99, Tryd.ntmps99
  go_wp2_with fail
  refine Calls.mono (indexHas _ v l h q m hm0 hm1) ?_
  rintro e w1 ⟨r, rfl, hf, x1⟩
  rcases hf with ⟨i, hi, rfl, hp, _⟩ | ⟨rfl, hn⟩
  · have hRt : R = true := by rw [← HR.out, List.any_eq_true]; exact ⟨l[i], List.getElem_mem hi, hp⟩
    have hi0 : (0 : Int) ≤ (i : Int) := Int.natCast_nonneg _
    subst hRt
    clear hp
    go_wp2
    go_ret
    exact ⟨rfl, x1⟩
  · have hRf : R = false := by
      rw [← HR.out, List.any_eq_false]
      intro x hx
      obtain ⟨j, hj, rfl⟩ := List.getElem_of_mem hx
      have := hn j hj
      simpa using this
    subst hRf
    clear hn
    go_wp2
    go_ret
    exact ⟨rfl, x1⟩
set_option maxHeartbeats 400000 in
theorem bkHas (w : World) (vl : Value) (p : Pr) (m : Mk) (h : IsLg w vl p.log) :
    Calls Tryd.prog 91 #[.agg #[.int .i64 p.me, .int .u32 (p.v.n : Int), .int .i64 p.v.p, .int .i64 p.v.b, .int .u32 (p.base.1 : Int), .int .u32 (p.base.2 : Int), vl, .bool p.known, .bool p.joined, .bool p.instep, .int .u32 (p.acked : Int)], .agg #[.int .u32 (m.1 : Int), .int .u32 (m.2 : Int)]] w fun e w' => e = .returned (.bool (hasB p m)) ∧ Ext w w' := by
  generalize hR : hasB p m = R
  have HR := Lib.hid hR
  clear hR
  have X := ((Ext.refl w).alloc (.cells #[.int .i64 p.me, .int .u32 (p.v.n : Int), .int .i64 p.v.p, .int .i64 p.v.b, .int .u32 (p.base.1 : Int), .int .u32 (p.base.2 : Int), vl, .bool p.known, .bool p.joined, .bool p.instep, .int .u32 (p.acked : Int)] 47)).alloc (.cells #[.int .u32 (m.1 : Int), .int .u32 (m.2 : Int)] 27)
  have h2 := h.ext X
  have hb := blk_new (w := w.alloc (.cells #[.int .i64 p.me, .int .u32 (p.v.n : Int), .int .i64 p.v.p, .int .i64 p.v.b, .int .u32 (p.base.1 : Int), .int .u32 (p.base.2 : Int), vl, .bool p.known, .bool p.joined, .bool p.instep, .int .u32 (p.acked : Int)] 47)) (b := w.heap.size + 1) (o := .cells #[.int .u32 (m.1 : Int), .int .u32 (m.2 : Int)] 27) (by simp)
  have k0 := block_cell hb 0
  have k1 := block_cell hb 1
  have H2 := Lib.hid h2
  have K0 := Lib.hid k0
  have K1 := Lib.hid k1
  have HX := Lib.hid X
  clear h h2 hb k0 k1 X
  have heq := mkEql
  go_enter Tryd.func91, Tryd.ntmps91
  go_wp2_with (first | ((go_at_call 99; go_must (skip)); refine (containsHas _ vl p.log H2.out (w.heap.size + 1) m K0.out K1.out).mono ?_; rintro e w2 ⟨rfl, x2⟩))
  all_goals go_ret
  · exact ⟨ret_bool (by rw [← HR.out]; simp [hasB, *]), HX.out⟩
  · exact ⟨ret_bool (by rw [← HR.out]; simp [hasB, *]), HX.out.trans x2⟩
end Go.Proofs.YtkcddcomjbihgaaDoor
