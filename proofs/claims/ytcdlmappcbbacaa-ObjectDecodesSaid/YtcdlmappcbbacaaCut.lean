/- A slice of a slice of bytes, at one operation of the walk. -/
import Derived.Test.YtcdlmappcbbacaaObY
namespace Go.Proofs.Ytcdlmappcbbacaa
open Go.RowKit
set_option linter.unusedVariables false
set_option linter.unusedSimpArgs false

/-- A guard: the next operation is that slicing. -/
theorem at_slice (t : TypeId) (x lo hi : Operand) {P : Program} {ops : Array Oper} {rest : List Oper} {dst : Option Tmp} {ty : TypeId} {pos : String} {after : Array Edge} {gd : Option (Nat × Bool)} {a : Act} {w : World} {Q : Exit → Act → World → Prop}
    (h : wpList P ops Q ({ dst := dst, op := .slice t x (some lo) (some hi) none, type := ty, pos := pos, after := after, guard := gd } :: rest) a w) : wpList P ops Q ({ dst := dst, op := .slice t x (some lo) (some hi) none, type := ty, pos := pos, after := after, guard := gd } :: rest) a w := h
theorem wpl_cut0 {ops : Array Oper} {rest : List Oper} {o : Oper} {a : Act} {w : World} {Q : Exit → Act → World → Prop} (hgd : Region.wanted o (yielded ops a.tmps) = true) (x lo hi : Operand) (ho : o.op = .slice 22 x (some lo) (some hi) none)
    (pb po n cap A B : Nat) (hx : a.eval x = .slice (some ⟨pb, po, none⟩) n cap) (hlo : a.eval lo = .int .i64 (A : Int)) (hhi : a.eval hi = .int .i64 (B : Int)) (hAB : A ≤ B) (hB : B ≤ cap) (hA : A < cap) (hc : cap ≤ 9223372036854775807)
    (h : wpList Try.prog ops Q rest (a.put o.dst (.slice (some ⟨pb, po + A, none⟩) (B - A) (cap - A))) w) : wpList Try.prog ops Q (o :: rest) a w :=
  wpList_wanted hgd fun K hK => by
    have h1 : (A : Int) ≤ (B : Int) := by omega
    have h2 : (B : Int) ≤ (cap : Int) := by omega
    have h3 : (0 : Int) ≤ (A : Int) := Int.natCast_nonneg _
    have h4 : ¬ cap = A := by omega
    have h5 : (A : Int) ≤ 9223372036854775807 := by omega
    have h6 : (B : Int) ≤ 9223372036854775807 := by omega
    unfold Oper.wp execOp
    simp only [ho, hx, hlo, hhi, Option.map_some, Sem.run_bind]
    go_simp
    exact hK _ _ h
theorem wpl_cut {ops : Array Oper} {rest : List Oper} {o : Oper} {a : Act} {w : World} {Q : Exit → Act → World → Prop} (hgd : Region.wanted o (yielded ops a.tmps) = true) (x lo hi : Operand) (ho : o.op = .slice 22 x (some lo) (some hi) none)
    (pb po n cap A B m : Nat) (hx : a.eval x = .slice (some ⟨pb, po, none⟩) n cap) (hlo : a.eval lo = .int .i64 (A : Int)) (hhi : a.eval hi = .int .i64 (B : Int)) (hm : B = A + m) (hB : B ≤ cap) (hA : A < cap) (hc : cap ≤ 9223372036854775807)
    (h : wpList Try.prog ops Q rest (a.put o.dst (.slice (some ⟨pb, po + A, none⟩) m (cap - A))) w) : wpList Try.prog ops Q (o :: rest) a w := by
  have e : B - A = m := by omega
  exact wpl_cut0 hgd x lo hi ho pb po n cap A B hx hlo hhi (by omega) hB hA hc (by rw [e]; exact h)
theorem wpl_cutE {ops : Array Oper} {rest : List Oper} {o : Oper} {a : Act} {w : World} {Q : Exit → Act → World → Prop} (hgd : Region.wanted o (yielded ops a.tmps) = true) (x lo hi : Operand) (ho : o.op = .slice 22 x (some lo) (some hi) none)
    (pb po cap : Nat) (hx : a.eval x = .slice (some ⟨pb, po, none⟩) cap cap) (hlo : a.eval lo = .int .i64 (cap : Int)) (hhi : a.eval hi = .int .i64 (cap : Int)) (hc : cap ≤ 9223372036854775807)
    (h : wpList Try.prog ops Q rest (a.put o.dst (.slice (some ⟨pb, po, none⟩) 0 0)) w) : wpList Try.prog ops Q (o :: rest) a w :=
  wpList_wanted hgd fun K hK => by
    have h3 : (0 : Int) ≤ (cap : Int) := Int.natCast_nonneg _
    have h5 : (cap : Int) ≤ 9223372036854775807 := by omega
    unfold Oper.wp execOp
    simp only [ho, hx, hlo, hhi, Option.map_some, Sem.run_bind]
    go_simp
    exact hK _ _ h
/-- The part of a slice of bytes, whatever value it is. -/
theorem wpl_cutB {ops : Array Oper} {rest : List Oper} {o : Oper} {a : Act} {w : World} {Q : Exit → Act → World → Prop} (hgd : Region.wanted o (yielded ops a.tmps) = true) (x lo hi : Operand) (ho : o.op = .slice 22 x (some lo) (some hi) none)
    (pb po n cap A B m : Nat) (l : List UInt8) (hl : IsB w (.slice (some ⟨pb, po, none⟩) n cap) l) (hn : l.length = n) (hx : a.eval x = .slice (some ⟨pb, po, none⟩) n cap) (hlo : a.eval lo = .int .i64 (A : Int)) (hhi : a.eval hi = .int .i64 (B : Int)) (hm : B = A + m) (hB : B ≤ n) (hnc : n ≤ cap) (hc : cap ≤ 9223372036854775807)
    (h : ∀ v, IsB w v ((l.drop A).take m) → wpList Try.prog ops Q rest (a.put o.dst v) w) : wpList Try.prog ops Q (o :: rest) a w := by
  have hcut := hl.cut A B (by omega) hB
  have e : B - A = m := by omega
  rw [e] at hcut
  by_cases hA : cap = A
  · obtain rfl : A = n := by omega
    obtain rfl : A = cap := by omega
    obtain rfl : m = 0 := by omega
    obtain rfl : B = A := by omega
    rw [if_pos rfl, Nat.sub_self] at hcut
    exact wpl_cutE hgd x lo hi ho pb po B hx hlo hhi hc (h _ hcut)
  · rw [if_neg hA, Option.map_some, Addr.add_lit, Nat.mul_one] at hcut
    exact wpl_cut hgd x lo hi ho pb po n cap A B m hx hlo hhi hm (by omega) (by omega) hc (h _ hcut)
end Go.Proofs.Ytcdlmappcbbacaa
