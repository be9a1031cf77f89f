/- Appending inside a fence; over any program. -/
import Derived.Test.YtgcbkhmaabmdjaaDoorApp
import Derived.OwnWalkIn
namespace Go.Proofs.YtgcbkhmaabmdjaaDoor
open Go.RowKit
set_option linter.unusedVariables false

theorem wp_appIn {F : Fence} {m0 : Nat} {P : Program} {t e : TypeId} {z : Value} {size bytes : Nat} (T : ETy P t e z size bytes) {w : World} {ops : Array Oper} {rest : List Oper} {o : Oper} {a : Act} {Q : Exit → Act → World → Prop} (hgd : o.guard = none) (s x : Operand)
    (ho : o.op = .call { callee := .builtin .append, args := #[s, x], argTypes := #[t, t] })
    (base : Nat) (v : Value) (n : Nat) (xs : List Value) (hown : w.ownsRow base e size v n xs) (hs : a.eval s = v)
    (u : Value) (m : Nat) (news : List Value) (hm : 0 < m) (hu : IsSl w u size m news) (hx : a.eval x = u) (h1 : ∀ c ∈ news, c.oneCell' = true)
    (hlim : (n + m) * bytes ≤ 140737488355328) (hmax : n + m ≤ 9223372036854775807) (hbase : base ≤ w.heap.size)
    (h : ∀ v' w', w'.ownsRow base e size v' (n + m) (xs ++ news) → w.grownBy w' v.ownBlock → wpListIn F m0 P ops Q rest (a.put o.dst v') w') : wpListIn F m0 P ops Q (o :: rest) a w := by
  obtain ⟨i, hi, hz, hs1, hb1⟩ := T.info
  obtain ⟨hlen, ao, cap, rfl, b1, m1, z1, g1⟩ := hu
  cases ao with
  | none =>
    obtain rfl := z1 rfl
    omega
  | some ad =>
    exact wpListIn_append_own w hgd s x t ho base e i z size bytes T.und hi hz hs1 hb1 T.cells T.pos v n xs hs hown ad m cap news hx hlen (lies_news g1 rfl) h1 (by unfold maxLen; omega) hlim hbase fun v' w' a1 a2 _ => h v' w' a1 a2
end Go.Proofs.YtgcbkhmaabmdjaaDoor
