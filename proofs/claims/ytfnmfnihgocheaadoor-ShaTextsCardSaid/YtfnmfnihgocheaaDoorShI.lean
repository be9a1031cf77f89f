/- Digests held against each other; the walk of the statement ShaSums. -/
import Derived.Test.YtfnmfnihgocheaaDoorShH
import Derived.ChangeKeysEq
import Derived.Laws.StructEq
namespace Go.Proofs.YtfnmfnihgocheaaDoor
open Go.RowKit
set_option linter.unusedVariables false
set_option linter.unusedSimpArgs false

theorem part_u8 (w : World) (l : List UInt8) (i : Nat) (hi : i < l.length) : (part 5 (l.map bc).toArray i).run Tryd.prog w = .ok (.int .u8 (l[i].toNat : Int)) w := by
  simp [part, go_sem, bc, hi]
theorem equal_u8 (w : World) (d : Nat) (a b : UInt8) : (Op.equalIn (d + 1) 5 (.int .u8 (a.toNat : Int)) (.int .u8 (b.toNat : Int))).run Tryd.prog w = .ok (decide (a = b)) w := by
  simp only [Op.equalIn, Sem.run_bind, run_underlying Tryd.underlying5, Result.andThen_ok]
  simp [go_sem]
  rw [Bool.eq_iff_iff, beq_iff_eq, decide_eq_true_iff]
  constructor
  · intro h
    exact UInt8.toNat_inj.1 (by omega)
  · rintro rfl
    rfl
theorem eqItems_u8 (w : World) (d : Nat) (l1 l2 : List UInt8) : ∀ is : List Nat, (∀ i ∈ is, i < l1.length ∧ i < l2.length) →
    (Op.eqItems (d + 1) 5 1 (l1.map bc).toArray (l2.map bc).toArray is).run Tryd.prog w = .ok (decide (∀ i ∈ is, l1[i]? = l2[i]?)) w
  | [], _ => by simp [Op.eqItems]
  | i :: is, h => by
    have hi := h i (List.mem_cons_self ..)
    have ih := eqItems_u8 w d l1 l2 is (fun j hj => h j (List.mem_cons_of_mem _ hj))
    simp only [Op.eqItems, Sem.run_bind, Nat.mul_one, part_u8 w l1 i hi.1, part_u8 w l2 i hi.2, Result.andThen_ok, equal_u8]
    by_cases he : l1[i] = l2[i]
    · have h2 : decide (∀ j ∈ i :: is, l1[j]? = l2[j]?) = decide (∀ j ∈ is, l1[j]? = l2[j]?) := by
        rw [Bool.eq_iff_iff, decide_eq_true_iff, decide_eq_true_iff]
        constructor
        · exact fun h j hj => h j (List.mem_cons_of_mem _ hj)
        · intro h j hj
          rcases List.mem_cons.1 hj with rfl | hj
          · rw [List.getElem?_eq_getElem hi.1, List.getElem?_eq_getElem hi.2, he]
          · exact h j hj
      rw [h2, ← ih]
      simp [he]
    · have h2 : decide (∀ j ∈ i :: is, l1[j]? = l2[j]?) = false := by
        rw [decide_eq_false_iff_not]
        intro h
        have := h i (List.mem_cons_self ..)
        rw [List.getElem?_eq_getElem hi.1, List.getElem?_eq_getElem hi.2] at this
        exact he (Option.some.inj this)
      rw [h2]
      simp [he]
theorem infoU8 : ∃ i, Tryd.prog.info? 5 = some i := by
  obtain ⟨i, hi, _⟩ := info_parts infoByte
  exact ⟨i, hi⟩
theorem equal_id (w : World) (l1 l2 : List UInt8) (h1 : l1.length = 32) (h2 : l2.length = 32) :
    (Op.equalIn 10000 25 (.agg (l1.map bc).toArray) (.agg (l2.map bc).toArray)).run Tryd.prog w = .ok (decide (l1 = l2)) w := by
  obtain ⟨i, hi⟩ := infoU8
  rw [show (10000 : Nat) = 9998 + 1 + 1 from rfl, run_equalIn_array (P := Tryd.prog) (w := w) _ _ _ Tryd.underlying25 hi, show Tryd.prog.cellsOf 5 = 1 from by kernel_rfl, eqItems_u8 w _ l1 l2 _ (fun i hi => by have := List.mem_range.1 hi; omega)]
  congr 1
  rw [Bool.eq_iff_iff, decide_eq_true_iff, decide_eq_true_iff]
  constructor
  · intro h
    apply List.ext_getElem?
    intro j
    by_cases hj : j < 32
    · exact h j (List.mem_range.2 hj)
    · rw [List.getElem?_eq_none (by omega), List.getElem?_eq_none (by omega)]
  · rintro rfl j _
    rfl
theorem eql_id (w : World) (l1 l2 : List UInt8) (h1 : l1.length = 32) (h2 : l2.length = 32) :
    (binOp .eql 25 (.agg (l1.map bc).toArray) (.agg (l2.map bc).toArray)).run Tryd.prog w = .ok (.bool (decide (l1 = l2))) w := by
  rw [run_eql_struct, equal_id w l1 l2 h1 h2]; rfl
theorem neq_id (w : World) (l1 l2 : List UInt8) (h1 : l1.length = 32) (h2 : l2.length = 32) :
    (binOp .neq 25 (.agg (l1.map bc).toArray) (.agg (l2.map bc).toArray)).run Tryd.prog w = .ok (.bool (!decide (l1 = l2))) w := by
  rw [run_neq_struct, equal_id w l1 l2 h1 h2]; rfl

set_option maxHeartbeats 4000000 in
set_option maxRecDepth 100000 in
theorem walkShaSums (w : World) (v : Value) (l : List UInt8) (h : IsB w v l) (hK : Tabs w) :
    Calls Tryd.prog 3 #[v] w fun e w' => e = .returned (.bool true) ∧ Below w.heap.size w w' := by
  have hx := h
  obtain ⟨ao, cap, rfl, b1, m1, z1, g1⟩ := h.opened
  clear z1 g1 h
  go_enter Tryd.func3, Tryd.ntmps3
  go_wp2_with fail
  refine Calls.mono (wakes03 _ hK) ?_
  rintro e w1 ⟨rfl, x1⟩
  by_cases hlen : l.length > 3000
  · go_wp2
    go_ret
    exact ⟨rfl, x1⟩
  · go_wp2_with fail
    refine Calls.mono (shaSum _ _ l (hx.ext x1) (by omega) (hK.ext x1)) ?_
    rintro e w2 ⟨rfl, x2⟩
    go_wp2_with fail
    refine Calls.mono (refSum _ _ l (hx.ext (x1.trans x2)) (by omega)) ?_
    rintro e w3 ⟨rfl, x3⟩
    have heq := equal_id w3 (shaL l) (shaL l) (shaL_len l) (shaL_len l)
    rw [decide_eq_true rfl] at heq
    generalize ((shaL l).map bc).toArray = A at *
    go_wp2
    go_ret
    exact ⟨rfl, (x1.trans x2).trans x3⟩
end Go.Proofs.YtfnmfnihgocheaaDoor
