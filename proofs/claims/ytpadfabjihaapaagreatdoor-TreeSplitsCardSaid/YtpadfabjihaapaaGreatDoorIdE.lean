/- Digests and strings: equality, size, conversion. Needs api.Id. -/
import Derived.Test.YtpadfabjihaapaaGreatDoorOctA
import Derived.Test.YtpadfabjihaapaaGreatDoorReg
import Derived.ChangeKeysEq
import Derived.Laws.StructEq
import Derived.Laws.IdiomStrings
import Derived.Lib.BufferRead
namespace Go.Proofs.YtpadfabjihaapaaGreatDoor
open Go.RowKit
set_option linter.unusedVariables false
set_option linter.unusedSimpArgs false

/-- 'string(b)' of whatever slice of bytes. -/
theorem conv_str {P : Program} {w : World} {v : Value} {l : List UInt8} (h : IsB w v l) (src dst e : TypeId) (hs : P.underlying src = some (.slice e)) (he : P.underlying e = some (.int .u8)) (hd : P.underlying dst = some .string) :
    (convert src dst v).run P w = .ok (.string ⟨l.toArray⟩) w := by
  obtain ⟨ao, cap, rfl, h2, h3, h4, h5⟩ := h.opened
  cases ao with
  | none =>
    obtain rfl : l = [] := List.eq_nil_of_length_eq_zero (by have := h4 rfl; omega)
    exact Lib.run_convert_nil_bytes w src dst e cap hs he hd
  | some ad =>
    refine run_convert_bytes_back w src dst e ad cap l hs he hd fun j hj => ?_
    obtain ⟨b, off, e0, c0⟩ := h5 j hj
    obtain rfl := Option.some.inj e0
    rw [Addr.add_lit]
    exact c0
theorem run_index_id (w : World) (cs : Array Value) (i : Nat) (hi : i < 32) (x : Value) (hx : cs[i]? = some x) :
    (Instr.index 31 (.agg cs) (.int .i64 (i : Int))).run Tryz.prog w = .ok x w := by
  simp [Instr.index, run_underlying Tryz.underlying31, asIntOf, go_sem, hi, hx]
theorem part_u8 (w : World) (l : List UInt8) (i : Nat) (hi : i < l.length) : (part 5 (l.map bc).toArray i).run Tryz.prog w = .ok (.int .u8 (l[i].toNat : Int)) w := by
  simp [part, go_sem, bc, hi]
theorem equal_u8 (w : World) (d : Nat) (a b : UInt8) : (Op.equalIn (d + 1) 5 (.int .u8 (a.toNat : Int)) (.int .u8 (b.toNat : Int))).run Tryz.prog w = .ok (decide (a = b)) w := by
  simp only [Op.equalIn, Sem.run_bind, run_underlying Tryz.underlying5, Result.andThen_ok]
  simp [go_sem]
  rw [Bool.eq_iff_iff, beq_iff_eq, decide_eq_true_iff]
  constructor
  · intro h
    exact UInt8.toNat_inj.1 (by omega)
  · rintro rfl
    rfl
set_option maxRecDepth 100000 in
theorem eqItems_u8 (w : World) (d : Nat) (l1 l2 : List UInt8) : ∀ is : List Nat, (∀ i ∈ is, i < l1.length ∧ i < l2.length) →
    (Op.eqItems (d + 1) 5 1 (l1.map bc).toArray (l2.map bc).toArray is).run Tryz.prog w = .ok (decide (∀ i ∈ is, l1[i]? = l2[i]?)) w
  | [], _ => by simp [Op.eqItems]
  | i :: is, h => by
    have hi := h i (List.mem_cons_self ..)
    have ih := eqItems_u8 w d l1 l2 is (fun j hj => h j (List.mem_cons_of_mem _ hj))
    simp only [Op.eqItems, Sem.run_bind, Nat.mul_one, part_u8 w l1 i hi.1, part_u8 w l2 i hi.2, Result.andThen_ok, equal_u8]
    by_cases he : l1[i] = l2[i]
    · have h2 : decide (∀ j ∈ i :: is, l1[j]? = l2[j]?) = decide (∀ j ∈ is, l1[j]? = l2[j]?) := by
        rw [Bool.eq_iff_iff, decide_eq_true_iff, decide_eq_true_iff]
        constructor
        · exact fun h j hj => h j (List.mem_cons_of_mem _ hj)
        · intro h j hj
          rcases List.mem_cons.1 hj with rfl | hj
          · rw [List.getElem?_eq_getElem hi.1, List.getElem?_eq_getElem hi.2, he]
          · exact h j hj
      rw [h2, ← ih]
      simp [he]
    · have h2 : decide (∀ j ∈ i :: is, l1[j]? = l2[j]?) = false := by
        rw [decide_eq_false_iff_not]
        intro h
        have := h i (List.mem_cons_self ..)
        rw [List.getElem?_eq_getElem hi.1, List.getElem?_eq_getElem hi.2] at this
        exact he (Option.some.inj this)
      rw [h2]
      simp [he]
set_option maxRecDepth 100000 in
theorem infoU8 : ∃ i, Tryz.prog.info? 5 = some i := by
  obtain ⟨i, hi, _⟩ := info_parts infoByte
  exact ⟨i, hi⟩
set_option maxRecDepth 100000 in
theorem equal_idD (w : World) (d : Nat) (l1 l2 : List UInt8) (h1 : l1.length = 32) (h2 : l2.length = 32) :
    (Op.equalIn (d + 1 + 1) 31 (.agg (l1.map bc).toArray) (.agg (l2.map bc).toArray)).run Tryz.prog w = .ok (decide (l1 = l2)) w := by
  obtain ⟨i, hi⟩ := infoU8
  rw [run_equalIn_array (P := Tryz.prog) (w := w) _ _ _ Tryz.underlying31 hi, show Tryz.prog.cellsOf 5 = 1 from by kernel_rfl, eqItems_u8 w _ l1 l2 _ (fun i hi => by have := List.mem_range.1 hi; omega)]
  congr 1
  rw [Bool.eq_iff_iff, decide_eq_true_iff, decide_eq_true_iff]
  constructor
  · intro h
    apply List.ext_getElem?
    intro j
    by_cases hj : j < 32
    · exact h j (List.mem_range.2 hj)
    · rw [List.getElem?_eq_none (by omega), List.getElem?_eq_none (by omega)]
  · rintro rfl j _
    rfl
set_option maxRecDepth 100000 in
theorem equal_id (w : World) (l1 l2 : List UInt8) (h1 : l1.length = 32) (h2 : l2.length = 32) :
    (Op.equalIn 10000 31 (.agg (l1.map bc).toArray) (.agg (l2.map bc).toArray)).run Tryz.prog w = .ok (decide (l1 = l2)) w :=
  equal_idD w 9998 l1 l2 h1 h2
set_option maxRecDepth 100000 in
theorem eql_id (w : World) (l1 l2 : List UInt8) (h1 : l1.length = 32) (h2 : l2.length = 32) :
    (binOp .eql 31 (.agg (l1.map bc).toArray) (.agg (l2.map bc).toArray)).run Tryz.prog w = .ok (.bool (decide (l1 = l2))) w := by
  rw [run_eql_struct, equal_id w l1 l2 h1 h2]; rfl
set_option maxRecDepth 100000 in
theorem neq_id (w : World) (l1 l2 : List UInt8) (h1 : l1.length = 32) (h2 : l2.length = 32) :
    (binOp .neq 31 (.agg (l1.map bc).toArray) (.agg (l2.map bc).toArray)).run Tryz.prog w = .ok (.bool (!decide (l1 = l2))) w := by
  rw [run_neq_struct, equal_id w l1 l2 h1 h2]; rfl
/-- The zero digest. -/
def z32 : List UInt8 := List.replicate 32 0
set_option maxRecDepth 100000 in
theorem eql_zero (w : World) (l : List UInt8) (hl : l.length = 32) :
    (binOp .eql 31 (.agg (l.map bc).toArray) (.agg #[.int .u8 0, .int .u8 0, .int .u8 0, .int .u8 0, .int .u8 0, .int .u8 0, .int .u8 0, .int .u8 0, .int .u8 0, .int .u8 0, .int .u8 0, .int .u8 0, .int .u8 0, .int .u8 0, .int .u8 0, .int .u8 0, .int .u8 0, .int .u8 0, .int .u8 0, .int .u8 0, .int .u8 0, .int .u8 0, .int .u8 0, .int .u8 0, .int .u8 0, .int .u8 0, .int .u8 0, .int .u8 0, .int .u8 0, .int .u8 0, .int .u8 0, .int .u8 0])).run Tryz.prog w = .ok (.bool (decide (l = z32))) w :=
  eql_id w l z32 hl rfl
theorem bc_getD (l : List UInt8) (i : Nat) (h : i < l.length) : (l.map bc).toArray[i]? = some (.int .u8 ((l.getD i 0).toNat : Int)) := by
  simp [bc, h]
theorem results_cell_tmp {P : Program} {fn : Func} {p q : Tmp} {ty : TypeId} (h : fn.results = #[.cell p ty, .tmp q]) (tmps : Array Value) (w : World) (g : Nat) (t : TypeId) (cs : Array Value) (fr : Nat × Nat) (d : TypeDesc)
    (hp : tmps.getD p undef = .pointer (some ⟨g, 0, none⟩)) (hg : w.heap[g]? = some (.cells cs t fr))
    (hu : P.underlying ty = some d) (hd : (match d with | .struct _ | .array _ _ => true | _ => false) = true) (hi : (P.info? ty).map (·.size) = some cs.size) :
    (results fn tmps).run P w = .ok (.tuple #[.agg cs, tmps.getD q undef]) w := by
  have hp' : tmps[p]?.getD undef = .pointer (some ⟨g, 0, none⟩) := by simpa using hp
  simp [results, h, hp', asAddr, run_loadVar_row w g t ty cs fr d hg hu hd hi]
theorem id_size {l : List UInt8} (h : l.length = 32) : (Tryz.prog.info? 31).map (·.size) = some (l.map bc).toArray.size := by
  rw [List.size_toArray, List.length_map, h]; kernel_rfl
theorem id_one (l : List UInt8) : (l.map bc).toArray.all (·.oneCell') = true := by
  rw [Array.all_eq_true_iff_forall_mem]; intro u hu; exact bc_one l u (by simpa using hu)
theorem id_same {a b : List UInt8} (h : a.length = 32) (k : b.length = 32) : (a.map bc).toArray.size = (b.map bc).toArray.size := by simp [h, k]
theorem str_app (a b : List UInt8) : (⟨a.toArray⟩ : ByteArray) ++ ⟨b.toArray⟩ = ⟨(a ++ b).toArray⟩ := by
  apply ByteArray.ext
  simp [ByteArray.data_append]
theorem str_size (l : List UInt8) : (⟨l.toArray⟩ : ByteArray).size = l.length := rfl
end Go.Proofs.YtpadfabjihaapaaGreatDoor
