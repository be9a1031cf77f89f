/- The walk of the reference's Decode: no kind, a blob. -/
import Derived.Test.YtcdlmappcbbacaaObY
import Derived.Test.YtcdlmappcbbacaaObG
namespace Go.Proofs.Ytcdlmappcbbacaa
open Go.RowKit
set_option linter.unusedVariables false
set_option linter.unusedSimpArgs false

/-- A store of a whole row, the world behind it told by what it keeps. -/
theorem wpl_storeK {P : Program} {ops : Array Oper} {rest : List Oper} {o : Oper} {a : Act} {w : World} {Q : Exit → Act → World → Prop} (hgd : Region.wanted o (yielded ops a.tmps) = true) (ty : TypeId) (x y : Operand) (ho : o.op = .store ty x y)
    (g : Nat) (cells : Array Value) (hx : a.eval x = .pointer (some ⟨g, 0, none⟩)) (hy : a.eval y = .agg cells)
    (t : TypeId) (old : Array Value) (hg : w.heap[g]? = some (.cells old t (0, 0))) (hi : (P.info? ty).map (·.size) = some cells.size)
    (hold : old.size = cells.size) (h1 : cells.all (·.oneCell') = true)
    (h : ∀ w', w'.heap[g]? = some (.cells cells t (0, 0)) → w.grownBy w' (some g) → wpList P ops Q rest (a.put o.dst undef) w') : wpList P ops Q (o :: rest) a w :=
  wpl_store hgd ty x y ho g cells hx hy t old hg hi hold h1 (h _ (setRow_heap _ _ _ _ _ _ hg) grown_setRow')

set_option maxHeartbeats 8000000 in
set_option maxRecDepth 100000 in
theorem refDecode0 (w : World) (v : Value) (l : List UInt8) (h : IsB w v l) (hb : l.length ≤ 140737488355328) (hk : ∀ q : 0 < l.length, ¬ (l[0].toNat = 1 ∨ l[0].toNat = 2 ∨ l[0].toNat = 3)) :
    Calls Try.prog 8 #[v] w (DecEnd (decP l) w) := by
  by_cases h0 : 0 < l.length
  · have hd := dec_other h0 (hk h0)
    have hk := hk h0
    have HD := Lib.hid hd
    clear hd
    obtain ⟨ao, cap, rfl, b1, m1, z1, g1⟩ := h.opened
    obtain ⟨pb, po, rfl, e0⟩ := g1 0 h0
    have hcell : ∀ i (hi : i < l.length), w.cell? ⟨pb, po + i, none⟩ = some (.int .u8 (l[i].toNat : Int)) := by
      intro i hi
      obtain ⟨b, off, e, c⟩ := g1 i hi
      simp only [Option.some.injEq, Addr.mk.injEq] at e
      obtain ⟨rfl, rfl, _⟩ := e
      exact c
    have HCELL := Lib.hid hcell
    have hpb : pb < w.heap.size := World.block_lt_of_cell? _ _ e0
    clear g1 z1 hcell
    rw [Nat.add_zero] at e0
    have HH := Lib.hid h
    clear h
    have bR0 := blk_old (o := .cells (objC (.slice none 0 0) (.slice none 0 0) (.slice none 0 0) (zObj 0)).toArray 30) (heap_alloc_new w (.cells (objC (.slice none 0 0) (.slice none 0 0) (.slice none 0 0) (zObj 0)).toArray 30))
    have b40 := blk_new (w := w.alloc (.cells (objC (.slice none 0 0) (.slice none 0 0) (.slice none 0 0) (zObj 0)).toArray 30)) (b := w.heap.size + 1) (o := .cells (objC (.slice none 0 0) (.slice none 0 0) (.slice none 0 0) (zObj 0)).toArray 30) (by simp)
    have l0 : (0 : Int) < (l.length : Int) := by omega
    have l0' : ((l.length : Int) == 0) = false := by rw [beq_eq_false_iff_ne]; omega
    obtain ⟨k, hkk⟩ : ∃ k : Int, (l[0].toNat : Int) = k := ⟨_, rfl⟩
    have hk0 : 0 ≤ k ∧ k < 256 := by have := l[0].toNat_lt; omega
    rw [hkk] at e0
    have hk3 : k < 1 ∨ 3 < k := by omega
    clear hkk hk
    have hzk := zObj_is w k (by omega)
    rcases hk3 with hk3 | hk3
    · go_enter Try.func8, Try.ntmps8
      go_wp2_with (first
        | ((with_reducible refine at_store 30 (.tmp 4) (.tmp 21) ?_); refine wpl_storeK (by rfl) 30 (.tmp 4) (.tmp 21) rfl (w.heap.size + 1) (objC (.slice none 0 0) (.slice none 0 0) (.slice none 0 0) (zObj k)).toArray (by rfl) (by rfl) 30 _ b40 (by kernel_rfl) (by rfl) (zObj_is w k (by omega)).one ?_; intro w4 b4 gr4; have bR := grown_other gr4 bR0 (by omega); have X4 : Ext w w4 := (((Ext.refl w).alloc _).alloc _).grown gr4 (fun k hk => by simp at hk; omega); have q0 : w4.cell? ⟨w.heap.size + 1, 0, none⟩ = some (.int .i64 k) := (obj_at b4 rfl (zObj_ok k (by omega))).c0)
        | ((with_reducible refine at_store 30 (.tmp 2) (.tmp 30) ?_); (refine wpl_storeK (by rfl) 30 (.tmp 2) (.tmp 30) rfl w.heap.size (objC (.slice none 0 0) (.slice none 0 0) (.slice none 0 0) (zObj 0)).toArray (by rfl) (by rfl) 30 _ bR (by kernel_rfl) (by rfl) (zObj_is w 0 (by omega)).one ?_); intro wF bF grF)
        | fail)
      refine bodyPost_ret (results_cell_tmp rfl _ _ w.heap.size _ _ _ _ (by rfl) bF Try.underlying30 rfl (by kernel_rfl)) rfl ⟨(objC (.slice none 0 0) (.slice none 0 0) (.slice none 0 0) (zObj 0)).toArray, .slice none 0 0, .slice none 0 0, .slice none 0 0, ?_, ?_, X4.grown grF (fun k hk => by simp at hk; omega)⟩
      · rw [HD.out]; rfl
      · rw [HD.out]; exact zObj_is _ 0 (by omega)
    · go_enter Try.func8, Try.ntmps8
      go_wp2_with (first
        | ((with_reducible refine at_store 30 (.tmp 4) (.tmp 21) ?_); refine wpl_storeK (by rfl) 30 (.tmp 4) (.tmp 21) rfl (w.heap.size + 1) (objC (.slice none 0 0) (.slice none 0 0) (.slice none 0 0) (zObj k)).toArray (by rfl) (by rfl) 30 _ b40 (by kernel_rfl) (by rfl) (zObj_is w k (by omega)).one ?_; intro w4 b4 gr4; have bR := grown_other gr4 bR0 (by omega); have X4 : Ext w w4 := (((Ext.refl w).alloc _).alloc _).grown gr4 (fun k hk => by simp at hk; omega); have q0 : w4.cell? ⟨w.heap.size + 1, 0, none⟩ = some (.int .i64 k) := (obj_at b4 rfl (zObj_ok k (by omega))).c0)
        | ((with_reducible refine at_store 30 (.tmp 2) (.tmp 30) ?_); (refine wpl_storeK (by rfl) 30 (.tmp 2) (.tmp 30) rfl w.heap.size (objC (.slice none 0 0) (.slice none 0 0) (.slice none 0 0) (zObj 0)).toArray (by rfl) (by rfl) 30 _ bR (by kernel_rfl) (by rfl) (zObj_is w 0 (by omega)).one ?_); intro wF bF grF)
        | fail)
      refine bodyPost_ret (results_cell_tmp rfl _ _ w.heap.size _ _ _ _ (by rfl) bF Try.underlying30 rfl (by kernel_rfl)) rfl ⟨(objC (.slice none 0 0) (.slice none 0 0) (.slice none 0 0) (zObj 0)).toArray, .slice none 0 0, .slice none 0 0, .slice none 0 0, ?_, ?_, X4.grown grF (fun k hk => by simp at hk; omega)⟩
      · rw [HD.out]; rfl
      · rw [HD.out]; exact zObj_is _ 0 (by omega)
  · obtain rfl : l = [] := List.eq_nil_of_length_eq_zero (by omega)
    have HD := Lib.hid dec_nil
    obtain ⟨ao, cap, rfl⟩ := sl_len h
    clear h
    have bR := heap_alloc_new w (.cells (objC (.slice none 0 0) (.slice none 0 0) (.slice none 0 0) (zObj 0)).toArray 30)
    have X4 : Ext w (w.alloc (.cells (objC (.slice none 0 0) (.slice none 0 0) (.slice none 0 0) (zObj 0)).toArray 30)) := (Ext.refl w).alloc _
    go_enter Try.func8, Try.ntmps8
    go_wp2_with (first
      | ((with_reducible refine at_store 30 (.tmp 2) (.tmp 16) ?_); (refine wpl_storeK (by rfl) 30 (.tmp 2) (.tmp 16) rfl w.heap.size (objC (.slice none 0 0) (.slice none 0 0) (.slice none 0 0) (zObj 0)).toArray (by rfl) (by rfl) 30 _ bR (by kernel_rfl) (by rfl) (zObj_is w 0 (by omega)).one ?_); intro wF bF grF)
      | fail)
    refine bodyPost_ret (results_cell_tmp rfl _ _ w.heap.size _ _ _ _ (by rfl) bF Try.underlying30 rfl (by kernel_rfl)) rfl ⟨(objC (.slice none 0 0) (.slice none 0 0) (.slice none 0 0) (zObj 0)).toArray, .slice none 0 0, .slice none 0 0, .slice none 0 0, ?_, ?_, X4.grown grF (fun k hk => by simp at hk; omega)⟩
    · rw [HD.out]; rfl
    · rw [HD.out]; exact zObj_is _ 0 (by omega)

set_option maxHeartbeats 8000000 in
set_option maxRecDepth 100000 in
theorem refDecode1 (w : World) (v : Value) (l : List UInt8) (h : IsB w v l) (hb : l.length ≤ 140737488355328) (h0 : 0 < l.length) (hk : l[0].toNat = 1) :
    Calls Try.prog 8 #[v] w (DecEnd (decP l) w) := by
  obtain ⟨ao, cap, rfl, b1, m1, z1, g1⟩ := h.opened
  obtain ⟨pb, po, rfl, e0⟩ := g1 0 h0
  have hcell : ∀ i (hi : i < l.length), w.cell? ⟨pb, po + i, none⟩ = some (.int .u8 (l[i].toNat : Int)) := by
    intro i hi
    obtain ⟨b, off, e, c⟩ := g1 i hi
    simp only [Option.some.injEq, Addr.mk.injEq] at e
    obtain ⟨rfl, rfl, _⟩ := e
    exact c
  have HCELL := Lib.hid hcell
  have hpb : pb < w.heap.size := World.block_lt_of_cell? _ _ e0
  clear g1 z1 hcell
  rw [Nat.add_zero, hk] at e0
  have HH := Lib.hid h
  clear h
  have bR0 := blk_old (o := .cells (objC (.slice none 0 0) (.slice none 0 0) (.slice none 0 0) (zObj 0)).toArray 30) (heap_alloc_new w (.cells (objC (.slice none 0 0) (.slice none 0 0) (.slice none 0 0) (zObj 0)).toArray 30))
  have b40 := blk_new (w := w.alloc (.cells (objC (.slice none 0 0) (.slice none 0 0) (.slice none 0 0) (zObj 0)).toArray 30)) (b := w.heap.size + 1) (o := .cells (objC (.slice none 0 0) (.slice none 0 0) (.slice none 0 0) (zObj 0)).toArray 30) (by simp)
  have l0 : (0 : Int) < (l.length : Int) := by omega
  have l0' : ((l.length : Int) == 0) = false := by rw [beq_eq_false_iff_ne]; omega
  have e0 : w.cell? ⟨pb, po, none⟩ = some (.int .u8 1) := e0
  by_cases h3 : l.length < 3
  · have hd := dec1_bad h0 hk (.inl h3)
    have HD := Lib.hid hd
    have l3 : (l.length : Int) < 3 := by omega
    clear hd hk
    go_enter Try.func8, Try.ntmps8
    go_wp2_with (first
      | ((with_reducible refine at_store 30 (.tmp 4) (.tmp 21) ?_); refine wpl_storeK (by rfl) 30 (.tmp 4) (.tmp 21) rfl (w.heap.size + 1) (objC (.slice none 0 0) (.slice none 0 0) (.slice none 0 0) (zObj 1)).toArray (by rfl) (by rfl) 30 _ b40 (by kernel_rfl) (by rfl) (zObj_is w 1 (by omega)).one ?_; intro w4 b4 gr4; have bR := grown_other gr4 bR0 (by omega); have X4 : Ext w w4 := (((Ext.refl w).alloc _).alloc _).grown gr4 (fun k hk => by simp at hk; omega); have q0 : w4.cell? ⟨w.heap.size + 1, 0, none⟩ = some (.int .i64 1) := (obj_at b4 rfl (zObj_ok 1 (by omega))).c0)
      | ((with_reducible refine at_store 30 (.tmp 2) (.tmp 37) ?_); (refine wpl_storeK (by rfl) 30 (.tmp 2) (.tmp 37) rfl w.heap.size (objC (.slice none 0 0) (.slice none 0 0) (.slice none 0 0) (zObj 0)).toArray (by rfl) (by rfl) 30 _ bR (by kernel_rfl) (by rfl) (zObj_is w 0 (by omega)).one ?_); intro wF bF grF)
      | fail)
    refine bodyPost_ret (results_cell_tmp rfl _ _ w.heap.size _ _ _ _ (by rfl) bF Try.underlying30 rfl (by kernel_rfl)) rfl ⟨(objC (.slice none 0 0) (.slice none 0 0) (.slice none 0 0) (zObj 0)).toArray, .slice none 0 0, .slice none 0 0, .slice none 0 0, ?_, ?_, X4.grown grF (fun k hk => by simp at hk; omega)⟩
    · rw [HD.out]; rfl
    · rw [HD.out]; exact zObj_is _ 0 (by omega)
  have l3 : ¬ (l.length : Int) < 3 := by omega
  have hn16 : num ((l.drop 1).take 2) < 65536 := by have := num_small ((l.drop 1).take 2) 2 (by rw [List.length_take]; omega); omega
  go_enter Try.func8, Try.ntmps8
  go_wp2_with (first
    | ((with_reducible refine at_store 30 (.tmp 4) (.tmp 21) ?_); refine wpl_storeK (by rfl) 30 (.tmp 4) (.tmp 21) rfl (w.heap.size + 1) (objC (.slice none 0 0) (.slice none 0 0) (.slice none 0 0) (zObj 1)).toArray (by rfl) (by rfl) 30 _ b40 (by kernel_rfl) (by rfl) (zObj_is w 1 (by omega)).one ?_; intro w4 b4 gr4; have bR := grown_other gr4 bR0 (by omega); have X4 : Ext w w4 := (((Ext.refl w).alloc _).alloc _).grown gr4 (fun k hk => by simp at hk; omega); have q0 : w4.cell? ⟨w.heap.size + 1, 0, none⟩ = some (.int .i64 1) := (obj_at b4 rfl (zObj_ok 1 (by omega))).c0)
    | fail)
  have hcut := (HH.out.ext X4).cut 1 3 (by omega) (by omega)
  refine Calls.mono (refNumber _ _ ((l.drop 1).take 2) (by simpa [show ¬ cap = 1 by omega, Addr.add] using hcut) (by rw [List.length_take]; omega)) ?_
  rintro e w5 ⟨rfl, rfl⟩
  have hd1 := fun hs => dec1_bad h0 hk hs
  have hd2 := fun hs => dec1_ok h0 hk (by omega) hs
  obtain ⟨n, hn⟩ : ∃ n, num ((l.drop 1).take 2) = n := ⟨_, rfl⟩
  rw [hn] at hn16 hd1 hd2 ⊢
  clear hn hcut hk
  by_cases hs : l.length < 3 + n
  · have HD := Lib.hid (hd1 (.inr hs))
    have hs1 : (l.length : Int) - 3 < (n : Int) := by omega
    clear hd1 hd2
    go_wp2_with (first
      | ((with_reducible refine at_store 30 (.tmp 2) (.tmp 47) ?_); (refine wpl_storeK (by rfl) 30 (.tmp 2) (.tmp 47) rfl w.heap.size (objC (.slice none 0 0) (.slice none 0 0) (.slice none 0 0) (zObj 0)).toArray (by rfl) (by rfl) 30 _ bR (by kernel_rfl) (by rfl) (zObj_is w 0 (by omega)).one ?_); intro wF bF grF)
      | fail)
    refine bodyPost_ret (results_cell_tmp rfl _ _ w.heap.size _ _ _ _ (by rfl) bF Try.underlying30 rfl (by kernel_rfl)) rfl ⟨(objC (.slice none 0 0) (.slice none 0 0) (.slice none 0 0) (zObj 0)).toArray, .slice none 0 0, .slice none 0 0, .slice none 0 0, ?_, ?_, X4.grown grF (fun k hk => by simp at hk; omega)⟩
    · rw [HD.out]; rfl
    · rw [HD.out]; exact zObj_is _ 0 (by omega)
  have HE := Lib.hid (hd2 (by omega))
  clear hd1 hd2
  have hs1 : ¬ (l.length : Int) - 3 < (n : Int) := by omega
  have hvc := HH.out.cut 3 (3 + n) (by omega) (by omega)
  have hs2 : (3 : Int) + (n : Int) ≤ (cap : Int) := by omega
  have hs3 : 3 + n ≤ cap := by omega
  have hs4 : (3 : Int) ≤ 3 + (n : Int) := by omega
  have hn0 : (0 : Int) ≤ (n : Int) := Int.natCast_nonneg _
  have q1 := (obj_at b4 rfl (zObj_ok 1 (by omega))).c1
  have f1 := block_free b4 1
  have hst0 : ∀ ao : Option Addr, (Instr.storeAt 22 (.pointer (some ⟨w.heap.size + 1, 1, none⟩)) (.slice ao n (cap - 3))).run Try.prog w4 = .ok () (w4.setCell ⟨w.heap.size + 1, 1, none⟩ (.slice ao n (cap - 3))) := fun ao => by go_simp
  have hadd : (⟨pb, po, none⟩ : Addr).add (3 * 1) = ⟨pb, po + 3, none⟩ := rfl
  rw [show 3 + n - 3 = n from by omega, Option.map_some, hadd] at hvc
  clear hadd
  have q0' := q0
  have ho : ObjOk { zObj 1 with bytes := (l.drop 3).take n } := ⟨by simp [zObj], by rw [show ({ zObj 1 with bytes := (l.drop 3).take n } : ObjL).bytes = (l.drop 3).take n from rfl, List.length_take, List.length_drop]; omega, by simp [zObj], by simp [zObj], rfl, by simp [zObj], by simp [zObj], (show (0 : Nat) < 4294967296 by omega), Nat.zero_le _⟩
  by_cases hcap : cap = 3
  · subst hcap
    obtain rfl : n = 0 := by omega
    have HE := Lib.hid (show decP l = endP l { zObj 1 with bytes := (l.drop 3).take 0 } 3 true from HE.out)
    rw [if_pos rfl] at hvc
    have hvc : IsB w (.slice (some ⟨pb, po, none⟩) 0 0) ((l.drop 3).take 0) := hvc
    have hoff : Off (.slice (some ⟨pb, po, none⟩) 0 0) w.heap.size := by
      intro b off sp n c q
      simp only [Value.slice.injEq, Option.some.injEq, Addr.mk.injEq] at q
      omega
    clear hst0
    have grE := grown_setCell w4 (w.heap.size + 1) 1 (.slice (some ⟨pb, po, none⟩) 0 0)
    have bE4 := block_setCell b4 (i := 1) (.slice (some ⟨pb, po, none⟩) 0 0)
    rw [obj_set1 _ _ _ _ (zObj 1) ((l.drop 3).take 0)] at bE4
    have bRE := grown_other grE bR (by omega)
    have XE := X4.grown grE (fun k hk => by simp at hk; omega)
    have hO : IsObj (w4.setCell ⟨w.heap.size + 1, 1, none⟩ (.slice (some ⟨pb, po, none⟩) 0 0)) (objC (.slice (some ⟨pb, po, none⟩) 0 0) (.slice none 0 0) (.slice none 0 0) { zObj 1 with bytes := (l.drop 3).take 0 }).toArray (.slice (some ⟨pb, po, none⟩) 0 0) (.slice none 0 0) (.slice none 0 0) { zObj 1 with bytes := (l.drop 3).take 0 } := ⟨rfl, ho, hvc.ext XE, IsSl.nil _ _, IsSl.nil _ _⟩
    clear ho hvc
    generalize hQO : (objC (.slice (some ⟨pb, po, none⟩) 0 0) (.slice none 0 0) (.slice none 0 0) { zObj 1 with bytes := (l.drop 3).take 0 }).toArray = QO at *
    clear hQO
    generalize ({ zObj 1 with bytes := (l.drop 3).take 0 } : ObjL) = o at *
    have hA : ¬ 3 < l.length := by omega
    have hA2 : decide ((3 : Int) < (l.length : Int)) = false := decide_eq_false (by omega)
    cases hC : checkB o with
    | false =>
      have hd : decP l = (zObj 0, 150) := by rw [HE.out]; unfold endP; rw [if_pos (by rw [hC]; simp)]
      have HD := Lib.hid hd
      clear hd
      go_wp2_with (first
        | ((with_reducible refine at_load 30 (.tmp 4) ?_); refine wpl_load (by rfl) 30 (.tmp 4) rfl (w.heap.size + 1) (by rfl) 30 QO (0, 0) _ bE4 Try.underlying30 rfl hO.info ?_)
        | (go_at_call 17; refine Calls.mono (refRightO _ QO (.slice (some ⟨pb, po, none⟩) 0 0) (.slice none 0 0) (.slice none 0 0) o hO) ?_; rintro e wc ⟨rfl, xc⟩; rw [hC]; have bRE := xc.keeps bRE; have bE4 := xc.keeps bE4; have hO := hO.ext xc; have XE := XE.trans xc)
        | ((with_reducible refine at_store 30 (.tmp 2) (.tmp 229) ?_); (refine wpl_storeK (by rfl) 30 (.tmp 2) (.tmp 229) rfl w.heap.size (objC (.slice none 0 0) (.slice none 0 0) (.slice none 0 0) (zObj 0)).toArray (by rfl) (by rfl) 30 _ bRE (by kernel_rfl) (by rfl) (zObj_is w 0 (by omega)).one ?_); intro wF bF grF)
        | fail)
      refine bodyPost_ret (results_cell_tmp rfl _ _ w.heap.size _ _ _ _ (by rfl) bF Try.underlying30 rfl (by kernel_rfl)) rfl ⟨(objC (.slice none 0 0) (.slice none 0 0) (.slice none 0 0) (zObj 0)).toArray, .slice none 0 0, .slice none 0 0, .slice none 0 0, ?_, ?_, XE.grown grF (fun k hk => by simp at hk; omega)⟩
      · rw [HD.out]; rfl
      · rw [HD.out]; exact zObj_is _ 0 (by omega)
    | true =>
      have hd : decP l = (o, 0) := by rw [HE.out]; unfold endP; rw [if_neg (by have : decide ((l.length : Int) - (3 : Nat) > 0) = false := decide_eq_false (by omega); rw [this, hC]; simp)]
      have HD := Lib.hid hd
      clear hd
      go_wp2_with (first
        | ((with_reducible refine at_load 30 (.tmp 4) ?_); refine wpl_load (by rfl) 30 (.tmp 4) rfl (w.heap.size + 1) (by rfl) 30 QO (0, 0) _ bE4 Try.underlying30 rfl hO.info ?_)
        | (go_at_call 17; refine Calls.mono (refRightO _ QO (.slice (some ⟨pb, po, none⟩) 0 0) (.slice none 0 0) (.slice none 0 0) o hO) ?_; rintro e wc ⟨rfl, xc⟩; rw [hC]; have bRE := xc.keeps bRE; have bE4 := xc.keeps bE4; have hO := hO.ext xc; have XE := XE.trans xc)
        | ((with_reducible refine at_store 30 (.tmp 2) (.tmp 230) ?_); (refine wpl_storeK (by rfl) 30 (.tmp 2) (.tmp 230) rfl w.heap.size QO (by rfl) (by rfl) 30 _ bRE hO.info (by rw [hO.size]; rfl) hO.one ?_); intro wF bF grF)
        | fail)
      refine bodyPost_ret (results_cell_tmp rfl _ _ w.heap.size _ _ _ _ (by rfl) bF Try.underlying30 rfl hO.info) rfl ⟨QO, (.slice (some ⟨pb, po, none⟩) 0 0), (.slice none 0 0), (.slice none 0 0), ?_, ?_, XE.grown grF (fun k hk => by simp at hk; omega)⟩
      · rw [HD.out]; rfl
      · rw [HD.out]
        exact ⟨hO.eq, hO.ok, hO.vb.other grF hoff, hO.ve.other grF (Off.nil _ _ _), hO.vp.other grF (Off.nil _ _ _)⟩
  · rw [if_neg hcap] at hvc
    have hvc : IsB w (.slice (some ⟨pb, po + 3, none⟩) n (cap - 3)) ((l.drop 3).take n) := hvc
    have hoff : Off (.slice (some ⟨pb, po + 3, none⟩) n (cap - 3)) w.heap.size := by
      intro b off sp n c q
      simp only [Value.slice.injEq, Option.some.injEq, Addr.mk.injEq] at q
      omega
    clear hst0
    have grE := grown_setCell w4 (w.heap.size + 1) 1 (.slice (some ⟨pb, po + 3, none⟩) n (cap - 3))
    have bE4 := block_setCell b4 (i := 1) (.slice (some ⟨pb, po + 3, none⟩) n (cap - 3))
    rw [obj_set1 _ _ _ _ (zObj 1) ((l.drop 3).take n)] at bE4
    have bRE := grown_other grE bR (by omega)
    have XE := X4.grown grE (fun k hk => by simp at hk; omega)
    have hO : IsObj (w4.setCell ⟨w.heap.size + 1, 1, none⟩ (.slice (some ⟨pb, po + 3, none⟩) n (cap - 3))) (objC (.slice (some ⟨pb, po + 3, none⟩) n (cap - 3)) (.slice none 0 0) (.slice none 0 0) { zObj 1 with bytes := (l.drop 3).take n }).toArray (.slice (some ⟨pb, po + 3, none⟩) n (cap - 3)) (.slice none 0 0) (.slice none 0 0) { zObj 1 with bytes := (l.drop 3).take n } := ⟨rfl, ho, hvc.ext XE, IsSl.nil _ _, IsSl.nil _ _⟩
    clear ho hvc
    generalize hQO : (objC (.slice (some ⟨pb, po + 3, none⟩) n (cap - 3)) (.slice none 0 0) (.slice none 0 0) { zObj 1 with bytes := (l.drop 3).take n }).toArray = QO at *
    clear hQO
    generalize ({ zObj 1 with bytes := (l.drop 3).take n } : ObjL) = o at *
    by_cases hA : 3 + n < l.length
    · have hA1 : (3 + n : Int) < (l.length : Int) := by omega
      have hd : decP l = (zObj 0, 150) := by rw [HE.out]; unfold endP; rw [if_pos (by have : decide ((l.length : Int) - (3 + n : Nat) > 0) = true := decide_eq_true (by omega); rw [this]; rfl)]
      have HD := Lib.hid hd
      clear hd
      go_wp2_with (first
        | ((with_reducible refine at_store 30 (.tmp 2) (.tmp 229) ?_); (refine wpl_storeK (by rfl) 30 (.tmp 2) (.tmp 229) rfl w.heap.size (objC (.slice none 0 0) (.slice none 0 0) (.slice none 0 0) (zObj 0)).toArray (by rfl) (by rfl) 30 _ bRE (by kernel_rfl) (by rfl) (zObj_is w 0 (by omega)).one ?_); intro wF bF grF)
        | fail)
      refine bodyPost_ret (results_cell_tmp rfl _ _ w.heap.size _ _ _ _ (by rfl) bF Try.underlying30 rfl (by kernel_rfl)) rfl ⟨(objC (.slice none 0 0) (.slice none 0 0) (.slice none 0 0) (zObj 0)).toArray, .slice none 0 0, .slice none 0 0, .slice none 0 0, ?_, ?_, XE.grown grF (fun k hk => by simp at hk; omega)⟩
      · rw [HD.out]; rfl
      · rw [HD.out]; exact zObj_is _ 0 (by omega)
    have hA2 : decide ((3 + n : Int) < (l.length : Int)) = false := decide_eq_false (by omega)
    cases hC : checkB o with
    | false =>
      have hd : decP l = (zObj 0, 150) := by rw [HE.out]; unfold endP; rw [if_pos (by rw [hC]; simp)]
      have HD := Lib.hid hd
      clear hd
      go_wp2_with (first
        | ((with_reducible refine at_load 30 (.tmp 4) ?_); refine wpl_load (by rfl) 30 (.tmp 4) rfl (w.heap.size + 1) (by rfl) 30 QO (0, 0) _ bE4 Try.underlying30 rfl hO.info ?_)
        | (go_at_call 17; refine Calls.mono (refRightO _ QO (.slice (some ⟨pb, po + 3, none⟩) n (cap - 3)) (.slice none 0 0) (.slice none 0 0) o hO) ?_; rintro e wc ⟨rfl, xc⟩; rw [hC]; have bRE := xc.keeps bRE; have bE4 := xc.keeps bE4; have hO := hO.ext xc; have XE := XE.trans xc)
        | ((with_reducible refine at_store 30 (.tmp 2) (.tmp 229) ?_); (refine wpl_storeK (by rfl) 30 (.tmp 2) (.tmp 229) rfl w.heap.size (objC (.slice none 0 0) (.slice none 0 0) (.slice none 0 0) (zObj 0)).toArray (by rfl) (by rfl) 30 _ bRE (by kernel_rfl) (by rfl) (zObj_is w 0 (by omega)).one ?_); intro wF bF grF)
        | fail)
      refine bodyPost_ret (results_cell_tmp rfl _ _ w.heap.size _ _ _ _ (by rfl) bF Try.underlying30 rfl (by kernel_rfl)) rfl ⟨(objC (.slice none 0 0) (.slice none 0 0) (.slice none 0 0) (zObj 0)).toArray, .slice none 0 0, .slice none 0 0, .slice none 0 0, ?_, ?_, XE.grown grF (fun k hk => by simp at hk; omega)⟩
      · rw [HD.out]; rfl
      · rw [HD.out]; exact zObj_is _ 0 (by omega)
    | true =>
      have hd : decP l = (o, 0) := by rw [HE.out]; unfold endP; rw [if_neg (by have : decide ((l.length : Int) - (3 + n : Nat) > 0) = false := decide_eq_false (by omega); rw [this, hC]; simp)]
      have HD := Lib.hid hd
      clear hd
      go_wp2_with (first
        | ((with_reducible refine at_load 30 (.tmp 4) ?_); refine wpl_load (by rfl) 30 (.tmp 4) rfl (w.heap.size + 1) (by rfl) 30 QO (0, 0) _ bE4 Try.underlying30 rfl hO.info ?_)
        | (go_at_call 17; refine Calls.mono (refRightO _ QO (.slice (some ⟨pb, po + 3, none⟩) n (cap - 3)) (.slice none 0 0) (.slice none 0 0) o hO) ?_; rintro e wc ⟨rfl, xc⟩; rw [hC]; have bRE := xc.keeps bRE; have bE4 := xc.keeps bE4; have hO := hO.ext xc; have XE := XE.trans xc)
        | ((with_reducible refine at_store 30 (.tmp 2) (.tmp 230) ?_); (refine wpl_storeK (by rfl) 30 (.tmp 2) (.tmp 230) rfl w.heap.size QO (by rfl) (by rfl) 30 _ bRE hO.info (by rw [hO.size]; rfl) hO.one ?_); intro wF bF grF)
        | fail)
      refine bodyPost_ret (results_cell_tmp rfl _ _ w.heap.size _ _ _ _ (by rfl) bF Try.underlying30 rfl hO.info) rfl ⟨QO, (.slice (some ⟨pb, po + 3, none⟩) n (cap - 3)), (.slice none 0 0), (.slice none 0 0), ?_, ?_, XE.grown grF (fun k hk => by simp at hk; omega)⟩
      · rw [HD.out]; rfl
      · rw [HD.out]
        exact ⟨hO.eq, hO.ok, hO.vb.other grF hoff, hO.ve.other grF (Off.nil _ _ _), hO.vp.other grF (Off.nil _ _ _)⟩
end Go.Proofs.Ytcdlmappcbbacaa
