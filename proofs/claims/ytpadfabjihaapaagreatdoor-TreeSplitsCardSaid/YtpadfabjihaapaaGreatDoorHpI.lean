/- Objects under their Ids as they lie in cells; which of them has an Id. -/
import Derived.Test.YtpadfabjihaapaaGreatDoorObId
import Derived.Test.YtpadfabjihaapaaGreatDoorObE
import Derived.Test.YtpadfabjihaapaaGreatDoorRfJ
import Derived.Test.YtpadfabjihaapaaGreatDoorRegG
import Derived.Test.YtpadfabjihaapaaGreatDoorRegC
import Derived.Test.YtpadfabjihaapaaGreatDoorRegP
import Derived.Test.YtpadfabjihaapaaGreatDoorObL
import Derived.Deep.DeepAppendWide
import Derived.Deep.DeepCutAuto
import Derived.Test.YtpadfabjihaapaaGreatDoorShelf
import Derived.Test.YtpadfabjihaapaaGreatDoorFlC
import Derived.Maps.AppendAt
namespace Go.Proofs.YtpadfabjihaapaaGreatDoor
open Go.RowKit
set_option linter.unusedVariables false
set_option linter.unusedSimpArgs false

/-- An object under its Id, as cells. -/
structure HdC where
  id : List UInt8
  obj : List Value
def hdC (h : HdC) : List Value := h.id.map bc ++ h.obj
structure HdOk (h : HdC) : Prop where
  id : h.id.length = 32
  obj : h.obj.length = 38
  one : ∀ v ∈ h.obj, v.oneCell' = true
theorem hdC_len {h : HdC} (k : HdOk h) : (hdC h).length = 70 := by simp [hdC, k.id, k.obj]
theorem hd_one {h : HdC} (k : HdOk h) : ∀ v ∈ hdC h, v.oneCell' = true := by
  intro v hv
  rcases List.mem_append.1 hv with h | h
  · exact bc_one _ _ h
  · exact k.one v h
structure IsH (w : World) (v : Value) (l : List HdC) : Prop where
  sl : IsSl w v 70 l.length (l.flatMap hdC)
  ok : ∀ e ∈ l, HdOk e
theorem IsH.ext {w w' : World} {v : Value} {l : List HdC} (h : IsH w v l) (k : Ext w w') : IsH w' v l := ⟨h.sl.ext k, h.ok⟩
theorem hd_info {e : HdC} (h : HdOk e) : (Tryz.prog.info? 47).map (·.size) = some (hdC e).length := by
  rw [hdC_len h]; kernel_rfl
theorem hd_at {w : World} {ao : Option Addr} {n cap : Nat} {es : List HdC} (h : IsSl w (.slice ao n cap) 70 es.length (es.flatMap hdC)) (hok : ∀ e ∈ es, HdOk e) (i : Nat) (hi : i < es.length) :
    ∃ b off, ao = some ⟨b, off, none⟩ ∧ w.rangeAt b (off + i * 70) (hdC es[i]) := rows_at (by omega) h (fun x hx => hdC_len (hok x hx)) i hi
theorem hd_id {w : World} {b o : Nat} {e : HdC} (h : w.rangeAt b o (hdC e)) : w.rangeAt b o (e.id.map bc) := by
  intro j v hj
  refine h j v ?_
  unfold hdC
  rw [List.getElem?_append_left (List.getElem?_eq_some_iff.1 hj).1]
  exact hj
theorem hd_obj {w : World} {b o : Nat} {e : HdC} (k : HdOk e) (h : w.rangeAt b o (hdC e)) : w.rangeAt b (o + 32) e.obj := by
  intro j v hj
  have := h (32 + j) v (by unfold hdC; rw [List.getElem?_append_right (by simp [k.id])]; simpa [k.id] using hj)
  rw [← Nat.add_assoc] at this
  exact this
def FoundA {α : Type} (l : List α) (p : α → Bool) (r : Int) : Prop := (∃ i, ∃ hi : i < l.length, r = (i : Int) ∧ p l[i] = true ∧ ∀ j (hj : j < l.length), j < i → p l[j] = false) ∨ (r = -1 ∧ ∀ j (hj : j < l.length), p l[j] = false)

set_option maxHeartbeats 4000000 in
set_option maxRecDepth 100000 in
theorem closPut (w : World) (x : HdC) (q : Nat) (id : List UInt8) (hid : id.length = 32) (hx : HdOk x) (h0 : w.rangeAt q 0 (id.map bc)) :
    Calls Tryz.prog 73 #[.agg (hdC x).toArray, .pointer (some ⟨q, 0, none⟩)] w fun e w' => e = .returned (.bool (decide (x.id = id))) ∧ Ext w w' := by
  have X : Ext w (w.alloc (.cells (hdC x).toArray 47)) := (Ext.refl w).alloc _
  have hA : (w.alloc (.cells (hdC x).toArray 47)).rangeAt w.heap.size 0 (x.id.map bc) := hd_id (fun j v hj => by rw [block_cell (heap_alloc_new w _)]; simpa using hj)
  have hB := rangeAt_ext h0 X
  have hti := fun w => eql_id w x.id id hx.id hid
  have hia := id_info hx.id
  have hib := id_info hid
  go_enter Tryz.func73, Tryz.ntmps73
  generalize hG : w.heap.size = G at *
  go_wp2_with (first
    | ((with_reducible refine at_load 31 (.tmp 4) ?_); refine wpl_mid (by rfl) 31 (.tmp 4) rfl G 0 (by rfl) (x.id.map bc) _ hA Tryz.underlying31 rfl hia ?_)
    | ((with_reducible refine at_load 31 (.tmp 6) ?_); refine wpl_mid (by rfl) 31 (.tmp 6) rfl q 0 (by rfl) (id.map bc) _ hB Tryz.underlying31 rfl hib ?_)
    | ((with_reducible refine at_load 31 (.tmp 1) ?_); refine wpl_mid (by rfl) 31 (.tmp 1) rfl q 0 (by rfl) (id.map bc) _ hB Tryz.underlying31 rfl hib ?_))
  go_ret
  exact ⟨ret_bool rfl, X⟩

set_option maxHeartbeats 4000000 in
set_option maxRecDepth 100000 in
theorem indexPut (w : World) (v : Value) (l : List HdC) (h : IsH w v l) (q : Nat) (id : List UInt8) (hid : id.length = 32) (h0 : w.rangeAt q 0 (id.map bc)) :
    Calls Tryz.prog 72 #[v, .func (Fn.func 73) #[] #[.pointer (some ⟨q, 0, none⟩)]] w fun e w' => ∃ r, e = .returned (.int .i64 r) ∧ FoundA l (fun x => decide (x.id = id)) r ∧ Ext w w' := by
  obtain ⟨ao, cap, rfl⟩ := sl_len h.sl
  obtain ⟨b1, m1⟩ : l.length ≤ cap ∧ cap ≤ 9223372036854775807 := by
    obtain ⟨_, ao', cap', e, b1, m1, _⟩ := h.sl
    simp only [Value.slice.injEq, true_and] at e
    obtain ⟨_, rfl⟩ := e
    exact ⟨b1, m1⟩
  have H := Lib.hid h
  have H0 := Lib.hid h0
  clear h h0
  go_enter Tryz.func72, Tryz.ntmps72
  go_wp2
  go_loopg [8] l.length (fun g s8 wr => ∃ k : Nat, k ≤ l.length ∧ l.length - k ≤ g ∧ s8 = .int .i64 k ∧ (∀ j (hj : j < l.length), j < k → decide (l[j].id = id) = false) ∧ Ext w wr)
  case atStart => exact ⟨0, Nat.zero_le _, by omega, rfl, fun j _ hj => absurd hj (Nat.not_lt_zero _), Ext.refl _⟩
  case round =>
    obtain ⟨k, hk, hg, rfl, hall, xr⟩ := hrel
    have HALL := Lib.hid hall
    clear hall
    by_cases hlt : k < l.length
    · obtain ⟨pb, o, rfl, hraL⟩ := hd_at H.out.sl H.out.ok k hlt
      have hra := rangeAt_ext hraL xr
      have hok := H.out.ok l[k] (List.getElem_mem hlt)
      have hq := rangeAt_ext H0.out xr
      generalize hx : l[k] = x at *
      have HX := Lib.hid hx
      have hinf := hd_info hok
      have HQ := Lib.hid hq
      clear hx hraL hq
      go_wp2_with ((with_reducible refine at_load 47 (.tmp 14) ?_); refine wpl_mid (by rfl) 47 (.tmp 14) rfl pb (o + k * 70) (by rfl) (hdC x) _ hra Tryz.underlying47 rfl hinf ?_)
      refine Calls.mono (closPut _ x q id hid hok HQ.out) ?_
      rintro e w2 ⟨rfl, x2⟩
      cases hp : decide (x.id = id)
      · have HP := Lib.hid hp
        clear hp
        go_wp2
        go_roundg (l.length - (k + 1))
        case measure => omega
        case rel =>
          refine ⟨k + 1, by omega, by omega, by go_num, fun j hj hj1 => ?_, xr.trans x2⟩
          by_cases e : j = k
          · subst e; rw [HX.out]; exact HP.out
          · exact HALL.out j hj (by omega)
      · have HP := Lib.hid hp
        clear hp
        go_wp2
        go_ret
        exact ⟨_, rfl, .inl ⟨k, hlt, rfl, by rw [HX.out]; exact HP.out, fun j hj hj1 => HALL.out j hj hj1⟩, xr.trans x2⟩
    · have : k = l.length := by omega
      subst this
      go_wp2
      go_ret
      exact ⟨_, rfl, .inr ⟨rfl, fun j hj => HALL.out j hj hj⟩, xr⟩

end Go.Proofs.YtpadfabjihaapaaGreatDoor

namespace Go.Proofs.YtpadfabjihaapaaGreatDoor
open Go.RowKit
set_option linter.unusedVariables false
set_option linter.unusedSimpArgs false

theorem fill_step (place : Nat → Option (Nat × Nat)) (i off size : Nat) (hp : place i = some (off, size)) (v : Value) (V : List Value) (hv : v.cells = V.toArray) (hV : V.length = size)
    (A M B : List Value) (hA : A.length = off) (hM : M.length = size) (rest : List (Nat × Value)) :
    Instr.fill place (A ++ M ++ B).toArray ((i, v) :: rest) = Instr.fill place (A ++ V ++ B).toArray rest := by
  have key := setFrom_mid V M A B (by omega)
  have key2 := fold_from off V 0 (A ++ M ++ B).toArray
  rw [Instr.fill, hp, hv]
  simp only [List.size_toArray]
  rw [if_neg (by simp; omega)]
  congr 1
  rw [Nat.add_zero, ← hA] at key2
  simp at key key2 ⊢
  rw [← hA]
  exact key2.trans key
theorem built_fill {P : Program} {t : TypeId} {pl : List (Nat × Nat)} {Z : List Value}
    (hpl : (match P.underlying t with | some (.struct fs) => fs.toList.mapM (fun f => (P.info? f.type).map fun i => (f.offset, i.size)) | _ => none) = some pl)
    (hz : (P.info? t).map (fun i => i.zero.map (fun z => z.cells)) = some (some Z.toArray)) (parts : List (Nat × Value)) :
    P.built t parts = Instr.fill (pl.toArray[·]?) Z.toArray parts := by
  unfold Program.built
  cases hi : P.info? t with
  | none => rw [hi] at hz; simp at hz
  | some it =>
    rw [hi] at hz
    simp only [Option.map_some, Option.some.injEq] at hz
    cases hq : it.zero with
    | none => rw [hq] at hz; simp at hz
    | some z =>
      rw [hq] at hz
      simp only [Option.map_some, Option.some.injEq] at hz
      cases hu : P.underlying t with
      | none => rw [hu] at hpl; simp at hpl
      | some d =>
        rw [hu] at hpl
        cases d <;> try (simp at hpl; done)
        case struct fs =>
          have hpl : fs.toList.mapM (fun f => (P.info? f.type).map fun i => (f.offset, i.size)) = some pl := hpl
          simp only [hpl, hq, hz]
def o0 : ObjL := ⟨0, [], [], z32, [], 0, ⟨#[]⟩⟩
def nilS : Value := .slice none 0 0
set_option maxRecDepth 1000000 in
theorem places_obj : (match Tryz.prog.underlying 45 with | some (.struct fs) => fs.toList.mapM (fun f => (Tryz.prog.info? f.type).map fun i => (f.offset, i.size)) | _ => none) = some [(0, 1), (1, 1), (2, 1), (3, 32), (35, 1), (36, 1), (37, 1)] := by kernel_rfl
set_option maxRecDepth 1000000 in
theorem zero_obj : (Tryz.prog.info? 45).map (fun i => i.zero.map (fun z => z.cells)) = some (some (objC nilS nilS nilS o0).toArray) := by kernel_rfl
set_option maxRecDepth 1000000 in
theorem places_hd : (match Tryz.prog.underlying 47 with | some (.struct fs) => fs.toList.mapM (fun f => (Tryz.prog.info? f.type).map fun i => (f.offset, i.size)) | _ => none) = some [(0, 32), (32, 38)] := by kernel_rfl
set_option maxRecDepth 1000000 in
theorem zero_hd : (Tryz.prog.info? 47).map (fun i => i.zero.map (fun z => z.cells)) = some (some (hdC ⟨z32, objC nilS nilS nilS o0⟩).toArray) := by kernel_rfl
set_option maxRecDepth 1000000 in
set_option maxHeartbeats 1000000 in
theorem built_hd (h : HdC) (k : HdOk h) : Tryz.prog.built 47 [(0, .agg (h.id.map bc).toArray), (1, .agg h.obj.toArray)] = some (hdC h).toArray := by
  rw [built_fill places_hd zero_hd]
  have e1 := fill_step (fun i => #[(0, 32), (32, 38)][i]?) 0 0 32 rfl (.agg (h.id.map bc).toArray) (h.id.map bc) rfl (by simp [k.id]) [] (z32.map bc) (objC nilS nilS nilS o0) rfl rfl [(1, .agg h.obj.toArray)]
  have e2 := fill_step (fun i => #[(0, 32), (32, 38)][i]?) 1 32 38 rfl (.agg h.obj.toArray) h.obj rfl k.obj (h.id.map bc) (objC nilS nilS nilS o0) [] (by simp [k.id]) rfl []
  rw [List.append_nil, List.append_nil] at e2
  exact (e1.trans e2)
set_option maxRecDepth 1000000 in
set_option maxHeartbeats 1000000 in
/-- A folder. -/
theorem built_tree (ve : Value) (hv : ve.cells = #[ve]) (es : List EntL) : Tryz.prog.built 45 [(0, .int .i64 2), (2, ve)] = some (objC nilS ve nilS ⟨2, [], es, z32, [], 0, ⟨#[]⟩⟩).toArray := by
  rw [built_fill places_obj zero_obj]
  have e1 := fill_step (fun i => #[(0, 1), (1, 1), (2, 1), (3, 32), (35, 1), (36, 1), (37, 1)][i]?) 0 0 1 rfl (.int .i64 2) [.int .i64 2] rfl rfl [] [.int .i64 0] ([nilS, nilS] ++ z32.map bc ++ [nilS, .int .u32 0, .string ⟨#[]⟩]) rfl rfl [(2, ve)]
  have e2 := fill_step (fun i => #[(0, 1), (1, 1), (2, 1), (3, 32), (35, 1), (36, 1), (37, 1)][i]?) 2 2 1 rfl ve [ve] hv rfl [.int .i64 2, nilS] [nilS] (z32.map bc ++ [nilS, .int .u32 0, .string ⟨#[]⟩]) rfl rfl []
  exact e1.trans e2
set_option maxRecDepth 1000000 in
set_option maxHeartbeats 1000000 in
/-- A file. -/
theorem built_blob (vb : Value) (hv : vb.cells = #[vb]) (b : List UInt8) : Tryz.prog.built 45 [(0, .int .i64 1), (1, vb)] = some (objC vb nilS nilS ⟨1, b, [], z32, [], 0, ⟨#[]⟩⟩).toArray := by
  rw [built_fill places_obj zero_obj]
  have e1 := fill_step (fun i => #[(0, 1), (1, 1), (2, 1), (3, 32), (35, 1), (36, 1), (37, 1)][i]?) 0 0 1 rfl (.int .i64 1) [.int .i64 1] rfl rfl [] [.int .i64 0] ([nilS, nilS] ++ z32.map bc ++ [nilS, .int .u32 0, .string ⟨#[]⟩]) rfl rfl [(1, vb)]
  have e2 := fill_step (fun i => #[(0, 1), (1, 1), (2, 1), (3, 32), (35, 1), (36, 1), (37, 1)][i]?) 1 1 1 rfl vb [vb] hv rfl [.int .i64 1] [nilS] ([nilS] ++ z32.map bc ++ [nilS, .int .u32 0, .string ⟨#[]⟩]) rfl rfl []
  exact e1.trans e2
set_option maxRecDepth 1000000 in
set_option maxHeartbeats 1000000 in
/-- A commit. -/
theorem built_commit (vp : Value) (hv : vp.cells = #[vp]) (tr : List UInt8) (ht : tr.length = 32) (ps : List (List UInt8)) (n : Nat) (s : ByteArray) :
    Tryz.prog.built 45 [(0, .int .i64 3), (3, .agg (tr.map bc).toArray), (4, vp), (5, .int .u32 (n : Int)), (6, .string s)] = some (objC nilS nilS vp ⟨3, [], [], tr, ps, n, s⟩).toArray := by
  rw [built_fill places_obj zero_obj]
  have e1 := fill_step (fun i => #[(0, 1), (1, 1), (2, 1), (3, 32), (35, 1), (36, 1), (37, 1)][i]?) 0 0 1 rfl (.int .i64 3) [.int .i64 3] rfl rfl [] [.int .i64 0] ([nilS, nilS] ++ z32.map bc ++ [nilS, .int .u32 0, .string ⟨#[]⟩]) rfl rfl [(3, .agg (tr.map bc).toArray), (4, vp), (5, .int .u32 (n : Int)), (6, .string s)]
  have e2 := fill_step (fun i => #[(0, 1), (1, 1), (2, 1), (3, 32), (35, 1), (36, 1), (37, 1)][i]?) 3 3 32 rfl (.agg (tr.map bc).toArray) (tr.map bc) rfl (by simp [ht]) [.int .i64 3, nilS, nilS] (z32.map bc) [nilS, .int .u32 0, .string ⟨#[]⟩] rfl rfl [(4, vp), (5, .int .u32 (n : Int)), (6, .string s)]
  have e3 := fill_step (fun i => #[(0, 1), (1, 1), (2, 1), (3, 32), (35, 1), (36, 1), (37, 1)][i]?) 4 35 1 rfl vp [vp] hv rfl ([.int .i64 3, nilS, nilS] ++ tr.map bc) [nilS] [.int .u32 0, .string ⟨#[]⟩] (by simp [ht]) rfl [(5, .int .u32 (n : Int)), (6, .string s)]
  have e4 := fill_step (fun i => #[(0, 1), (1, 1), (2, 1), (3, 32), (35, 1), (36, 1), (37, 1)][i]?) 5 36 1 rfl (.int .u32 (n : Int)) [.int .u32 (n : Int)] rfl rfl ([.int .i64 3, nilS, nilS] ++ tr.map bc ++ [vp]) [.int .u32 0] [.string ⟨#[]⟩] (by simp [ht]) rfl [(6, .string s)]
  have e5 := fill_step (fun i => #[(0, 1), (1, 1), (2, 1), (3, 32), (35, 1), (36, 1), (37, 1)][i]?) 6 37 1 rfl (.string s) [.string s] rfl rfl ([.int .i64 3, nilS, nilS] ++ tr.map bc ++ [vp, .int .u32 (n : Int)]) [.string ⟨#[]⟩] [] (by simp [ht]) rfl []
  simp only [List.append_assoc, List.cons_append, List.nil_append, List.append_nil] at e1 e2 e3 e4 e5
  have := e1.trans (e2.trans (e3.trans (e4.trans e5)))
  simpa [objC, Instr.fill, o0] using this
theorem wpl_bldG {P : Program} {ops : Array Oper} {rest : List Oper} {o : Oper} {a : Act} {w : World} {Q : Exit → Act → World → Prop} (hgd : Region.wanted o (yielded ops a.tmps) = true) (t : TypeId) (fs : Array (Nat × Operand)) (ho : o.op = .build t fs)
    (parts : List (Nat × Value)) (hp : (fs.toList.map fun (i, z) => (i, a.eval z)) = parts) (cs : Array Value) (hc : P.built t parts = some cs) (h : wpList P ops Q rest (a.put o.dst (.agg cs)) w) : wpList P ops Q (o :: rest) a w :=
  wpList_wanted hgd fun K hK => by
    have hp : (fs.map fun (i, z) => (i, a.eval z)).toList = parts := by rw [Array.toList_map]; exact hp
    refine wp_build t _ ho (by rw [hp, hc]; rfl) ?_
    rw [hp, hc]
    exact hK _ _ h
theorem at_bldT (t : TypeId) {P : Program} {ops : Array Oper} {rest : List Oper} {dst : Option Tmp} {fs : Array (Nat × Operand)} {ty : TypeId} {pos : String} {after : Array Edge} {gd : Option (Nat × Bool)} {a : Act} {w : World} {Q : Exit → Act → World → Prop}
    (h : wpList P ops Q ({ dst := dst, op := .build t fs, type := ty, pos := pos, after := after, guard := gd } :: rest) a w) : wpList P ops Q ({ dst := dst, op := .build t fs, type := ty, pos := pos, after := after, guard := gd } :: rest) a w := h
theorem infoHd : (Tryz.prog.info? 47).map (fun i => (i.zero.map (·.cells.size), i.size)) = some (some 70, 70) := by kernel_rfl
theorem build_hd (w : World) (e : HdC) (h : HdOk e) : (Instr.buildSlice 27 1 #[(0, .agg (hdC e).toArray)]).run Tryz.prog w = .ok (.slice (some ⟨w.heap.size, 0, none⟩) 1 1) (w.alloc (.cells (hdC e).toArray 47)) :=
  build_one w _ _ 70 Tryz.underlying27 infoHd (by omega) (by omega) (hdC e) (hdC_len h)
theorem obj_hdOk {w : World} {QA : Array Value} {vb ve vp : Value} {o : ObjL} (h : IsObj w QA vb ve vp o) (id : List UInt8) (hid : id.length = 32) : HdOk ⟨id, QA.toList⟩ :=
  ⟨hid, by rw [Array.length_toList]; exact h.size, by
    have := h.one
    rw [Array.all_eq_true_iff_forall_mem] at this
    intro v hv
    exact this v (by simpa using hv)⟩
end Go.Proofs.YtpadfabjihaapaaGreatDoor

namespace Go.Proofs.YtpadfabjihaapaaGreatDoor
open Go.RowKit
set_option linter.unusedVariables false
set_option linter.unusedSimpArgs false

theorem tyHd : ∃ z, ETy Tryz.prog 27 47 z 70 168 := tyOf Tryz.underlying27 infoHd (by kernel_rfl) (by omega)
theorem wp_bldO {P : Program} {o : Oper} {a : Act} {w : World} {K : Act → World → Prop} {Q : Exit → Act → World → Prop} (t : TypeId) (fs : Array (Nat × Operand)) (ho : o.op = .build t fs)
    (parts : List (Nat × Value)) (hp : (fs.toList.map fun (i, z) => (i, a.eval z)) = parts) (cs : Array Value) (hc : P.built t parts = some cs) (h : K (a.put o.dst (.agg cs)) w) : o.wp P a w K Q := by
  have hp : (fs.map fun (i, z) => (i, a.eval z)).toList = parts := by rw [Array.toList_map]; exact hp
  refine wp_build t _ ho (by rw [hp, hc]; rfl) ?_
  rw [hp, hc]
  exact h
theorem wp_forgetH {P : Program} {c : Code} {Q : Exit → Act → World → Prop} {a : Act} {w : World} (R : World → Prop) (h : R w) (k : ∀ W, R W → c.wp P Q a W) : c.wp P Q a w := k w h
theorem block_allH {w : World} {g : Nat} {c : Array Value} {e : TypeId} {f : Nat × Nat} (h : w.heap[g]? = some (.cells c e f)) : ∀ i, w.cell? ⟨g, i, none⟩ = c[i]? := fun i => block_cell h i
theorem own_neH {w : World} {base : Nat} {e t : TypeId} {size : Nat} {v : Value} {n : Nat} {xs : List Value} {g : Nat} {c : Array Value} {f : Nat × Nat} (h : w.ownsRow base e size v n xs) (hg : w.heap[g]? = some (.cells c t f)) (hne : t ≠ e) : v.ownBlock ≠ some g := by
  rcases h.2 with ⟨rfl, rfl⟩ | ⟨g', cap, cur, rfl, _, hh, _⟩
  · simp [Value.ownBlock]
  · intro hx
    simp [Value.ownBlock] at hx
    subst hx
    rw [hh] at hg
    simp only [Option.some.injEq, Obj.cells.injEq] at hg
    exact hne hg.2.1.symm
theorem range_blk {w : World} {g : Nat} {c : List Value} {e : TypeId} {f : Nat × Nat} (h : w.heap[g]? = some (.cells c.toArray e f)) : w.rangeAt g 0 c := fun j v hj => by rw [block_cell h]; simpa using hj
theorem results_cellH {P : Program} {fn : Func} {p : Tmp} {ty : TypeId} (h : fn.results = #[.cell p ty]) (tmps : Array Value) (w : World) (g : Nat) (t : TypeId) (cs : Array Value) (fr : Nat × Nat) (d : TypeDesc)
    (hp : tmps.getD p undef = .pointer (some ⟨g, 0, none⟩)) (hg : w.heap[g]? = some (.cells cs t fr))
    (hu : P.underlying ty = some d) (hd : (match d with | .struct _ | .array _ _ => true | _ => false) = true) (hi : (P.info? ty).map (·.size) = some cs.size) :
    (results fn tmps).run P w = .ok (.agg cs) w := by
  have hp' : tmps[p]?.getD undef = .pointer (some ⟨g, 0, none⟩) := by simpa using hp
  simp [results, h, hp', asAddr, run_loadVar_row w g t ty cs fr d hg hu hd hi]
theorem isH_own {w : World} {base : Nat} {v : Value} {l : List HdC} (h : w.ownsRow base 47 70 v l.length (l.flatMap hdC)) (ok : ∀ e ∈ l, HdOk e) : IsH w v l :=
  ⟨IsSl.of_owns h, ok⟩
abbrev spl (w : World) (S : Nat) (v : Value) (bad tw : Bool) : Prop := w.heap[S]? = some (.cells #[v, .bool bad, .bool tw] 71 (0, 0))
theorem info_id2 {l : List UInt8} (h : l.length = 32) : (Tryz.prog.info? 31).map (·.size) = some (l.map bc).toArray.size := id_size h
set_option maxHeartbeats 4000000 in
set_option maxRecDepth 100000 in
theorem putNew (W0 w : World) (QA : Array Value) (vb ve vp : Value) (o : ObjL) (h : IsObj w QA vb ve vp o) (hT : Tabs w) (hc : checkB o = true) (S base : Nat) (v : Value) (tw : Bool) (hs : List HdC) (hok : ∀ e ∈ hs, HdOk e)
    (hn : ∀ e ∈ hs, e.id ≠ idL o) (hl : hs.length ≤ 1000000) (own : w.ownsRow base 47 70 v hs.length (hs.flatMap hdC)) (bS : spl w S v false tw) (X : Ext W0 w) (hb : W0.heap.size ≤ base) (hbs : base ≤ w.heap.size) (hS : W0.heap.size ≤ S) :
    Calls Tryz.prog 53 #[Value.pointer (some ⟨S, 0, none⟩), Value.agg QA] w fun e w' => ∃ v', e = .returned (.agg ((idL o).map bc).toArray) ∧
      w'.ownsRow base 47 70 v' (hs ++ [(⟨idL o, QA.toList⟩ : HdC)]).length ((hs ++ [(⟨idL o, QA.toList⟩ : HdC)]).flatMap hdC) ∧ spl w' S v' false tw ∧ Ext W0 w' ∧
      (∀ g x, w.heap[g]? = some x → g ≠ S → v.ownBlock ≠ some g → w'.heap[g]? = some x) := by
  obtain ⟨zE, tyE⟩ := tyHd
  have hID : (idL o).length = 32 := idL_len o
  have hok2 := obj_hdOk h (idL o) hID
  have hinfo := h.info
  have hsz := h.size
  have hvw := Lib.hid h
  have HT := Lib.hid hT
  have HN := Lib.hid hn
  have b0 := blk_old (o := .cells (z32.map bc).toArray 31) (heap_alloc_new w (.cells QA 45))
  have bR := blk_new (w := w.alloc (.cells QA 45)) (b := w.heap.size + 1) (o := .cells (z32.map bc).toArray 31) (by simp)
  have x0 : Ext w ((w.alloc (.cells QA 45)).alloc (.cells (z32.map bc).toArray 31)) := ((Ext.refl w).alloc _).alloc _
  have hSl := block_lt bS
  go_enter Tryz.func53, Tryz.ntmps53
  go_upto_region 1 with fail
  generalize hG : w.heap.size = G at *
  refine wp_forgetH (fun W => Ext w W ∧ W.heap[G]? = some (.cells QA 45 (0, 0)) ∧ W.heap[G + 1]? = some (.cells (z32.map bc).toArray 31 (0, 0))) ⟨x0, b0, bR⟩ ?_
  clear x0 b0 bR
  rintro w1 ⟨x0, b0, bR⟩
  have hG1 : G + 2 ≤ w1.heap.size := block_lt bR
  have HOK2 := Lib.hid hok2
  go_wp2_with ((with_reducible refine at_load 45 (.tmp 3) ?_); refine wpl_load (by rfl) 45 (.tmp 3) rfl G (by rfl) 45 QA (0, 0) _ b0 Tryz.underlying45 rfl hinfo ?_)
  refine Calls.mono (objId _ QA vb ve vp o (hvw.out.ext x0) (HT.out.ext x0)) ?_
  rintro e w2 ⟨rfl, x2⟩
  unfold chkE
  rw [if_pos hc]
  have x := x0.trans x2
  generalize hI : idL o = I at *
  go_upto_region 2 with ((with_reducible refine at_store 31 (.tmp 5) (.tmp 11) ?_); refine wpl_store (by rfl) 31 (.tmp 5) (.tmp 11) rfl _ (I.map bc).toArray (by rfl) (by rfl) 31 _ (heap_alloc_new _ _) (id_size hID) (id_same (a := z32) rfl hID) (id_one _) ?_; rw [World.setRow_alloc_new])
  have bI := heap_alloc_new w2 (.cells (I.map bc).toArray 31)
  have x3 : Ext w2 (w2.alloc (.cells (I.map bc).toArray 31)) := (Ext.refl _).alloc _
  have x := x.trans x3
  have b0 := x3.keeps (x2.keeps b0)
  have bR := x3.keeps (x2.keeps bR)
  generalize hGI : w2.heap.size = GI at *
  have hGI2 : G + 2 ≤ GI := by rw [← hGI]; have := x2.size; omega
  generalize w2.alloc (.cells (I.map bc).toArray 31) = w3 at *
  have hx : Ext w w3 := x
  have own3 := ownsRow_ext own x
  have bS3 := x.keeps bS
  have kS := block_allH bS3
  have fS := fun i => block_free bS3 i
  have HB := Lib.hid bR
  clear bR
  go_upto_region 3 with fail
  have bS4 := block_setCell bS3 (i := 1) (.bool false)
  have n1 : v.ownBlock ≠ some S := own_neH own bS (by decide)
  have own4 := ownsRow_grown own3 (grown_setCell w3 S 1 (.bool false)) n1
  have g4 : w3.grownBy (w3.setCell ⟨S, 1, none⟩ (.bool false)) (some S) := grown_setCell _ _ _ _
  have b04 := grown_other g4 b0 (by omega)
  have bR4 := grown_other g4 HB.out (by omega)
  have bI4 := grown_other g4 bI (by omega)
  generalize w3.setCell ⟨S, 1, none⟩ (.bool false) = w4 at *
  clear kS fS b0 bI HB
  have HBS := Lib.hid bS4
  have HB0 := Lib.hid b04
  have HBR := Lib.hid bR4
  have HBI := Lib.hid bI4
  have HOW := Lib.hid own4
  obtain ⟨av, cv, rfl⟩ := ownSh own4
  have kS := block_allH bS4
  clear bS3 b04 bR4 bI4 own3 own4 bS4
  go_wp2_with fail
  refine Calls.mono (indexPut _ _ hs (isH_own HOW.out hok) GI I hID (range_blk HBI.out)) ?_
  rintro e w5 ⟨r, rfl, hf, x5⟩
  obtain rfl : r = -1 := by
    rcases hf with ⟨i, hi, _, hp, _⟩ | ⟨rfl, _⟩
    · exact absurd (of_decide_eq_true hp) (HN.out _ (List.getElem_mem hi))
    · rfl
  clear hf
  have own5 := ownsRow_ext HOW.out x5
  have bS5 := x5.keeps HBS.out
  have b05 := x5.keeps HB0.out
  have bR5 := x5.keeps HBR.out
  have bI5 := x5.keeps HBI.out
  clear kS HOW HBS HB0 HBR HBI
  go_upto_region 5 with fail
  have bS5 : w5.heap[S]? = some (.cells #[.slice av hs.length cv, .bool false, .bool tw] 71 (0, 0)) := bS5
  have hbd := built_hd ⟨I, QA.toList⟩ HOK2.out
  have hbh := fun w => build_hd w ⟨I, QA.toList⟩ HOK2.out
  have KS := fun v (h : Ext w5 v) => block_allH (h.keeps bS5)
  have HOW := Lib.hid own5
  have HBS := Lib.hid bS5
  have HBI := Lib.hid bI5
  have HB0 := Lib.hid b05
  have hid2 := id_info hID
  have hqa : (Tryz.prog.info? 45).map (·.size) = some QA.toList.length := by rw [Array.length_toList]; exact hinfo
  have hwd : base ≤ w5.heap.size := by have := block_lt bR5; omega
  clear bS5 own5 bI5 b05
  refine wp_region_G 10 (fun v => Ext w5 v) (by kernel_rfl) fun wd hqd hHeld => ?_
  refine G_pure (i := 0) (u := ?vput0) rfl (by kernel_rfl) (by kernel_rfl) (by kernel_rfl) (fun _ _ _ h => h) (by decide) (Or.inl ⟨by rfl, ?hyput0⟩) hHeld ?_
  case hyput0 => (intro w hSw; go_simp; try with_reducible rfl)
  simp only [Act.put, List.setIfInBounds_toArray, List.set_cons_zero, List.set_cons_succ, List.getElem_toArray, List.getElem_cons_zero, List.getElem_cons_succ]
  refine G_pure (i := 1) (u := ?vput1) rfl (by kernel_rfl) (by kernel_rfl) (by kernel_rfl) (fun _ _ _ h => h) (by decide) (Or.inl ⟨by rfl, ?hyput1⟩) hHeld ?_
  case hyput1 => (intro w hSw; go_simp; try with_reducible rfl)
  simp only [Act.put, List.setIfInBounds_toArray, List.set_cons_zero, List.set_cons_succ, List.getElem_toArray, List.getElem_cons_zero, List.getElem_cons_succ]
  refine G_pure (i := 2) (u := ?vput2) rfl (by kernel_rfl) (by kernel_rfl) (by kernel_rfl) (fun _ _ _ h => h) (by decide) (Or.inl ⟨by rfl, ?hyput2⟩) hHeld ?_
  case hyput2 => (intro w hSw; go_simp; try with_reducible rfl)
  simp only [Act.put, List.setIfInBounds_toArray, List.set_cons_zero, List.set_cons_succ, List.getElem_toArray, List.getElem_cons_zero, List.getElem_cons_succ]
  refine G_pure (i := 3) (u := ?vput3) rfl (by kernel_rfl) (by kernel_rfl) (by kernel_rfl) (fun _ _ _ h => h) (by decide) (Or.inl ⟨by rfl, ?hyput3⟩) hHeld ?_
  case hyput3 => (intro w hSw; go_simp; try with_reducible rfl)
  simp only [Act.put, List.setIfInBounds_toArray, List.set_cons_zero, List.set_cons_succ, List.getElem_toArray, List.getElem_cons_zero, List.getElem_cons_succ]
  refine G_pure (i := 4) (u := ?vput4) rfl (by kernel_rfl) (by kernel_rfl) (by kernel_rfl) (fun _ _ _ h => h) (by decide) (Or.inl ⟨by rfl, ?hyput4⟩) hHeld ?_
  case hyput4 => (intro w hSw; go_simp; try with_reducible rfl)
  simp only [Act.put, List.setIfInBounds_toArray, List.set_cons_zero, List.set_cons_succ, List.getElem_toArray, List.getElem_cons_zero, List.getElem_cons_succ]
  refine G_take (i := 5) (u := ?vput5) rfl (by kernel_rfl) (by kernel_rfl) (by kernel_rfl) (fun _ _ _ h => h) rfl (by kernel_rfl) (by decide) (by rfl) (Or.inl ⟨by rfl, ?hyput5⟩) hHeld ?_
  case hyput5 => (intro w hSw; have kk := KS _ hSw; go_simp; try with_reducible rfl)
  simp only [Act.put, List.setIfInBounds_toArray, List.set_cons_zero, List.set_cons_succ, List.getElem_toArray, List.getElem_cons_zero, List.getElem_cons_succ]
  refine C_take (i := 6) (u := _) [8, 9, 10] rfl (by kernel_rfl) (by kernel_rfl) (by kernel_rfl) (fun _ _ _ h => h) (by kernel_rfl) (by kernel_rfl) (by kernel_rfl) (by kernel_rfl) (yieldsIf_load_mid (by rfl) _ _ rfl _ _ rfl (I.map bc) _ (fun w hSw => range_blk (hSw.keeps HBI.out)) Tryz.underlying31 rfl hid2) hHeld ?_
  simp only [Act.put, List.setIfInBounds_toArray, List.set_cons_zero, List.set_cons_succ, List.getElem_toArray, List.getElem_cons_zero, List.getElem_cons_succ]
  refine C_take (i := 7) (u := _) [8, 9, 10] rfl (by kernel_rfl) (by kernel_rfl) (by kernel_rfl) (fun _ _ _ h => h) (by kernel_rfl) (by kernel_rfl) (by kernel_rfl) (by kernel_rfl) (yieldsIf_load_mid (by rfl) _ _ rfl _ _ rfl (QA.toList) _ (fun w hSw => range_blk (hSw.keeps HB0.out)) Tryz.underlying45 rfl hqa) hHeld ?_
  simp only [Act.put, List.setIfInBounds_toArray, List.set_cons_zero, List.set_cons_succ, List.getElem_toArray, List.getElem_cons_zero, List.getElem_cons_succ]
  refine G_all (rs := [8]) (by kernel_rfl) (by simp) ?_
  intro i hi; obtain rfl : i = 8 := by simpa using hi
  refine wpOp_run rfl (by rfl) ?_
  refine wp_bldO 47 _ rfl [(0, .agg (I.map bc).toArray), (1, .agg QA.toList.toArray)] (by rfl) _ hbd ?_
  first | refine ⟨fun _ => hHeld, ?_⟩ | refine ⟨hHeld, ?_⟩ | skip
  try simp only [Act.put, List.setIfInBounds_toArray, List.set_cons_zero, List.set_cons_succ, List.getElem_toArray, List.getElem_cons_zero, List.getElem_cons_succ]
  refine G_all (rs := [9]) (by kernel_rfl) (by simp) ?_
  intro i hi; obtain rfl : i = 9 := by simpa using hi
  refine wpOp_run rfl (by rfl) ?_
  refine wp_buildOne 27 (.tmp 41) rfl (hdC ⟨I, QA.toList⟩) (by rfl) (hbh _) ?_
  have xb : Ext wd (wd.alloc (.cells (hdC ⟨I, QA.toList⟩).toArray 47)) := (Ext.refl wd).alloc _
  have hHeld0 := hHeld
  have hHeld := hHeld.trans xb
  first | refine ⟨fun _ => hHeld, ?_⟩ | refine ⟨hHeld, ?_⟩ | skip
  try simp only [Act.put, List.setIfInBounds_toArray, List.set_cons_zero, List.set_cons_succ, List.getElem_toArray, List.getElem_cons_zero, List.getElem_cons_succ]
  refine G_all (rs := [10]) (by kernel_rfl) (by simp) ?_
  intro i hi; obtain rfl : i = 10 := by simpa using hi
  refine wpOp_run rfl (by rfl) ?_
  refine wp_appO tyE (.tmp 38) (.tmp 42) rfl base _ hs.length _ (ownsRow_ext HOW.out hHeld) (by rfl) _ 1 (hdC ⟨I, QA.toList⟩) (sl_one_new (w := wd) (n := 70) (e := 47) (Q := hdC ⟨I, QA.toList⟩) rfl (hdC_len HOK2.out)) (by rfl) (hd_one HOK2.out) (by omega) (by omega) (Nat.le_trans hwd hHeld.size) ?_
  intro v9 w9 own9 gr9
  obtain ⟨a9, c9, rfl⟩ := ownSh own9
  have bS9 := grown_keep gr9 (hHeld.keeps HBS.out) n1
  try refine ⟨fun e => absurd e (by decide), ?_⟩
  refine G_free _ _ _ _ (by kernel_rfl) ?_
  try simp only [Act.put, List.setIfInBounds_toArray, List.set_cons_zero, List.set_cons_succ, List.getElem_toArray, List.getElem_cons_zero, List.getElem_cons_succ]
  refine wpAny_take (i := 11) (v := ?vput11) rfl (by kernel_rfl) (by kernel_rfl) (by kernel_rfl) (fun _ _ _ h => h) (Or.inl ⟨by rfl, ?hyput11⟩) ?_
  case hyput11 => (intro w ; go_simp; try with_reducible rfl)
  simp only [Act.put, List.setIfInBounds_toArray, List.set_cons_zero, List.set_cons_succ, List.getElem_toArray, List.getElem_cons_zero, List.getElem_cons_succ]
  refine wpAny_take (i := 12) (v := ?vput12) rfl (by kernel_rfl) (by kernel_rfl) (by kernel_rfl) (fun _ _ _ h => h) (Or.inl ⟨by rfl, ?hyput12⟩) ?_
  case hyput12 => (intro w ; go_simp; try with_reducible rfl)
  simp only [Act.put, List.setIfInBounds_toArray, List.set_cons_zero, List.set_cons_succ, List.getElem_toArray, List.getElem_cons_zero, List.getElem_cons_succ]
  refine wpAny_take (i := 13) (v := ?vput13) rfl (by kernel_rfl) (by kernel_rfl) (by kernel_rfl) (fun _ _ _ h => h) (Or.inl ⟨by rfl, ?hyput13⟩) ?_
  case hyput13 => (intro w ; go_simp; try with_reducible rfl)
  simp only [Act.put, List.setIfInBounds_toArray, List.set_cons_zero, List.set_cons_succ, List.getElem_toArray, List.getElem_cons_zero, List.getElem_cons_succ]
  refine wpAny_all (rs := [14]) (by kernel_rfl) (by simp) ?_
  intro i hi; obtain rfl : i = 14 := by simpa using hi
  refine wpOp_run rfl (by rfl) ?_
  have kk := block_allH bS9
  have ff := fun i => block_free bS9 i
  go_simp
  try simp only [Act.put, List.setIfInBounds_toArray, List.set_cons_zero, List.set_cons_succ, List.getElem_toArray, List.getElem_cons_zero, List.getElem_cons_succ]
  refine wpAny_done (by kernel_rfl) ?_ _
  refine NoPanic.normal ?_
  have bS10 := block_setCell bS9 (i := 0) (.slice a9 (hs.length + 1) c9)
  have n9 := own_neH own9 bS9 (by decide)
  have own10 := ownsRow_grown own9 (grown_setCell w9 S 0 (.slice a9 (hs.length + 1) c9)) n9
  have g10 : w9.grownBy (w9.setCell ⟨S, 0, none⟩ (.slice a9 (hs.length + 1) c9)) (some S) := grown_setCell _ _ _ _
  have oldlt : ∀ k, (Value.slice av hs.length cv).ownBlock = some k → base ≤ k ∧ k < G := fun k hk => by have := own.lt k hk; omega
  have keep9 : ∀ g x, w5.heap[g]? = some x → (Value.slice av hs.length cv).ownBlock ≠ some g → w9.heap[g]? = some x := fun g x hg hne => grown_keep gr9 (hHeld.keeps hg) hne
  have bR9 := keep9 _ _ bR5 (fun e => by have := oldlt _ e; omega)
  have bI9 := keep9 _ _ HBI.out (fun e => by have := oldlt _ e; omega)
  have bR10 := grown_other g10 bR9 (by omega)
  have bI10 := grown_other g10 bI9 (by omega)
  go_upto_region 6 with fail
  refine wp_forgetH (fun W => W = w9.setCell ⟨S, 0, none⟩ (.slice a9 (hs.length + 1) c9)) rfl ?_
  rintro w10 hw10
  rw [← hw10] at bS10 own10 g10 bR10 bI10
  clear hw10
  go_wp2_with (first
    | ((with_reducible refine at_load 31 (.tmp 5) ?_); refine wpl_load (by rfl) 31 (.tmp 5) rfl GI (by rfl) 31 (I.map bc).toArray (0, 0) _ bI10 Tryz.underlying31 rfl (id_size hID) ?_)
    | ((with_reducible refine at_store 31 (.tmp 4) (.tmp 47) ?_); refine wpl_store (by rfl) 31 (.tmp 4) (.tmp 47) rfl (G + 1) (I.map bc).toArray (by rfl) (by rfl) 31 _ bR10 (id_size hID) (id_same (a := z32) rfl hID) (id_one _) ?_))
  have gF : w10.grownBy (w10.setRow (G + 1) (I.map bc).toArray) (some (G + 1)) := grown_setRow'
  have hfin : (w10.setRow (G + 1) (I.map bc).toArray).heap[G + 1]? = some (.cells (I.map bc).toArray 31 (0, 0)) := setRow_heap _ _ _ _ _ _ bR10
  have hG10 : G + 1 < w10.heap.size := block_lt bR10
  have nn : (Value.slice a9 (hs.length + 1) c9).ownBlock ≠ some (G + 1) := own_neH own10 bR10 (by decide)
  have xF : Ext W0 (w10.setRow (G + 1) (I.map bc).toArray) := by
    have h0 : W0.heap.size ≤ G := by have := X.size; omega
    have a1 : Ext W0 w4 := (X.trans x).grown g4 (fun k hk => by simp at hk; omega)
    have a2 : Ext W0 wd := (a1.trans x5).trans hHeld0
    have a3 : Ext W0 w9 := (a2.alloc _).grown gr9 (fun k hk => by have := oldlt k hk; omega)
    exact (a3.grown g10 (fun k hk => by simp at hk; omega)).grown gF (fun k hk => by simp at hk; omega)
  refine bodyPost_ret (results_cellH rfl _ _ (G + 1) _ _ _ _ (by rfl) hfin Tryz.underlying31 rfl (id_size hID)) rfl ⟨rfl, _, ownsRow_grown own10 gF nn, grown_other gF bS10 (by omega), xF, ?_⟩
  intro g x hg hgS hgv
  have hlt := block_lt hg
  refine grown_other gF (grown_other g10 (keep9 g x (x5.keeps (grown_other g4 (hx.keeps hg) hgS)) hgv) hgS) (by omega)
end Go.Proofs.YtpadfabjihaapaaGreatDoor

namespace Go.Proofs.YtpadfabjihaapaaGreatDoor
open Go.RowKit
set_option linter.unusedVariables false
set_option linter.unusedSimpArgs false

/-- The folder with nothing in it. -/
def oT : ObjL := ⟨2, [], [], z32, [], 0, ⟨#[]⟩⟩
def cT : List Value := objC nilS nilS nilS oT
theorem isSl_nil (w : World) (k : Nat) : IsSl w nilS k 0 [] := ⟨by simp, none, 0, rfl, Nat.le_refl _, by omega, fun _ => rfl, fun i hi => absurd hi (Nat.not_lt_zero _)⟩
theorem isB_nil (w : World) : IsB w nilS [] := isSl_nil w 1
theorem isT (w : World) : IsObj w cT.toArray nilS nilS nilS oT := ⟨rfl, ⟨by decide, by decide, (fun e h => by cases h), by decide, rfl, (fun e h => by cases h), by decide, by decide, by decide⟩, isB_nil w, isSl_nil w 34, isSl_nil w 32⟩
theorem chkT : checkB oT = true := by decide +kernel
abbrev hT1 : HdC := ⟨idL oT, cT⟩
set_option maxHeartbeats 4000000 in
set_option maxRecDepth 100000 in
theorem folderNone (W0 w : World) (hT : Tabs w) (S : Nat) (bS : spl w S nilS false false) (X : Ext W0 w) (hS : W0.heap.size ≤ S) :
    Calls Tryz.prog 28 #[Value.pointer (some ⟨S, 0, none⟩), nilS] w fun e w' => ∃ v', e = .returned (.agg ((idL oT).map bc).toArray) ∧
      w'.ownsRow W0.heap.size 47 70 v' 1 (hdC hT1) ∧ spl w' S v' false false ∧ Ext W0 w' := by
  have hID : (idL oT).length = 32 := idL_len oT
  have hSl := block_lt bS
  have bt := built_tree nilS rfl []
  have HT := Lib.hid hT
  have hX := X.size
  have HID := Lib.hid hID
  unfold nilS
  clear hID
  go_enter Tryz.func28, Tryz.ntmps28
  go_upto_region 2 with fail
  obtain ⟨G, hG⟩ : ∃ G, w.heap.size = G := ⟨_, rfl⟩
  rw [hG]
  rw [hG] at hSl hX
  refine wp_forgetH (fun W => Ext w W ∧ W.heap[G]? = some (.cells (z32.map bc).toArray 31 (0, 0))) ⟨(Ext.refl w).alloc _, blk_new hG⟩ ?_
  rintro w1 ⟨x1, bR⟩
  have hmm := @run_makeMap Tryz.prog
  go_upto_region 5 with fail
  refine wp_forgetH (fun W => Ext w1 W) (((Ext.refl w1).alloc _).alloc _) ?_
  rintro w2 x2
  clear hmm
  have x := x1.trans x2
  have bR := x2.keeps bR
  clear x1 x2
  go_wp2_with fail
  go_loopg [8, 23] 0 (fun g s8 s23 wr => s8 = .slice none 0 0 ∧ s23 = .int .i64 0 ∧ Ext w wr ∧ wr.heap[G]? = some (.cells (z32.map bc).toArray 31 (0, 0)))
  case atStart => exact ⟨rfl, rfl, x, bR⟩
  case round =>
  obtain ⟨rfl, rfl, x, bR⟩ := hrel
  go_wp2_with fail
  refine Calls.mono (Tryz.slices_Sort_string_none none 0 _) ?_
  rintro e w3 ⟨rfl, rfl⟩
  obtain ⟨wL, rfl⟩ : ∃ x, x = w3 := ⟨_, rfl⟩
  go_wp2_with fail
  go_loopg [5, 63] 0 (fun g s5 s63 wr => s5 = .slice none 0 0 ∧ s63 = .int .i64 0 ∧ wr = wL)
  case atStart => exact ⟨rfl, rfl, rfl⟩
  case round =>
  obtain ⟨rfl, rfl, rfl⟩ := hrel
  have bS3 := x.keeps bS
  have hsz := x.size
  go_wp2_with ((with_reducible refine at_bldT 45 ?_); refine wpl_bldG (by rfl) 45 _ rfl [(0, .int .i64 2), (2, nilS)] (by rfl) _ bt ?_)
  refine Calls.mono (putNew W0 _ _ _ _ _ _ (isT _) (HT.out.ext x) chkT S W0.heap.size nilS false [] (fun e h => by cases h) (fun e h => by cases h) (by decide) (World.ownsRow_nil _ _ _ _) bS3 (X.trans x) (Nat.le_refl _) (by omega) hS) ?_
  rintro e w4 ⟨v4, rfl, own4, bS4, x4, k4⟩
  have bR4 := k4 _ _ bR (by omega) (by simp [nilS, Value.ownBlock])
  go_wp2_with ((with_reducible refine at_store 31 (.tmp 4) (.tmp 97) ?_); refine wpl_store (by rfl) 31 (.tmp 4) (.tmp 97) rfl G ((idL oT).map bc).toArray (by rfl) (by rfl) 31 _ bR4 (id_size HID.out) (id_same (a := z32) rfl HID.out) (id_one _) ?_)
  have gF : w4.grownBy (w4.setRow G ((idL oT).map bc).toArray) (some G) := grown_setRow'
  have hfin : (w4.setRow G ((idL oT).map bc).toArray).heap[G]? = some (.cells ((idL oT).map bc).toArray 31 (0, 0)) := setRow_heap _ _ _ _ _ _ bR4
  have nn := own_neH own4 bR4 (by decide)
  exact bodyPost_ret (results_cellH rfl _ _ G _ _ _ _ (by rfl) hfin Tryz.underlying31 rfl (id_size HID.out)) rfl ⟨_, rfl, by simpa using ownsRow_grown own4 gF nn, grown_other gF bS4 (by omega), x4.grown gF (fun k hk => by simp at hk; omega)⟩
end Go.Proofs.YtpadfabjihaapaaGreatDoor

namespace Go.Proofs.YtpadfabjihaapaaGreatDoor
open Go.RowKit
set_option linter.unusedVariables false
set_option linter.unusedSimpArgs false

theorem results_ccT {P : Program} {fn : Func} {p q r : Tmp} {ty ty2 : TypeId} (h : fn.results = #[.cell p ty, .cell q ty2, .tmp r]) (tmps : Array Value) (w : World) (g : Nat) (t : TypeId) (cs : Array Value) (fr : Nat × Nat) (d : TypeDesc)
    (hp : tmps.getD p undef = .pointer (some ⟨g, 0, none⟩)) (hg : w.heap[g]? = some (.cells cs t fr))
    (hu : P.underlying ty = some d) (hd : (match d with | .struct _ | .array _ _ => true | _ => false) = true) (hi : (P.info? ty).map (·.size) = some cs.size)
    (g2 : Nat) (t2 : TypeId) (cs2 : Array Value) (fr2 : Nat × Nat) (d2 : TypeDesc)
    (hp2 : tmps.getD q undef = .pointer (some ⟨g2, 0, none⟩)) (hg2 : w.heap[g2]? = some (.cells cs2 t2 fr2))
    (hu2 : P.underlying ty2 = some d2) (hd2 : (match d2 with | .struct _ | .array _ _ => true | _ => false) = true) (hi2 : (P.info? ty2).map (·.size) = some cs2.size) :
    (results fn tmps).run P w = .ok (.tuple #[.agg cs, .agg cs2, tmps.getD r undef]) w := by
  have hp' : tmps[p]?.getD undef = .pointer (some ⟨g, 0, none⟩) := by simpa using hp
  have hp2' : tmps[q]?.getD undef = .pointer (some ⟨g2, 0, none⟩) := by simpa using hp2
  simp [results, h, hp', hp2', asAddr, run_loadVar_row w g t ty cs fr d hg hu hd hi, run_loadVar_row w g2 t2 ty2 cs2 fr2 d2 hg2 hu2 hd2 hi2]
theorem new3 {w : World} {G : Nat} (hG : w.heap.size = G) (a b c : Obj) : Ext w (((w.alloc a).alloc b).alloc c) ∧ (((w.alloc a).alloc b).alloc c).heap[G]? = some a ∧ (((w.alloc a).alloc b).alloc c).heap[G + 1]? = some b ∧ (((w.alloc a).alloc b).alloc c).heap[G + 1 + 1]? = some c :=
  ⟨(((Ext.refl w).alloc _).alloc _).alloc _, blk_old (blk_old (blk_new hG)), blk_old (blk_new (by simp [hG])), blk_new (by simp [hG])⟩
theorem isF_nil (w : World) : IsF w nilS [] := ⟨isSl_nil w 2, fun e h => by cases h⟩
theorem infoHp (v : Value) : (Tryz.prog.info? 29).map (·.size) = some (#[v] : Array Value).size := by show _ = some 1; kernel_rfl
set_option maxHeartbeats 4000000 in
set_option maxRecDepth 100000 in
theorem splitNone (w : World) (hT : Tabs w) :
    Calls Tryz.prog 9 #[Value.agg #[nilS]] w fun e w' => ∃ v', e = .returned (.tuple #[.agg #[v'], .agg ((idL oT).map bc).toArray, .int .i64 0]) ∧
      w'.ownsRow w.heap.size 47 70 v' 1 (hdC hT1) ∧ Ext w w' := by
  have HID := Lib.hid (idL_len oT)
  have HT := Lib.hid hT
  go_enter Tryz.func9, Tryz.ntmps9
  go_upto_region 1 with fail
  generalize hG : w.heap.size = G at *
  refine wp_forgetH (fun W => Ext w W ∧ W.heap[G]? = some (.cells #[nilS] 24 (0, 0)) ∧ W.heap[G + 1]? = some (.cells #[nilS] 29 (0, 0)) ∧ W.heap[G + 1 + 1]? = some (.cells (z32.map bc).toArray 31 (0, 0))) (new3 hG _ _ _) ?_
  rintro w1 ⟨x1, bP, bH, bI⟩
  have hw1 : G + 3 ≤ w1.heap.size := block_lt bI
  go_wp2_with ((with_reducible refine at_load 24 (.tmp 1) ?_); refine wpl_load (by rfl) 24 (.tmp 1) rfl G (by rfl) 24 #[nilS] (0, 0) _ bP Tryz.underlying24 rfl (by kernel_rfl) ?_)
  refine Calls.mono (treeCheck _ nilS [] (isF_nil _)) ?_
  rintro e w2 ⟨rfl, x2⟩
  rw [show errR (repoB []) = 0 from by decide +kernel]
  go_upto_region 5 with fail
  obtain ⟨N, hN⟩ : ∃ N, w2.heap.size = N := ⟨_, rfl⟩
  rw [hN]
  have hN3 : G + 3 ≤ N := by have := x2.size; omega
  refine wp_forgetH (fun W => Ext w2 W ∧ spl W N nilS false false) ⟨(Ext.refl w2).alloc _, blk_new hN⟩ ?_
  rintro w3 ⟨x3, bS⟩
  have bP3 := x3.keeps (x2.keeps bP)
  have kP := block_allH bP3
  have X3 := (x1.trans x2).trans x3
  go_wp2_with fail
  refine Calls.mono (folderNone w2 _ (HT.out.ext X3) N bS x3 (by omega)) ?_
  rintro e w4 ⟨v4, rfl, own4, bS4, x4⟩
  have bH4 := x4.keeps (x2.keeps bH)
  have bI4 := x4.keeps (x2.keeps bI)
  clear kP bP3
  go_upto_region 6 with ((with_reducible refine at_store 31 (.tmp 7) (.tmp 20) ?_); refine wpl_store (by rfl) 31 (.tmp 7) (.tmp 20) rfl _ ((idL oT).map bc).toArray (by rfl) (by rfl) 31 _ (heap_alloc_new _ _) (id_size HID.out) (id_same (a := z32) rfl HID.out) (id_one _) ?_; rw [World.setRow_alloc_new])
  have bT := heap_alloc_new w4 (.cells ((idL oT).map bc).toArray 31)
  have x5 : Ext w4 (w4.alloc (.cells ((idL oT).map bc).toArray 31)) := (Ext.refl w4).alloc _
  obtain ⟨M, hM⟩ : ∃ M, w4.heap.size = M := ⟨_, rfl⟩
  rw [hM] at bT ⊢
  have hM4 : N + 1 ≤ M := by have := block_lt bS4; omega
  generalize w4.alloc (.cells ((idL oT).map bc).toArray 31) = w5 at *
  obtain ⟨a4, c4, rfl⟩ := ownSh own4
  have own5 := ownsRow_ext own4 x5
  have bS5 := x5.keeps bS4
  have bH5 := x5.keeps bH4
  have bI5 := x5.keeps bI4
  have X5 : Ext w w5 := ((x1.trans x2).trans x4).trans x5
  have kS := block_allH bS5
  clear bS4 bH4 bI4 own4
  go_wp2_with fail
  obtain ⟨SS, hSS⟩ : ∃ SS : World → Prop, SS = fun v => spl v N (.slice a4 1 c4) false false ∧ v.heap[M]? = some (.cells ((idL oT).map bc).toArray 31 (0, 0)) := ⟨_, rfl⟩
  have KS := fun v (h : SS v) => block_allH (show v.heap[N]? = _ from by rw [hSS] at h; exact h.1)
  have KT := fun v (h : SS v) => range_blk (show v.heap[M]? = _ from by rw [hSS] at h; exact h.2)
  have HSS := Lib.hid hSS
  have HBT := Lib.hid bT
  have hinf := id_info HID.out
  have HOW := Lib.hid own5
  clear kS hSS
  refine wp_region_G 6 (SS) (by kernel_rfl) fun wd hqd hHeld => ?_
  have hE : Ext w5 wd := hHeld
  have hHeld : SS wd := by rw [HSS.out]; exact ⟨hE.keeps bS5, hE.keeps HBT.out⟩
  refine G_pure (i := 0) (u := ?vspl0) rfl (by kernel_rfl) (by kernel_rfl) (by kernel_rfl) (fun _ _ _ h => h) (by decide) (Or.inl ⟨by rfl, ?hyspl0⟩) hHeld ?_
  case hyspl0 => (intro w hSw; go_simp; try with_reducible rfl)
  simp only [Act.put, List.setIfInBounds_toArray, List.set_cons_zero, List.set_cons_succ, List.getElem_toArray, List.getElem_cons_zero, List.getElem_cons_succ]
  refine G_pure (i := 1) (u := ?vspl1) rfl (by kernel_rfl) (by kernel_rfl) (by kernel_rfl) (fun _ _ _ h => h) (by decide) (Or.inl ⟨by rfl, ?hyspl1⟩) hHeld ?_
  case hyspl1 => (intro w hSw; go_simp; try with_reducible rfl)
  simp only [Act.put, List.setIfInBounds_toArray, List.set_cons_zero, List.set_cons_succ, List.getElem_toArray, List.getElem_cons_zero, List.getElem_cons_succ]
  refine G_pure (i := 2) (u := ?vspl2) rfl (by kernel_rfl) (by kernel_rfl) (by kernel_rfl) (fun _ _ _ h => h) (by decide) (Or.inl ⟨by rfl, ?hyspl2⟩) hHeld ?_
  case hyspl2 => (intro w hSw; go_simp; try with_reducible rfl)
  simp only [Act.put, List.setIfInBounds_toArray, List.set_cons_zero, List.set_cons_succ, List.getElem_toArray, List.getElem_cons_zero, List.getElem_cons_succ]
  refine G_take (i := 3) (u := ?vspl3) rfl (by kernel_rfl) (by kernel_rfl) (by kernel_rfl) (fun _ _ _ h => h) rfl (by kernel_rfl) (by decide) (by rfl) (Or.inl ⟨by rfl, ?hyspl3⟩) hHeld ?_
  case hyspl3 => (intro w hSw; have kk := KS _ hSw; go_simp; try with_reducible rfl)
  simp only [Act.put, List.setIfInBounds_toArray, List.set_cons_zero, List.set_cons_succ, List.getElem_toArray, List.getElem_cons_zero, List.getElem_cons_succ]
  refine G_take (i := 4) (u := _) rfl (by kernel_rfl) (by kernel_rfl) (by kernel_rfl) (fun _ _ _ h => h) rfl (by kernel_rfl) (by decide) (by rfl) (yieldsIf_load_mid (by rfl) _ _ rfl _ _ rfl ((idL oT).map bc) _ (fun w hSw => KT _ hSw) Tryz.underlying31 rfl hinf) hHeld ?_
  simp only [Act.put, List.setIfInBounds_toArray, List.set_cons_zero, List.set_cons_succ, List.getElem_toArray, List.getElem_cons_zero, List.getElem_cons_succ]
  refine G_all (rs := [5]) (by kernel_rfl) (by simp) ?_
  intro i hi; obtain rfl : i = 5 := by simpa using hi
  refine wpOp_run rfl (by rfl) ?_
  have bH6 := hE.keeps bH5
  refine wp_store_row 29 (.tmp 2) (.tmp 38) rfl (G + 1) #[.slice a4 1 c4] (by rfl) (by rfl) 29 _ bH6 (infoHp _) rfl (by kernel_rfl) ?_
  have h3 : wd.grownBy (wd.setRow (G + 1) #[.slice a4 1 c4]) (some (G + 1)) := grown_setRow'
  have hHeld : SS (wd.setRow (G + 1) #[.slice a4 1 c4]) := by rw [HSS.out]; exact ⟨grown_other h3 (hE.keeps bS5) (by omega), grown_other h3 (hE.keeps HBT.out) (by omega)⟩
  first | refine ⟨fun _ => hHeld, ?_⟩ | refine ⟨hHeld, ?_⟩ | skip
  try simp only [Act.put, List.setIfInBounds_toArray, List.set_cons_zero, List.set_cons_succ, List.getElem_toArray, List.getElem_cons_zero, List.getElem_cons_succ]
  refine G_all (rs := [6]) (by kernel_rfl) (by simp) ?_
  intro i hi; obtain rfl : i = 6 := by simpa using hi
  refine wpOp_run rfl (by rfl) ?_
  refine wp_store_row 31 (.tmp 3) (.tmp 39) rfl (G + 1 + 1) ((idL oT).map bc).toArray (by rfl) (by rfl) 31 _ (grown_other h3 (hE.keeps bI5) (by omega)) (id_size HID.out) (id_same (a := z32) rfl HID.out) (id_one _) ?_
  try refine ⟨fun e => absurd e (by decide), ?_⟩
  refine G_free _ _ _ _ (by kernel_rfl) ?_
  try simp only [Act.put, List.setIfInBounds_toArray, List.set_cons_zero, List.set_cons_succ, List.getElem_toArray, List.getElem_cons_zero, List.getElem_cons_succ]
  refine wpAny_take (i := 7) (v := ?vspl7) rfl (by kernel_rfl) (by kernel_rfl) (by kernel_rfl) (fun _ _ _ h => h) (Or.inl ⟨by rfl, ?hyspl7⟩) ?_
  case hyspl7 => (intro w ; go_simp; try with_reducible rfl)
  simp only [Act.put, List.setIfInBounds_toArray, List.set_cons_zero, List.set_cons_succ, List.getElem_toArray, List.getElem_cons_zero, List.getElem_cons_succ]
  refine wpAny_done (by kernel_rfl) ?_ _
  refine NoPanic.normal ?_
  go_wp2_with fail
  have h4 : (wd.setRow (G + 1) #[.slice a4 1 c4]).grownBy ((wd.setRow (G + 1) #[.slice a4 1 c4]).setRow (G + 1 + 1) ((idL oT).map bc).toArray) (some (G + 1 + 1)) := grown_setRow'
  have f1 := grown_other h4 (setRow_heap wd (G + 1) _ #[.slice a4 1 c4] _ _ bH6) (by omega)
  have f2 := setRow_heap (wd.setRow (G + 1) #[.slice a4 1 c4]) (G + 1 + 1) _ ((idL oT).map bc).toArray _ _ (grown_other h3 (hE.keeps bI5) (by omega))
  have xF := ((X5.trans hE).grown h3 (fun k hk => by cases hk; omega)).grown h4 (fun k hk => by cases hk; omega)
  have o1 := ownsRow_grown (ownsRow_ext HOW.out hE) h3 (own_neH (ownsRow_ext HOW.out hE) bH6 (by decide))
  have o2 := ownsRow_grown o1 h4 (own_neH o1 (grown_other h3 (hE.keeps bI5) (by omega)) (by decide))
  exact bodyPost_ret (results_ccT (p := 2) (q := 3) (r := 4) rfl _ _ (G + 1) _ _ _ _ (by rfl) f1 Tryz.underlying29 rfl (infoHp _) (G + 1 + 1) _ _ _ _ (by rfl) f2 Tryz.underlying31 rfl (id_size HID.out)) rfl ⟨_, rfl, ownsRow_base o2 (by omega), xF⟩
end Go.Proofs.YtpadfabjihaapaaGreatDoor

namespace Go.Proofs.YtpadfabjihaapaaGreatDoor
open Go.RowKit
set_option linter.unusedVariables false
set_option linter.unusedSimpArgs false
def oC : ObjL := ⟨3, [], [], idL oT, [], 0, ⟨#[]⟩⟩
set_option maxRecDepth 1000000 in
theorem ids_ne : idL oT ≠ idL oC := by decide +kernel
end Go.Proofs.YtpadfabjihaapaaGreatDoor

namespace Go.Proofs.YtpadfabjihaapaaGreatDoor
open Go.RowKit
set_option linter.unusedVariables false
set_option linter.unusedSimpArgs false

theorem results_tcT {P : Program} {fn : Func} {p q r : Tmp} {ty : TypeId} (h : fn.results = #[.tmp p, .cell q ty, .tmp r]) (tmps : Array Value) (w : World) (g : Nat) (t : TypeId) (cs : Array Value) (fr : Nat × Nat) (d : TypeDesc)
    (hp : tmps.getD q undef = .pointer (some ⟨g, 0, none⟩)) (hg : w.heap[g]? = some (.cells cs t fr))
    (hu : P.underlying ty = some d) (hd : (match d with | .struct _ | .array _ _ => true | _ => false) = true) (hi : (P.info? ty).map (·.size) = some cs.size) :
    (results fn tmps).run P w = .ok (.tuple #[tmps.getD p undef, .agg cs, tmps.getD r undef]) w := by
  have hp' : tmps[q]?.getD undef = .pointer (some ⟨g, 0, none⟩) := by simpa using hp
  simp [results, h, hp', asAddr, run_loadVar_row w g t ty cs fr d hg hu hd hi]
theorem new2 {w : World} {N : Nat} (hN : w.heap.size = N) (a0 a : Array Value) (ta : TypeId) (b0 b : Array Value) (tb : TypeId) :
    Ext w ((((w.alloc (.cells a0 ta)).alloc (.cells b0 tb)).setRow N a).setRow (N + 1) b) ∧ ((((w.alloc (.cells a0 ta)).alloc (.cells b0 tb)).setRow N a).setRow (N + 1) b).heap[N]? = some (.cells a ta (0, 0)) ∧
      ((((w.alloc (.cells a0 ta)).alloc (.cells b0 tb)).setRow N a).setRow (N + 1) b).heap[N + 1]? = some (.cells b tb (0, 0)) := by
  have h0 : ((w.alloc (.cells a0 ta)).alloc (.cells b0 tb)).heap[N]? = some (.cells a0 ta (0, 0)) := blk_old (blk_new hN)
  have h1 : ((w.alloc (.cells a0 ta)).alloc (.cells b0 tb)).heap[N + 1]? = some (.cells b0 tb (0, 0)) := blk_new (by simp [hN])
  have g1 : ((w.alloc (.cells a0 ta)).alloc (.cells b0 tb)).grownBy (((w.alloc (.cells a0 ta)).alloc (.cells b0 tb)).setRow N a) (some N) := grown_setRow'
  have g2 : (((w.alloc (.cells a0 ta)).alloc (.cells b0 tb)).setRow N a).grownBy ((((w.alloc (.cells a0 ta)).alloc (.cells b0 tb)).setRow N a).setRow (N + 1) b) (some (N + 1)) := grown_setRow'
  have h2 := grown_other g1 h1 (by omega)
  exact ⟨((((Ext.refl w).alloc _).alloc _).grown g1 (fun k hk => by cases hk; omega)).grown g2 (fun k hk => by cases hk; omega), grown_other g2 (setRow_heap _ N _ a _ _ h0) (by omega), setRow_heap _ (N + 1) _ b _ _ h2⟩
theorem sl_blk {w : World} {H k : Nat} {Q : List Value} {e : TypeId} {f : Nat × Nat} (h : w.heap[H]? = some (.cells Q.toArray e f)) (hQ : Q.length = k) : IsSl w (.slice (some ⟨H, 0, none⟩) 1 1) k 1 Q := by
  refine ⟨by omega, some ⟨H, 0, none⟩, 1, rfl, Nat.le_refl _, by omega, (fun h => by cases h), fun i hi => ⟨_, 0, rfl, ?_⟩⟩
  rw [Nat.zero_add, block_cell h]
  simp
/-- What is owned stays owned where a row apart grows. -/
theorem own_apart {w w' : World} {base : Nat} {e : TypeId} {size : Nat} {v : Value} {n : Nat} {xs : List Value} {u : Option Nat} (o : w.ownsRow base e size v n xs) (gr : w.grownBy w' u) (hne : ∀ k, u = some k → v.ownBlock ≠ some k) : w'.ownsRow base e size v n xs := by
  cases u with
  | none => exact ownsRow_ext o (grown_none gr)
  | some k => exact ownsRow_grown o gr (hne k rfl)
/-- 'append(s, x...)', s the call's own row, x of a block apart; it says where the row then lies. -/
theorem wp_appAt {P : Program} {t e : TypeId} {z : Value} {size bytes : Nat} (T : ETy P t e z size bytes) {w : World} {o : Oper} {a : Act} {K : Act → World → Prop} {Q : Exit → Act → World → Prop} (s x : Operand)
    (ho : o.op = .call { callee := .builtin .append, args := #[s, x], argTypes := #[t, t] })
    (base : Nat) (v : Value) (n : Nat) (xs : List Value) (hown : w.ownsRow base e size v n xs) (hs : a.eval s = v)
    (H : Nat) (news : List Value) (f : Nat × Nat) (hb : w.heap[H]? = some (.cells news.toArray e f)) (hl : news.length = size) (hx : a.eval x = .slice (some ⟨H, 0, none⟩) 1 1) (h1 : ∀ c ∈ news, c.oneCell' = true)
    (hlim : (n + 1) * bytes ≤ 140737488355328) (hmax : n + 1 ≤ 9223372036854775807) (hbase : base ≤ w.heap.size)
    (h : ∀ v' w', w'.ownsRow base e size v' (n + 1) (xs ++ news) → w.grownBy w' v.ownBlock → (v'.ownBlock = v.ownBlock ∨ v'.ownBlock = some w.heap.size) → K (a.put o.dst v') w') : o.wp P a w K Q := by
  obtain ⟨i, hi, hz, hs1, hb1⟩ := T.info
  obtain ⟨v', w', hr, own', gr', -, hat⟩ := run_append_own_at (P := P) (w := w) base t o.type e i z size bytes T.und hi hz hs1 hb1 T.cells T.pos v n xs hown ⟨H, 0, none⟩ 1 1 news (by omega) (fun j u hj => by rw [Addr.add_lit, Nat.zero_add, block_cell hb]; simpa using hj) h1 (by unfold maxLen; omega) hlim hbase
  unfold Oper.wp
  simp [execOp, ho, resolve, invoke, builtin, hs, hx, hr, Result.andThen]
  exact h v' w' own' gr' hat
end Go.Proofs.YtpadfabjihaapaaGreatDoor

namespace Go.Proofs.YtpadfabjihaapaaGreatDoor
open Go.RowKit
set_option linter.unusedVariables false
set_option linter.unusedSimpArgs false

/-- Two rows of the call's own, apart, and the variable N9 that turns; the rest is kept. -/
structure LTS (w9 w11 : World) (N9 M : Nat) (Lv Tv : Value) (nl nt : Nat) (xl xt : List Value) (wr : World) : Prop where
  l : wr.ownsRow M 47 70 Lv nl xl
  t : wr.ownsRow M 47 70 Tv nt xt
  ap : ∀ k, Lv.ownBlock = some k → Tv.ownBlock ≠ some k
  keep : ∀ g x, w11.heap[g]? = some x → g ≠ N9 → wr.heap[g]? = some x
  x : Ext w9 wr
  sz : M ≤ wr.heap.size
  n9 : w9.heap.size ≤ N9
  n9M : N9 < M
  m : M = w11.heap.size
theorem LTS.ext {w9 w11 : World} {N9 M : Nat} {Lv Tv : Value} {nl nt : Nat} {xl xt : List Value} {wr w' : World} (h : LTS w9 w11 N9 M Lv Tv nl nt xl xt wr) (k : Ext wr w') : LTS w9 w11 N9 M Lv Tv nl nt xl xt w' :=
  ⟨ownsRow_ext h.l k, ownsRow_ext h.t k, h.ap, fun g x hg hn => k.keeps (h.keep g x hg hn), h.x.trans k, Nat.le_trans h.sz k.size, h.n9, h.n9M, h.m⟩
theorem LTS.left {w9 w11 : World} {N9 M : Nat} {Lv Tv : Value} {nl nt : Nat} {xl xt : List Value} {wr w' : World} (h : LTS w9 w11 N9 M Lv Tv nl nt xl xt wr) {v' : Value} {nl' : Nat} {xl' : List Value}
    (o : w'.ownsRow M 47 70 v' nl' xl') (gr : wr.grownBy w' Lv.ownBlock) (hat : v'.ownBlock = Lv.ownBlock ∨ v'.ownBlock = some wr.heap.size) : LTS w9 w11 N9 M v' Tv nl' nt xl' xt w' :=
  ⟨o, own_apart h.t gr h.ap, fun k hk => by
      rcases hat with e | e
      · exact h.ap k (by rw [← e]; exact hk)
      · rw [e] at hk
        cases hk
        intro e2
        have := (h.t.lt _ e2).2
        omega,
    fun g x hg hn => grown_keep gr (h.keep g x hg hn) (fun e => by have := (h.l.lt _ e).1; have := block_lt hg; have := h.m; omega),
    h.x.grown gr (fun k hk => by have := (h.l.lt _ hk).1; have := h.n9; have := h.n9M; omega), Nat.le_trans h.sz gr.size, h.n9, h.n9M, h.m⟩
theorem LTS.right {w9 w11 : World} {N9 M : Nat} {Lv Tv : Value} {nl nt : Nat} {xl xt : List Value} {wr w' : World} (h : LTS w9 w11 N9 M Lv Tv nl nt xl xt wr) {v' : Value} {nt' : Nat} {xt' : List Value}
    (o : w'.ownsRow M 47 70 v' nt' xt') (gr : wr.grownBy w' Tv.ownBlock) (hat : v'.ownBlock = Tv.ownBlock ∨ v'.ownBlock = some wr.heap.size) : LTS w9 w11 N9 M Lv v' nl nt' xl xt' w' :=
  ⟨own_apart h.l gr (fun k hk e => h.ap k e hk), o, fun k hk e2 => by
      rcases hat with e | e
      · exact h.ap k hk (by rw [← e]; exact e2)
      · rw [e] at e2
        cases e2
        have := (h.l.lt _ hk).2
        omega,
    fun g x hg hn => grown_keep gr (h.keep g x hg hn) (fun e => by have := (h.t.lt _ e).1; have := block_lt hg; have := h.m; omega),
    h.x.grown gr (fun k hk => by have := (h.t.lt _ hk).1; have := h.n9; have := h.n9M; omega), Nat.le_trans h.sz gr.size, h.n9, h.n9M, h.m⟩
theorem LTS.set {w9 w11 : World} {N9 M : Nat} {Lv Tv : Value} {nl nt : Nat} {xl xt : List Value} {wr : World} (h : LTS w9 w11 N9 M Lv Tv nl nt xl xt wr) (i : Nat) (u : Value) : LTS w9 w11 N9 M Lv Tv nl nt xl xt (wr.setCell ⟨N9, i, none⟩ u) :=
  have g := grown_setCell wr N9 i u
  ⟨ownsRow_grown h.l g (own_ne h.l (Or.inl h.n9M)), ownsRow_grown h.t g (own_ne h.t (Or.inl h.n9M)), h.ap, fun k x hk hn => grown_other g (h.keep k x hk hn) hn,
    h.x.grown g (fun k hk => by cases hk; exact h.n9), Nat.le_trans h.sz g.size, h.n9, h.n9M, h.m⟩
theorem own_keep {w w' : World} {base : Nat} {e : TypeId} {size : Nat} {v : Value} {n : Nat} {xs : List Value} (o : w.ownsRow base e size v n xs) (hk : ∀ (g : Nat) (c : Array Value), w.heap[g]? = some (Obj.cells c e (0, 0)) → w'.heap[g]? = some (Obj.cells c e (0, 0))) : w'.ownsRow base e size v n xs := by
  refine ⟨o.1, ?_⟩
  rcases o.2 with h | ⟨g, cap, cur, hv, hb, hg, q⟩
  · exact .inl h
  · exact .inr ⟨g, cap, cur, hv, hb, hk _ _ hg, q⟩
def cC : List Value := objC nilS nilS nilS oC
theorem isC (w : World) : IsObj w cC.toArray nilS nilS nilS oC := ⟨rfl, ⟨by decide, by decide, (fun e h => by cases h), by decide, idL_len oT, (fun e h => by cases h), by decide, by decide, by decide⟩, isB_nil w, isSl_nil w 34, isSl_nil w 32⟩
theorem chkC : checkB oC = true := by decide +kernel
abbrev hC1 : HdC := ⟨idL oC, cC⟩
theorem okT1 : HdOk hT1 := by
  have h := obj_hdOk (isT default) (idL oT) (idL_len oT)
  simpa using h
theorem okC1 : HdOk hC1 := by
  have h := obj_hdOk (isC default) (idL oC) (idL_len oC)
  simpa using h
theorem new2' {w : World} {N : Nat} (hN : w.heap.size = N) (a : Array Value) (ta : TypeId) (b0 b : Array Value) (tb : TypeId) :
    Ext w (((w.alloc (.cells a ta)).alloc (.cells b0 tb)).setRow (N + 1) b) ∧ (((w.alloc (.cells a ta)).alloc (.cells b0 tb)).setRow (N + 1) b).heap[N]? = some (.cells a ta (0, 0)) ∧
      (((w.alloc (.cells a ta)).alloc (.cells b0 tb)).setRow (N + 1) b).heap[N + 1]? = some (.cells b tb (0, 0)) := by
  have h0 : ((w.alloc (.cells a ta)).alloc (.cells b0 tb)).heap[N]? = some (.cells a ta (0, 0)) := blk_old (blk_new hN)
  have h1 : ((w.alloc (.cells a ta)).alloc (.cells b0 tb)).heap[N + 1]? = some (.cells b0 tb (0, 0)) := blk_new (by simp [hN])
  have g2 : ((w.alloc (.cells a ta)).alloc (.cells b0 tb)).grownBy (((w.alloc (.cells a ta)).alloc (.cells b0 tb)).setRow (N + 1) b) (some (N + 1)) := grown_setRow'
  exact ⟨(((Ext.refl w).alloc _).alloc _).grown g2 (fun k hk => by cases hk; omega), grown_other g2 h0 (by omega), setRow_heap _ (N + 1) _ b _ _ h1⟩
theorem yieldsIf_bld {P : Program} {ops : Array Oper} {S : World → Prop} {op : Oper} {a : Act} (hw : Region.wanted op (yielded ops a.tmps) = true) (t : TypeId) (fs : Array (Nat × Operand)) (ho : op.op = .build t fs)
    (parts : List (Nat × Value)) (hp : (fs.toList.map fun (i, z) => (i, a.eval z)) = parts) (cs : Array Value) (hc : P.built t parts = some cs) : YieldsIf P ops S op (.agg cs) a :=
  .inl ⟨hw, fun w hw' => by
    have hp : (fs.map fun (i, z) => (i, a.eval z)).toList = parts := by rw [Array.toList_map]; exact hp
    have hc : P.built t (fs.map fun (i, z) => (i, a.eval z)).toList = some cs := by rw [hp]; exact hc
    unfold execOp
    simp only [ho, Sem.run_bind, run_build w t _ cs hc, Result.andThen_ok, Sem.run_pure]⟩
theorem infoOb : (Tryz.prog.info? 45).map (·.size) = some cC.toArray.size := by kernel_rfl
end Go.Proofs.YtpadfabjihaapaaGreatDoor

namespace Go.Proofs.YtpadfabjihaapaaGreatDoor
open Go.RowKit
set_option linter.unusedVariables false
set_option linter.unusedSimpArgs false

def one32 : List UInt8 := 1 :: List.replicate 31 0
def mW : Mv := ⟨⟨#[109, 97, 105, 110]⟩, z32, one32⟩
theorem mW_ok : MvOk mW := ⟨rfl, rfl, by decide⟩
theorem applyW : applyR [] mW = ([⟨⟨#[109, 97, 105, 110]⟩, one32⟩], 0) := by kernel_rfl
set_option maxRecDepth 1000000 in
theorem built_one : Tryz.prog.built 31 [(0, .int .u8 1)] = some (one32.map bc).toArray := by kernel_rfl
end Go.Proofs.YtpadfabjihaapaaGreatDoor
