/- Entries and digests held against each other; slices.Equal at both; the reference's and the program's Same. -/
import Derived.Test.YtpadfabjihaapaaGreatDoorObC
namespace Go.Proofs.YtpadfabjihaapaaGreatDoor
open Go.RowKit
set_option linter.unusedVariables false
set_option linter.unusedSimpArgs false

def listEq {α : Type} (f : α → α → Bool) : List α → List α → Bool
  | [], [] => true
  | a :: x, b :: y => f a b && listEq f x y
  | _, _ => false
theorem listEq_len {α : Type} (f : α → α → Bool) : ∀ (x y : List α), x.length ≠ y.length → listEq f x y = false
  | [], [], h => absurd rfl h
  | [], _ :: _, _ => rfl
  | _ :: _, [], _ => rfl
  | a :: x, b :: y, h => by rw [listEq, listEq_len f x y (fun e => h (by simp [e]))]; simp
theorem listEq_same {α : Type} (f : α → α → Bool) (hf : ∀ a b, f a b = true ↔ a = b) : ∀ (x y : List α), listEq f x y = true ↔ x = y
  | [], [] => by simp [listEq]
  | [], _ :: _ => by simp [listEq]
  | _ :: _, [] => by simp [listEq]
  | a :: x, b :: y => by rw [listEq, Bool.and_eq_true, hf, listEq_same f hf x y]; simp
def entEq (a b : EntL) : Bool := (a.name.toList == b.name.toList) && (a.folder == b.folder) && decide (a.id = b.id)
def idEq (a b : List UInt8) : Bool := decide (a = b)

def eqF (d : Nat) (xs ys : Array Value) : List (String × TypeId × Nat) → Sem Bool
  | [] => pure true
  | f :: fs =>
    if f.1 ≠ "_" then do
      let a ← part f.2.1 xs f.2.2
      let b ← part f.2.1 ys f.2.2
      let r ← Op.equalIn d f.2.1 a b
      if (!r) = true then pure false else eqF d xs ys fs
    else eqF d xs ys fs
theorem eqF_of (d : Nat) (xs ys : Array Value) : ∀ fs : List Field, Op.eqFields d xs ys fs = eqF d xs ys (fs.map fun f => (f.name, f.type, f.offset))
  | [] => rfl
  | f :: fs => by simp only [Op.eqFields, eqF, List.map_cons, eqF_of d xs ys fs]
set_option maxRecDepth 1000000 in
theorem ent_fields : (Tryz.prog.fieldsOf 80).toList.map (fun f => (f.name, f.type, f.offset)) = [("Name", 9, 0), ("Folder", 4, 1), ("Id", 31, 2)] := by kernel_rfl
set_option maxRecDepth 1000000 in
theorem part_id (w : World) (l : List UInt8) (pre : List Value) (h : l.length = 32) (hp : pre.length = 2) : (part 31 (pre ++ l.map bc).toArray 2).run Tryz.prog w = .ok (.agg (l.map bc).toArray) w := by
  have hi := id_info h
  cases hq : Tryz.prog.info? 31 with
  | none => rw [hq] at hi; simp at hi
  | some i =>
    have hs : i.size = 32 := by rw [hq] at hi; simp at hi; omega
    simp [part, isAgg, run_underlying Tryz.underlying31, sizeOf, typeInfo, hq, hs, go_sem]
    rw [List.drop_append_of_le_length (by omega), List.drop_of_length_le (by omega), List.nil_append, List.take_of_length_le (by simp; omega)]
set_option maxRecDepth 1000000 in
theorem equal_ent (w : World) (a b : EntL) (ha : EntOk a) (hb : EntOk b) :
    (Op.equalIn 10000 80 (.agg (entC a).toArray) (.agg (entC b).toArray)).run Tryz.prog w = .ok (entEq a b) w := by
  have p1 : ∀ (w : World) (e : EntL), (part 9 (entC e).toArray 0).run Tryz.prog w = .ok (.string e.name) w := fun w e => by
    simp [part, isAgg, run_underlying Tryz.underlying9, entC, go_sem]
  have p2 : ∀ (w : World) (e : EntL), (part 4 (entC e).toArray 1).run Tryz.prog w = .ok (.bool e.folder) w := fun w e => by
    simp [part, isAgg, run_underlying Tryz.underlying4, entC, go_sem]
  have p3 : ∀ (w : World) (e : EntL), EntOk e → (part 31 (entC e).toArray 2).run Tryz.prog w = .ok (.agg (e.id.map bc).toArray) w := fun w e he =>
    part_id w e.id [.string e.name, .bool e.folder] he.1 rfl
  have q1 : ∀ (w : World) (x y : ByteArray), (Op.equalIn 9999 9 (.string x) (.string y)).run Tryz.prog w = .ok (x.toList == y.toList) w := fun w x y => run_equalIn_string (P := Tryz.prog) w 9998 _ _ _ Tryz.underlying9
  have q2 : ∀ (w : World) (x y : Bool), (Op.equalIn 9999 4 (.bool x) (.bool y)).run Tryz.prog w = .ok (x == y) w := fun w x y => run_equalIn_bool' (P := Tryz.prog) w 9998 _ _ _ Tryz.underlying4
  have q3 : ∀ (w : World), (Op.equalIn 9999 31 (.agg (a.id.map bc).toArray) (.agg (b.id.map bc).toArray)).run Tryz.prog w = .ok (decide (a.id = b.id)) w := fun w => equal_idD w 9997 a.id b.id ha.1 hb.1
  rw [show (10000 : Nat) = 9999 + 1 from rfl, run_equalIn_agg (P := Tryz.prog) (w := w) _ _ _ _ Tryz.underlying80 (by kernel_rfl), eqF_of, ent_fields]
  unfold entEq
  have n1 : ("Name" : String) ≠ "_" := by decide
  have n2 : ("Folder" : String) ≠ "_" := by decide
  have n3 : ("Id" : String) ≠ "_" := by decide
  simp only [eqF, if_pos n1, if_pos n2, if_pos n3, Sem.run_bind, p1, p2, p3 _ a ha, p3 _ b hb, q1, q2, q3, Result.andThen_ok]
  by_cases e1 : a.name.toList = b.name.toList
  · by_cases e2 : a.folder = b.folder
    · by_cases e3 : a.id = b.id
      · rw [e3] at q3
        simp [e1, e2, e3, p2, q2, p3 _ a ha, p3 _ b hb, q3]
      · simp [e1, e2, e3, p2, q2, p3 _ a ha, p3 _ b hb, q3]
    · simp [e1, e2, p2, q2]
  · simp [e1]
set_option maxRecDepth 1000000 in
theorem neq_ent (w : World) (a b : EntL) (ha : EntOk a) (hb : EntOk b) :
    (binOp .neq 80 (.agg (entC a).toArray) (.agg (entC b).toArray)).run Tryz.prog w = .ok (.bool (!entEq a b)) w := by
  rw [run_neq_struct, equal_ent w a b ha hb]; rfl
theorem ids_at {w : World} {ao : Option Addr} {n cap : Nat} {es : List (List UInt8)} (h : IsSl w (.slice ao n cap) 32 es.length (es.flatMap idC)) (hok : ∀ e ∈ es, e.length = 32) (i : Nat) (hi : i < es.length) :
    ∃ b off, ao = some ⟨b, off, none⟩ ∧ w.rangeAt b (off + i * 32) (idC es[i]) := by
  obtain ⟨hlen, ao', cap', e, h2, h3, h4, h5⟩ := h
  simp only [Value.slice.injEq] at e
  obtain ⟨rfl, rfl, rfl⟩ := e
  have hl : ∀ x ∈ es, (idC x).length = 32 := fun x hx => by simp [idC, hok x hx]
  obtain ⟨b, off, e, _⟩ := h5 (i * 32) (by rw [flat_len idC 32 es hl]; omega)
  refine ⟨b, off, e, fun j v hj => ?_⟩
  have hj34 : j < 32 := by
    have := (List.getElem?_eq_some_iff.1 hj).1
    rw [hl _ (List.getElem_mem hi)] at this
    exact this
  obtain ⟨b', off', e', hc⟩ := h5 (i * 32 + j) (by rw [flat_len idC 32 es hl]; omega)
  rw [e] at e'
  simp only [Option.some.injEq, Addr.mk.injEq] at e'
  obtain ⟨rfl, rfl, _⟩ := e'
  rw [Nat.add_assoc, hc, flat_get idC 32 es hl i hi j hj34]
  exact hj
theorem sl_cap {w : World} {ao : Option Addr} {n cap s m : Nat} {xs : List Value} (h : IsSl w (.slice ao n cap) s m xs) : m = n ∧ n ≤ cap ∧ cap ≤ 9223372036854775807 := by
  obtain ⟨_, _, _, e, h2, h3, _⟩ := h
  simp only [Value.slice.injEq] at e
  obtain ⟨rfl, rfl, rfl⟩ := e
  exact ⟨rfl, h2, h3⟩

set_option maxHeartbeats 4000000 in
set_option maxRecDepth 100000 in
theorem slEqEnt (w : World) (v1 v2 : Value) (l1 l2 : List EntL) (h1 : IsSl w v1 34 l1.length (l1.flatMap entC)) (h2 : IsSl w v2 34 l2.length (l2.flatMap entC)) (o1 : ∀ e ∈ l1, EntOk e) (o2 : ∀ e ∈ l2, EntOk e) :
    Calls Tryz.prog 112 #[v1, v2] w fun e w' => e = .returned (.bool (listEq entEq l1 l2)) ∧ Ext w w' := by
  obtain ⟨a1, c1, rfl⟩ := sl_len h1
  obtain ⟨a2, c2, rfl⟩ := sl_len h2
  obtain ⟨_, k1, m1⟩ := sl_cap h1
  obtain ⟨_, k2, m2⟩ := sl_cap h2
  have H1 := Lib.hid h1
  have H2 := Lib.hid h2
  have O1 := Lib.hid o1
  have O2 := Lib.hid o2
  clear h1 h2 o1 o2
  generalize hR : listEq entEq l1 l2 = R
  by_cases hn : l1.length = l2.length
  · have hb : ((l1.length : Int) != (l2.length : Int)) = false := by rw [hn]; simp
    have HN := Lib.hid hn
    clear hn
    go_enter Tryz.func112, Tryz.ntmps112
    go_wp2_with fail
    go_loopg [13] l1.length (fun g s13 wr => ∃ i : Nat, i ≤ l1.length ∧ l1.length - i ≤ g ∧ s13 = .int .i64 i ∧ R = listEq entEq (l1.drop i) (l2.drop i) ∧ Ext w wr)
    case atStart => exact ⟨0, Nat.zero_le _, by omega, rfl, hR.symm, Ext.refl _⟩
    case round =>
      clear hR
      obtain ⟨i, hi, hg, rfl, hR, xr⟩ := hrel
      by_cases hlt : i < l1.length
      · have hlt2 : i < l2.length := by have := HN.out; omega
        obtain ⟨p1, f1, rfl, hra1⟩ := ent_at H1.out O1.out i hlt
        obtain ⟨p2, f2, rfl, hra2⟩ := ent_at H2.out O2.out i hlt2
        have q1 := O1.out _ (List.getElem_mem hlt)
        have q2 := O2.out _ (List.getElem_mem hlt2)
        rw [List.drop_eq_getElem_cons hlt, List.drop_eq_getElem_cons hlt2, listEq] at hR
        generalize l1[i] = x at *
        generalize l2[i] = y at *
        have hra1 := rangeAt_ext hra1 xr
        have hra2 := rangeAt_ext hra2 xr
        have hinf1 := ent_info q1
        have hinf2 := ent_info q2
        have hne := fun w => neq_ent w x y q1 q2
        have i0 : (0 : Int) ≤ (i : Int) := Int.natCast_nonneg _
        have i1 : (i : Int) < (l1.length : Int) := by omega
        have i2 : (i : Int) < (l2.length : Int) := by omega
        cases hxy : entEq x y with
        | true =>
          rw [hxy] at hR
          have HR := Lib.hid hR
          rw [show entEq x y = true from hxy] at hne
          have HX := Lib.hid hxy
          clear hR hxy q1 q2
          go_wp2_with fail
          refine wp_region_ext (by kernel_rfl) fun wd hqd xd hHeld => ?_
          have hra1 := rangeAt_ext hra1 xd
          have hra2 := rangeAt_ext hra2 xd
          refine wpAnyH_take (i := 0) (v := ?vea0) rfl (by kernel_rfl) (by kernel_rfl) (by kernel_rfl) (fun _ _ _ h => h) (Or.inl ⟨by rfl, ?hyea0⟩) hHeld ?_
          case hyea0 => (intro w hSw; go_simp; try with_reducible rfl)
          simp only [Act.put, List.setIfInBounds_toArray, List.set_cons_zero, List.set_cons_succ, List.getElem_toArray, List.getElem_cons_zero, List.getElem_cons_succ]
          refine wpAnyH_take (i := 1) (v := ?vea1) rfl (by kernel_rfl) (by kernel_rfl) (by kernel_rfl) (fun _ _ _ h => h) (Or.inl ⟨by rfl, ?hyea1⟩) hHeld ?_
          case hyea1 => (intro w hSw; go_simp; try with_reducible rfl)
          simp only [Act.put, List.setIfInBounds_toArray, List.set_cons_zero, List.set_cons_succ, List.getElem_toArray, List.getElem_cons_zero, List.getElem_cons_succ]
          refine wpAnyH_take (i := 2) (v := ?vea2) rfl (by kernel_rfl) (by kernel_rfl) (by kernel_rfl) (fun _ _ _ h => h) (Or.inl ⟨by rfl, ?hyea2⟩) hHeld ?_
          case hyea2 => (intro w hSw; go_simp; try with_reducible rfl)
          simp only [Act.put, List.setIfInBounds_toArray, List.set_cons_zero, List.set_cons_succ, List.getElem_toArray, List.getElem_cons_zero, List.getElem_cons_succ]
          refine wpAnyH_take (i := 3) rfl (by kernel_rfl) (by kernel_rfl) (by kernel_rfl) (fun _ _ _ h => h) (yieldsIf_load_mid (by rfl) _ _ rfl _ _ rfl (entC x) _ (fun w h => rangeAt_ext hra1 h) Tryz.underlying80 rfl hinf1) hHeld ?_
          simp only [Act.put, List.setIfInBounds_toArray, List.set_cons_zero, List.set_cons_succ, List.getElem_toArray, List.getElem_cons_zero, List.getElem_cons_succ]
          refine wpAnyH_take (i := 4) (v := ?vea4) rfl (by kernel_rfl) (by kernel_rfl) (by kernel_rfl) (fun _ _ _ h => h) (Or.inl ⟨by rfl, ?hyea4⟩) hHeld ?_
          case hyea4 => (intro w hSw; go_simp; try with_reducible rfl)
          simp only [Act.put, List.setIfInBounds_toArray, List.set_cons_zero, List.set_cons_succ, List.getElem_toArray, List.getElem_cons_zero, List.getElem_cons_succ]
          refine wpAnyH_take (i := 5) (v := ?vea5) rfl (by kernel_rfl) (by kernel_rfl) (by kernel_rfl) (fun _ _ _ h => h) (Or.inl ⟨by rfl, ?hyea5⟩) hHeld ?_
          case hyea5 => (intro w hSw; go_simp; try with_reducible rfl)
          simp only [Act.put, List.setIfInBounds_toArray, List.set_cons_zero, List.set_cons_succ, List.getElem_toArray, List.getElem_cons_zero, List.getElem_cons_succ]
          refine wpAnyH_take (i := 6) (v := ?vea6) rfl (by kernel_rfl) (by kernel_rfl) (by kernel_rfl) (fun _ _ _ h => h) (Or.inl ⟨by rfl, ?hyea6⟩) hHeld ?_
          case hyea6 => (intro w hSw; go_simp; try with_reducible rfl)
          simp only [Act.put, List.setIfInBounds_toArray, List.set_cons_zero, List.set_cons_succ, List.getElem_toArray, List.getElem_cons_zero, List.getElem_cons_succ]
          refine wpAnyH_take (i := 7) rfl (by kernel_rfl) (by kernel_rfl) (by kernel_rfl) (fun _ _ _ h => h) (yieldsIf_load_mid (by rfl) _ _ rfl _ _ rfl (entC y) _ (fun w h => rangeAt_ext hra2 h) Tryz.underlying80 rfl hinf2) hHeld ?_
          simp only [Act.put, List.setIfInBounds_toArray, List.set_cons_zero, List.set_cons_succ, List.getElem_toArray, List.getElem_cons_zero, List.getElem_cons_succ]
          refine wpAnyH_take (i := 8) (v := ?vea8) rfl (by kernel_rfl) (by kernel_rfl) (by kernel_rfl) (fun _ _ _ h => h) (Or.inl ⟨by rfl, ?hyea8⟩) hHeld ?_
          case hyea8 => (intro w hSw; have k := hne w; go_simp; try with_reducible rfl)
          simp only [Act.put, List.setIfInBounds_toArray, List.set_cons_zero, List.set_cons_succ, List.getElem_toArray, List.getElem_cons_zero, List.getElem_cons_succ]
          refine wpAnyH_done (by kernel_rfl) ?_ _
          refine NoPanic.normal ?_
          go_wp2_with fail
          go_roundg (l1.length - (i + 1))
          case measure => omega
          case rel => exact ⟨i + 1, by omega, by omega, by go_num, by rw [HR.out]; rfl, xr.trans xd⟩
        | false =>
          rw [hxy] at hR
          have HR := Lib.hid hR
          rw [show entEq x y = false from hxy] at hne
          have HX := Lib.hid hxy
          clear hR hxy q1 q2
          go_wp2_with fail
          refine wp_region_ext (by kernel_rfl) fun wd hqd xd hHeld => ?_
          have hra1 := rangeAt_ext hra1 xd
          have hra2 := rangeAt_ext hra2 xd
          refine wpAnyH_take (i := 0) (v := ?veb0) rfl (by kernel_rfl) (by kernel_rfl) (by kernel_rfl) (fun _ _ _ h => h) (Or.inl ⟨by rfl, ?hyeb0⟩) hHeld ?_
          case hyeb0 => (intro w hSw; go_simp; try with_reducible rfl)
          simp only [Act.put, List.setIfInBounds_toArray, List.set_cons_zero, List.set_cons_succ, List.getElem_toArray, List.getElem_cons_zero, List.getElem_cons_succ]
          refine wpAnyH_take (i := 1) (v := ?veb1) rfl (by kernel_rfl) (by kernel_rfl) (by kernel_rfl) (fun _ _ _ h => h) (Or.inl ⟨by rfl, ?hyeb1⟩) hHeld ?_
          case hyeb1 => (intro w hSw; go_simp; try with_reducible rfl)
          simp only [Act.put, List.setIfInBounds_toArray, List.set_cons_zero, List.set_cons_succ, List.getElem_toArray, List.getElem_cons_zero, List.getElem_cons_succ]
          refine wpAnyH_take (i := 2) (v := ?veb2) rfl (by kernel_rfl) (by kernel_rfl) (by kernel_rfl) (fun _ _ _ h => h) (Or.inl ⟨by rfl, ?hyeb2⟩) hHeld ?_
          case hyeb2 => (intro w hSw; go_simp; try with_reducible rfl)
          simp only [Act.put, List.setIfInBounds_toArray, List.set_cons_zero, List.set_cons_succ, List.getElem_toArray, List.getElem_cons_zero, List.getElem_cons_succ]
          refine wpAnyH_take (i := 3) rfl (by kernel_rfl) (by kernel_rfl) (by kernel_rfl) (fun _ _ _ h => h) (yieldsIf_load_mid (by rfl) _ _ rfl _ _ rfl (entC x) _ (fun w h => rangeAt_ext hra1 h) Tryz.underlying80 rfl hinf1) hHeld ?_
          simp only [Act.put, List.setIfInBounds_toArray, List.set_cons_zero, List.set_cons_succ, List.getElem_toArray, List.getElem_cons_zero, List.getElem_cons_succ]
          refine wpAnyH_take (i := 4) (v := ?veb4) rfl (by kernel_rfl) (by kernel_rfl) (by kernel_rfl) (fun _ _ _ h => h) (Or.inl ⟨by rfl, ?hyeb4⟩) hHeld ?_
          case hyeb4 => (intro w hSw; go_simp; try with_reducible rfl)
          simp only [Act.put, List.setIfInBounds_toArray, List.set_cons_zero, List.set_cons_succ, List.getElem_toArray, List.getElem_cons_zero, List.getElem_cons_succ]
          refine wpAnyH_take (i := 5) (v := ?veb5) rfl (by kernel_rfl) (by kernel_rfl) (by kernel_rfl) (fun _ _ _ h => h) (Or.inl ⟨by rfl, ?hyeb5⟩) hHeld ?_
          case hyeb5 => (intro w hSw; go_simp; try with_reducible rfl)
          simp only [Act.put, List.setIfInBounds_toArray, List.set_cons_zero, List.set_cons_succ, List.getElem_toArray, List.getElem_cons_zero, List.getElem_cons_succ]
          refine wpAnyH_take (i := 6) (v := ?veb6) rfl (by kernel_rfl) (by kernel_rfl) (by kernel_rfl) (fun _ _ _ h => h) (Or.inl ⟨by rfl, ?hyeb6⟩) hHeld ?_
          case hyeb6 => (intro w hSw; go_simp; try with_reducible rfl)
          simp only [Act.put, List.setIfInBounds_toArray, List.set_cons_zero, List.set_cons_succ, List.getElem_toArray, List.getElem_cons_zero, List.getElem_cons_succ]
          refine wpAnyH_take (i := 7) rfl (by kernel_rfl) (by kernel_rfl) (by kernel_rfl) (fun _ _ _ h => h) (yieldsIf_load_mid (by rfl) _ _ rfl _ _ rfl (entC y) _ (fun w h => rangeAt_ext hra2 h) Tryz.underlying80 rfl hinf2) hHeld ?_
          simp only [Act.put, List.setIfInBounds_toArray, List.set_cons_zero, List.set_cons_succ, List.getElem_toArray, List.getElem_cons_zero, List.getElem_cons_succ]
          refine wpAnyH_take (i := 8) (v := ?veb8) rfl (by kernel_rfl) (by kernel_rfl) (by kernel_rfl) (fun _ _ _ h => h) (Or.inl ⟨by rfl, ?hyeb8⟩) hHeld ?_
          case hyeb8 => (intro w hSw; have k := hne w; go_simp; try with_reducible rfl)
          simp only [Act.put, List.setIfInBounds_toArray, List.set_cons_zero, List.set_cons_succ, List.getElem_toArray, List.getElem_cons_zero, List.getElem_cons_succ]
          refine wpAnyH_done (by kernel_rfl) ?_ _
          refine NoPanic.normal ?_
          go_wp2_with fail
          go_ret
          exact ⟨ret_bool (by rw [HR.out]; rfl), xr.trans xd⟩
      · have e : i = l1.length := by omega
        subst e
        have hT : R = true := by rw [hR, List.drop_length, HN.out, List.drop_length]; rfl
        have HT := Lib.hid hT
        clear hT hR
        go_wp2_with fail
        go_ret
        exact ⟨ret_bool HT.out.symm, xr⟩
  · have hb : ((l1.length : Int) != (l2.length : Int)) = true := by rw [bne_iff_ne]; omega
    have hF := hR.symm.trans (listEq_len entEq l1 l2 hn)
    have HF := Lib.hid hF
    clear hF hR
    go_enter Tryz.func112, Tryz.ntmps112
    go_wp2_with fail
    go_ret
    exact ⟨ret_bool HF.out.symm, Ext.refl _⟩
theorem idC_info {l : List UInt8} (h : l.length = 32) : (Tryz.prog.info? 31).map (·.size) = some (idC l).length := id_info h
theorem neq_idC (w : World) (a b : List UInt8) (ha : a.length = 32) (hb : b.length = 32) : (binOp .neq 31 (.agg (idC a).toArray) (.agg (idC b).toArray)).run Tryz.prog w = .ok (.bool (!idEq a b)) w := neq_id w a b ha hb

set_option maxHeartbeats 4000000 in
set_option maxRecDepth 100000 in
theorem slEqId (w : World) (v1 v2 : Value) (l1 l2 : List (List UInt8)) (h1 : IsSl w v1 32 l1.length (l1.flatMap idC)) (h2 : IsSl w v2 32 l2.length (l2.flatMap idC)) (o1 : ∀ e ∈ l1, e.length = 32) (o2 : ∀ e ∈ l2, e.length = 32) :
    Calls Tryz.prog 113 #[v1, v2] w fun e w' => e = .returned (.bool (listEq idEq l1 l2)) ∧ Ext w w' := by
  obtain ⟨a1, c1, rfl⟩ := sl_len h1
  obtain ⟨a2, c2, rfl⟩ := sl_len h2
  obtain ⟨_, k1, m1⟩ := sl_cap h1
  obtain ⟨_, k2, m2⟩ := sl_cap h2
  have H1 := Lib.hid h1
  have H2 := Lib.hid h2
  have O1 := Lib.hid o1
  have O2 := Lib.hid o2
  clear h1 h2 o1 o2
  generalize hR : listEq idEq l1 l2 = R
  by_cases hn : l1.length = l2.length
  · have hb : ((l1.length : Int) != (l2.length : Int)) = false := by rw [hn]; simp
    have HN := Lib.hid hn
    clear hn
    go_enter Tryz.func113, Tryz.ntmps113
    go_wp2_with fail
    go_loopg [13] l1.length (fun g s13 wr => ∃ i : Nat, i ≤ l1.length ∧ l1.length - i ≤ g ∧ s13 = .int .i64 i ∧ R = listEq idEq (l1.drop i) (l2.drop i) ∧ Ext w wr)
    case atStart => exact ⟨0, Nat.zero_le _, by omega, rfl, hR.symm, Ext.refl _⟩
    case round =>
      clear hR
      obtain ⟨i, hi, hg, rfl, hR, xr⟩ := hrel
      by_cases hlt : i < l1.length
      · have hlt2 : i < l2.length := by have := HN.out; omega
        obtain ⟨p1, f1, rfl, hra1⟩ := ids_at H1.out O1.out i hlt
        obtain ⟨p2, f2, rfl, hra2⟩ := ids_at H2.out O2.out i hlt2
        have q1 := O1.out _ (List.getElem_mem hlt)
        have q2 := O2.out _ (List.getElem_mem hlt2)
        rw [List.drop_eq_getElem_cons hlt, List.drop_eq_getElem_cons hlt2, listEq] at hR
        generalize l1[i] = x at *
        generalize l2[i] = y at *
        have hra1 := rangeAt_ext hra1 xr
        have hra2 := rangeAt_ext hra2 xr
        have hinf1 := idC_info q1
        have hinf2 := idC_info q2
        have hne := fun w => neq_idC w x y q1 q2
        have i0 : (0 : Int) ≤ (i : Int) := Int.natCast_nonneg _
        have i1 : (i : Int) < (l1.length : Int) := by omega
        have i2 : (i : Int) < (l2.length : Int) := by omega
        cases hxy : idEq x y with
        | true =>
          rw [hxy] at hR
          have HR := Lib.hid hR
          rw [show idEq x y = true from hxy] at hne
          have HX := Lib.hid hxy
          clear hR hxy q1 q2
          go_wp2_with fail
          refine wp_region_ext (by kernel_rfl) fun wd hqd xd hHeld => ?_
          have hra1 := rangeAt_ext hra1 xd
          have hra2 := rangeAt_ext hra2 xd
          refine wpAnyH_take (i := 0) (v := ?via0) rfl (by kernel_rfl) (by kernel_rfl) (by kernel_rfl) (fun _ _ _ h => h) (Or.inl ⟨by rfl, ?hyia0⟩) hHeld ?_
          case hyia0 => (intro w hSw; go_simp; try with_reducible rfl)
          simp only [Act.put, List.setIfInBounds_toArray, List.set_cons_zero, List.set_cons_succ, List.getElem_toArray, List.getElem_cons_zero, List.getElem_cons_succ]
          refine wpAnyH_take (i := 1) (v := ?via1) rfl (by kernel_rfl) (by kernel_rfl) (by kernel_rfl) (fun _ _ _ h => h) (Or.inl ⟨by rfl, ?hyia1⟩) hHeld ?_
          case hyia1 => (intro w hSw; go_simp; try with_reducible rfl)
          simp only [Act.put, List.setIfInBounds_toArray, List.set_cons_zero, List.set_cons_succ, List.getElem_toArray, List.getElem_cons_zero, List.getElem_cons_succ]
          refine wpAnyH_take (i := 2) (v := ?via2) rfl (by kernel_rfl) (by kernel_rfl) (by kernel_rfl) (fun _ _ _ h => h) (Or.inl ⟨by rfl, ?hyia2⟩) hHeld ?_
          case hyia2 => (intro w hSw; go_simp; try with_reducible rfl)
          simp only [Act.put, List.setIfInBounds_toArray, List.set_cons_zero, List.set_cons_succ, List.getElem_toArray, List.getElem_cons_zero, List.getElem_cons_succ]
          refine wpAnyH_take (i := 3) rfl (by kernel_rfl) (by kernel_rfl) (by kernel_rfl) (fun _ _ _ h => h) (yieldsIf_load_mid (by rfl) _ _ rfl _ _ rfl (idC x) _ (fun w h => rangeAt_ext hra1 h) Tryz.underlying31 rfl hinf1) hHeld ?_
          simp only [Act.put, List.setIfInBounds_toArray, List.set_cons_zero, List.set_cons_succ, List.getElem_toArray, List.getElem_cons_zero, List.getElem_cons_succ]
          refine wpAnyH_take (i := 4) (v := ?via4) rfl (by kernel_rfl) (by kernel_rfl) (by kernel_rfl) (fun _ _ _ h => h) (Or.inl ⟨by rfl, ?hyia4⟩) hHeld ?_
          case hyia4 => (intro w hSw; go_simp; try with_reducible rfl)
          simp only [Act.put, List.setIfInBounds_toArray, List.set_cons_zero, List.set_cons_succ, List.getElem_toArray, List.getElem_cons_zero, List.getElem_cons_succ]
          refine wpAnyH_take (i := 5) (v := ?via5) rfl (by kernel_rfl) (by kernel_rfl) (by kernel_rfl) (fun _ _ _ h => h) (Or.inl ⟨by rfl, ?hyia5⟩) hHeld ?_
          case hyia5 => (intro w hSw; go_simp; try with_reducible rfl)
          simp only [Act.put, List.setIfInBounds_toArray, List.set_cons_zero, List.set_cons_succ, List.getElem_toArray, List.getElem_cons_zero, List.getElem_cons_succ]
          refine wpAnyH_take (i := 6) (v := ?via6) rfl (by kernel_rfl) (by kernel_rfl) (by kernel_rfl) (fun _ _ _ h => h) (Or.inl ⟨by rfl, ?hyia6⟩) hHeld ?_
          case hyia6 => (intro w hSw; go_simp; try with_reducible rfl)
          simp only [Act.put, List.setIfInBounds_toArray, List.set_cons_zero, List.set_cons_succ, List.getElem_toArray, List.getElem_cons_zero, List.getElem_cons_succ]
          refine wpAnyH_take (i := 7) rfl (by kernel_rfl) (by kernel_rfl) (by kernel_rfl) (fun _ _ _ h => h) (yieldsIf_load_mid (by rfl) _ _ rfl _ _ rfl (idC y) _ (fun w h => rangeAt_ext hra2 h) Tryz.underlying31 rfl hinf2) hHeld ?_
          simp only [Act.put, List.setIfInBounds_toArray, List.set_cons_zero, List.set_cons_succ, List.getElem_toArray, List.getElem_cons_zero, List.getElem_cons_succ]
          refine wpAnyH_take (i := 8) (v := ?via8) rfl (by kernel_rfl) (by kernel_rfl) (by kernel_rfl) (fun _ _ _ h => h) (Or.inl ⟨by rfl, ?hyia8⟩) hHeld ?_
          case hyia8 => (intro w hSw; have k := hne w; go_simp; try with_reducible rfl)
          simp only [Act.put, List.setIfInBounds_toArray, List.set_cons_zero, List.set_cons_succ, List.getElem_toArray, List.getElem_cons_zero, List.getElem_cons_succ]
          refine wpAnyH_done (by kernel_rfl) ?_ _
          refine NoPanic.normal ?_
          go_wp2_with fail
          go_roundg (l1.length - (i + 1))
          case measure => omega
          case rel => exact ⟨i + 1, by omega, by omega, by go_num, by rw [HR.out]; rfl, xr.trans xd⟩
        | false =>
          rw [hxy] at hR
          have HR := Lib.hid hR
          rw [show idEq x y = false from hxy] at hne
          have HX := Lib.hid hxy
          clear hR hxy q1 q2
          go_wp2_with fail
          refine wp_region_ext (by kernel_rfl) fun wd hqd xd hHeld => ?_
          have hra1 := rangeAt_ext hra1 xd
          have hra2 := rangeAt_ext hra2 xd
          refine wpAnyH_take (i := 0) (v := ?vib0) rfl (by kernel_rfl) (by kernel_rfl) (by kernel_rfl) (fun _ _ _ h => h) (Or.inl ⟨by rfl, ?hyib0⟩) hHeld ?_
          case hyib0 => (intro w hSw; go_simp; try with_reducible rfl)
          simp only [Act.put, List.setIfInBounds_toArray, List.set_cons_zero, List.set_cons_succ, List.getElem_toArray, List.getElem_cons_zero, List.getElem_cons_succ]
          refine wpAnyH_take (i := 1) (v := ?vib1) rfl (by kernel_rfl) (by kernel_rfl) (by kernel_rfl) (fun _ _ _ h => h) (Or.inl ⟨by rfl, ?hyib1⟩) hHeld ?_
          case hyib1 => (intro w hSw; go_simp; try with_reducible rfl)
          simp only [Act.put, List.setIfInBounds_toArray, List.set_cons_zero, List.set_cons_succ, List.getElem_toArray, List.getElem_cons_zero, List.getElem_cons_succ]
          refine wpAnyH_take (i := 2) (v := ?vib2) rfl (by kernel_rfl) (by kernel_rfl) (by kernel_rfl) (fun _ _ _ h => h) (Or.inl ⟨by rfl, ?hyib2⟩) hHeld ?_
          case hyib2 => (intro w hSw; go_simp; try with_reducible rfl)
          simp only [Act.put, List.setIfInBounds_toArray, List.set_cons_zero, List.set_cons_succ, List.getElem_toArray, List.getElem_cons_zero, List.getElem_cons_succ]
          refine wpAnyH_take (i := 3) rfl (by kernel_rfl) (by kernel_rfl) (by kernel_rfl) (fun _ _ _ h => h) (yieldsIf_load_mid (by rfl) _ _ rfl _ _ rfl (idC x) _ (fun w h => rangeAt_ext hra1 h) Tryz.underlying31 rfl hinf1) hHeld ?_
          simp only [Act.put, List.setIfInBounds_toArray, List.set_cons_zero, List.set_cons_succ, List.getElem_toArray, List.getElem_cons_zero, List.getElem_cons_succ]
          refine wpAnyH_take (i := 4) (v := ?vib4) rfl (by kernel_rfl) (by kernel_rfl) (by kernel_rfl) (fun _ _ _ h => h) (Or.inl ⟨by rfl, ?hyib4⟩) hHeld ?_
          case hyib4 => (intro w hSw; go_simp; try with_reducible rfl)
          simp only [Act.put, List.setIfInBounds_toArray, List.set_cons_zero, List.set_cons_succ, List.getElem_toArray, List.getElem_cons_zero, List.getElem_cons_succ]
          refine wpAnyH_take (i := 5) (v := ?vib5) rfl (by kernel_rfl) (by kernel_rfl) (by kernel_rfl) (fun _ _ _ h => h) (Or.inl ⟨by rfl, ?hyib5⟩) hHeld ?_
          case hyib5 => (intro w hSw; go_simp; try with_reducible rfl)
          simp only [Act.put, List.setIfInBounds_toArray, List.set_cons_zero, List.set_cons_succ, List.getElem_toArray, List.getElem_cons_zero, List.getElem_cons_succ]
          refine wpAnyH_take (i := 6) (v := ?vib6) rfl (by kernel_rfl) (by kernel_rfl) (by kernel_rfl) (fun _ _ _ h => h) (Or.inl ⟨by rfl, ?hyib6⟩) hHeld ?_
          case hyib6 => (intro w hSw; go_simp; try with_reducible rfl)
          simp only [Act.put, List.setIfInBounds_toArray, List.set_cons_zero, List.set_cons_succ, List.getElem_toArray, List.getElem_cons_zero, List.getElem_cons_succ]
          refine wpAnyH_take (i := 7) rfl (by kernel_rfl) (by kernel_rfl) (by kernel_rfl) (fun _ _ _ h => h) (yieldsIf_load_mid (by rfl) _ _ rfl _ _ rfl (idC y) _ (fun w h => rangeAt_ext hra2 h) Tryz.underlying31 rfl hinf2) hHeld ?_
          simp only [Act.put, List.setIfInBounds_toArray, List.set_cons_zero, List.set_cons_succ, List.getElem_toArray, List.getElem_cons_zero, List.getElem_cons_succ]
          refine wpAnyH_take (i := 8) (v := ?vib8) rfl (by kernel_rfl) (by kernel_rfl) (by kernel_rfl) (fun _ _ _ h => h) (Or.inl ⟨by rfl, ?hyib8⟩) hHeld ?_
          case hyib8 => (intro w hSw; have k := hne w; go_simp; try with_reducible rfl)
          simp only [Act.put, List.setIfInBounds_toArray, List.set_cons_zero, List.set_cons_succ, List.getElem_toArray, List.getElem_cons_zero, List.getElem_cons_succ]
          refine wpAnyH_done (by kernel_rfl) ?_ _
          refine NoPanic.normal ?_
          go_wp2_with fail
          go_ret
          exact ⟨ret_bool (by rw [HR.out]; rfl), xr.trans xd⟩
      · have e : i = l1.length := by omega
        subst e
        have hT : R = true := by rw [hR, List.drop_length, HN.out, List.drop_length]; rfl
        have HT := Lib.hid hT
        clear hT hR
        go_wp2_with fail
        go_ret
        exact ⟨ret_bool HT.out.symm, xr⟩
  · have hb : ((l1.length : Int) != (l2.length : Int)) = true := by rw [bne_iff_ne]; omega
    have hF := hR.symm.trans (listEq_len idEq l1 l2 hn)
    have HF := Lib.hid hF
    clear hF hR
    go_enter Tryz.func113, Tryz.ntmps113
    go_wp2_with fail
    go_ret
    exact ⟨ret_bool HF.out.symm, Ext.refl _⟩
end Go.Proofs.YtpadfabjihaapaaGreatDoor
