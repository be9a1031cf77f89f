/- A branch built. -/
import Derived.Test.YtglcjdiejnennaaGreatDoorRfG
namespace Go.Proofs.YtglcjdiejnennaaGreatDoor
open Go.RowKit
set_option linter.unusedVariables false
set_option linter.unusedSimpArgs false

theorem fold_from (o : Nat) : ∀ (L : List Value) (k : Nat) (A : Array Value), (L.zipIdx k).foldl (fun cs x => cs.setIfInBounds (o + x.2) x.1) A = setFrom A (o + k) L
  | [], _, _ => rfl
  | v :: r, k, A => by
    rw [List.zipIdx_cons, List.foldl_cons, setFrom]
    exact fold_from o r (k + 1) _
set_option maxRecDepth 1000000 in
theorem places_rf : (match Tryz.prog.underlying 78 with | some (.struct fs) => fs.toList.mapM (fun f => (Tryz.prog.info? f.type).map fun i => (f.offset, i.size)) | _ => none) = some [(0, 1), (1, 32)] := by kernel_rfl
theorem built_rf (nm : ByteArray) (id : List UInt8) (h : id.length = 32) : Tryz.prog.built 78 [(0, .string nm), (1, .agg (id.map bc).toArray)] = some (rfC ⟨nm, id⟩).toArray := by
  have h1 := places_rf
  have h2 := infoRf
  unfold Program.built
  cases hi : Tryz.prog.info? 78 with
  | none => rw [hi] at h2; simp at h2
  | some it =>
    rw [hi] at h2
    simp only [Option.map_some, Option.some.injEq, Prod.mk.injEq] at h2
    cases hz : it.zero with
    | none => rw [hz] at h2; simp at h2
    | some z =>
      rw [hz] at h2
      simp only [Option.map_some, Option.some.injEq] at h2
      cases hu : Tryz.prog.underlying 78 with
      | none => rw [hu] at h1; simp at h1
      | some d =>
        rw [hu] at h1
        cases d <;> try (simp at h1; done)
        case struct fs =>
          have h1 : fs.toList.mapM (fun f => (Tryz.prog.info? f.type).map fun i => (f.offset, i.size)) = some [(0, 1), (1, 32)] := h1
          simp only [h1, hz]
          obtain ⟨z0, zs, hzs⟩ : ∃ z0 zs, z.cells.toList = z0 :: zs := by
            cases hq : z.cells.toList with
            | nil => have := congrArg List.length hq; rw [Array.length_toList, h2.1] at this; simp at this
            | cons a b => exact ⟨a, b, rfl⟩
          have hl : zs.length = 32 := by
            have := congrArg List.length hzs
            rw [Array.length_toList, h2.1, List.length_cons] at this
            omega
          have hzc : z.cells = (z0 :: zs).toArray := by rw [← hzs]
          rw [hzc]
          have key := setFrom_mid (id.map bc) zs [.string nm] [] (by simp [hl, h])
          have key2 := fold_from 1 (id.map bc) 0 (#[Value.string nm] ++ zs.toArray)
          simp [Instr.fill, Value.cells, h] at key key2 ⊢
          exact ⟨by omega, key2.trans key⟩
/-- A guard: the next operation is that build. -/
theorem at_bld (t : TypeId) (x y : Operand) {P : Program} {ops : Array Oper} {rest : List Oper} {dst : Option Tmp} {ty : TypeId} {pos : String} {after : Array Edge} {gd : Option (Nat × Bool)} {a : Act} {w : World} {Q : Exit → Act → World → Prop}
    (h : wpList P ops Q ({ dst := dst, op := .build t #[(0, x), (1, y)], type := ty, pos := pos, after := after, guard := gd } :: rest) a w) : wpList P ops Q ({ dst := dst, op := .build t #[(0, x), (1, y)], type := ty, pos := pos, after := after, guard := gd } :: rest) a w := h
theorem wpl_bld {P : Program} {ops : Array Oper} {rest : List Oper} {o : Oper} {a : Act} {w : World} {Q : Exit → Act → World → Prop} (hgd : Region.wanted o (yielded ops a.tmps) = true) (t : TypeId) (x y : Operand) (ho : o.op = .build t #[(0, x), (1, y)])
    (u v : Value) (hx : a.eval x = u) (hy : a.eval y = v) (cs : Array Value) (hc : P.built t [(0, u), (1, v)] = some cs) (h : wpList P ops Q rest (a.put o.dst (.agg cs)) w) : wpList P ops Q (o :: rest) a w :=
  wpList_wanted hgd fun K hK => by
    have hc' : P.built t (#[(0, x), (1, y)].map fun (i, z) => (i, a.eval z)).toList = some cs := by simpa [hx, hy] using hc
    refine wp_build t _ ho (by rw [hc']; rfl) ?_
    rw [hc']
    exact hK _ _ h
theorem at_build1 (t : TypeId) (x : Operand) {ops : Array Oper} {rest : List Oper} {dst : Option Tmp} {ty : TypeId} {pos : String} {after : Array Edge} {gd : Option (Nat × Bool)} {a : Act} {w : World} {P : Program} {Q : Exit → Act → World → Prop}
    (h : wpList P ops Q ({ dst := dst, op := .buildSlice t 1 #[(0, x)], type := ty, pos := pos, after := after, guard := gd } :: rest) a w) : wpList P ops Q ({ dst := dst, op := .buildSlice t 1 #[(0, x)], type := ty, pos := pos, after := after, guard := gd } :: rest) a w := h
theorem wpl_buildOne {P : Program} {ops : Array Oper} {rest : List Oper} {o : Oper} {a : Act} {w : World} {Q' : Exit → Act → World → Prop} (hgd : Region.wanted o (yielded ops a.tmps) = true) (t : TypeId) (x : Operand) (ho : o.op = .buildSlice t 1 #[(0, x)]) (Q : List Value) (hx : a.eval x = .agg Q.toArray)
    {v : Value} {w' : World} (hr : (Instr.buildSlice t 1 #[(0, .agg Q.toArray)]).run P w = .ok v w') (h : wpList P ops Q' rest (a.put o.dst v) w') : wpList P ops Q' (o :: rest) a w :=
  wpList_wanted hgd fun K hK => wp_buildOne t x ho Q hx hr (hK _ _ h)
theorem build_rf (w : World) (e : Rf) (h : RfOk e) : (Instr.buildSlice 61 1 #[(0, .agg (rfC e).toArray)]).run Tryz.prog w = .ok (.slice (some ⟨w.heap.size, 0, none⟩) 1 1) (w.alloc (.cells (rfC e).toArray 78)) :=
  build_one w _ _ 33 Tryz.underlying61 infoRf (by omega) (by omega) (rfC e) (rfC_len h)
end Go.Proofs.YtglcjdiejnennaaGreatDoor
