/- Backup: marks, views, peers as cells; the walks of server, viewed, primary, second, other. -/
import Derived.Test.YtkcddcomjbihgaaDoorReg
import Derived.Test.YtkcddcomjbihgaaDoorProg
import Derived.BigGuardPart
import Derived.Outline
import Derived.Laws.StructEq
namespace Go.Proofs.YtkcddcomjbihgaaDoor
open Go.RowKit
set_option linter.unusedVariables false
set_option linter.unusedSimpArgs false

/-- The cells of a block known whole. -/
theorem block_all {w : World} {g : Nat} {c : Array Value} {e : TypeId} {f : Nat × Nat} (h : w.heap[g]? = some (.cells c e f)) : ∀ i, w.cell? ⟨g, i, none⟩ = c[i]? := fun i => block_cell h i
abbrev Mk := Nat × Nat
structure Vw where
  n : Nat
  p : Int
  b : Int
def serverB (n : Int) : Bool := decide (1 ≤ n) && decide (n ≤ 3)
def viewedB (v : Vw) : Bool := decide (0 < v.n) && (serverB v.p && (v.b == 0 || (serverB v.b && v.b != v.p)))
def vwC (v : Vw) : List Value := [.int .u32 (v.n : Int), .int .i64 v.p, .int .i64 v.b]

/-- Are two marks the same? -/
def meq (a b : Mk) : Bool := decide (a = b)
def veq (a b : Vw) : Bool := (a.n == b.n && (a.p == b.p && a.b == b.b))
theorem meq_iff {a b : Mk} : meq a b = true ↔ a = b := by simp [meq]
theorem meq_parts (a b : Mk) : meq a b = (((a.1 : Int) == (b.1 : Int)) && ((a.2 : Int) == (b.2 : Int))) := by
  obtain ⟨x, y⟩ := a
  obtain ⟨z, u⟩ := b
  rw [Bool.eq_iff_iff]
  simp [meq]
  omega
theorem veq_parts (a b : Vw) : veq a b = (((a.n : Int) == (b.n : Int)) && ((a.p == b.p) && (a.b == b.b))) := by
  unfold veq
  congr 1
  rw [Bool.eq_iff_iff]
  simp
  omega
set_option maxRecDepth 100000 in
theorem mkEqlIn (w : World) (a b : Mk) : (Op.equalIn 10000 27 (.agg #[.int .u32 (a.1 : Int), .int .u32 (a.2 : Int)]) (.agg #[.int .u32 (b.1 : Int), .int .u32 (b.2 : Int)])).run Tryd.prog w = .ok (meq a b) w := by
  rw [show (10000 : Nat) = 9999 + 1 from rfl, run_equalIn_agg _ _ _ _ _ Tryd.underlying27 (by kernel_rfl)]
  simp only [Program.fieldsOf, Tryd.underlying27]
  rw [meq_parts]
  simp only [go_sem]
  by_cases c0 : (a.1 : Int) = (b.1 : Int)
  · have d0 : ((a.1 : Int) == (b.1 : Int)) = true := by simpa using c0
    by_cases c1 : (a.2 : Int) = (b.2 : Int)
    · have d1 : ((a.2 : Int) == (b.2 : Int)) = true := by simpa using c1
      simp [go_sem, d0, d1]
    · have d1 : ((a.2 : Int) == (b.2 : Int)) = false := by simpa using c1
      simp [go_sem, d0, d1]
  · have d0 : ((a.1 : Int) == (b.1 : Int)) = false := by simpa using c0
    simp [go_sem, d0]
theorem mkEql (w : World) (a b : Mk) : (binOp .eql 27 (.agg #[.int .u32 (a.1 : Int), .int .u32 (a.2 : Int)]) (.agg #[.int .u32 (b.1 : Int), .int .u32 (b.2 : Int)])).run Tryd.prog w = .ok (.bool (meq a b)) w := by
  rw [run_eql_struct, mkEqlIn]; rfl
theorem mkNeq (w : World) (a b : Mk) : (binOp .neq 27 (.agg #[.int .u32 (a.1 : Int), .int .u32 (a.2 : Int)]) (.agg #[.int .u32 (b.1 : Int), .int .u32 (b.2 : Int)])).run Tryd.prog w = .ok (.bool (!meq a b)) w := by
  rw [run_neq_struct, mkEqlIn]; rfl
set_option maxRecDepth 100000 in
theorem vwEqlIn (w : World) (a b : Vw) : (Op.equalIn 10000 44 (.agg #[.int .u32 (a.n : Int), .int .i64 a.p, .int .i64 a.b]) (.agg #[.int .u32 (b.n : Int), .int .i64 b.p, .int .i64 b.b])).run Tryd.prog w = .ok (veq a b) w := by
  rw [show (10000 : Nat) = 9999 + 1 from rfl, run_equalIn_agg _ _ _ _ _ Tryd.underlying44 (by kernel_rfl)]
  simp only [Program.fieldsOf, Tryd.underlying44]
  rw [veq_parts]
  simp only [go_sem]
  by_cases c0 : (a.n : Int) = (b.n : Int)
  · have d0 : ((a.n : Int) == (b.n : Int)) = true := by simpa using c0
    by_cases c1 : a.p = b.p
    · have d1 : (a.p == b.p) = true := by simpa using c1
      by_cases c2 : a.b = b.b
      · have d2 : (a.b == b.b) = true := by simpa using c2
        simp [go_sem, d0, d1, d2]
      · have d2 : (a.b == b.b) = false := by simpa using c2
        simp [go_sem, d0, d1, d2]
    · have d1 : (a.p == b.p) = false := by simpa using c1
      simp [go_sem, d0, d1]
  · have d0 : ((a.n : Int) == (b.n : Int)) = false := by simpa using c0
    simp [go_sem, d0]
theorem vwEql (w : World) (a b : Vw) : (binOp .eql 44 (.agg #[.int .u32 (a.n : Int), .int .i64 a.p, .int .i64 a.b]) (.agg #[.int .u32 (b.n : Int), .int .i64 b.p, .int .i64 b.b])).run Tryd.prog w = .ok (.bool (veq a b)) w := by
  rw [run_eql_struct, vwEqlIn]; rfl
theorem vwNeq (w : World) (a b : Vw) : (binOp .neq 44 (.agg #[.int .u32 (a.n : Int), .int .i64 a.p, .int .i64 a.b]) (.agg #[.int .u32 (b.n : Int), .int .i64 b.p, .int .i64 b.b])).run Tryd.prog w = .ok (.bool (!veq a b)) w := by
  rw [run_neq_struct, vwEqlIn]; rfl
theorem mkField0 (w : World) (m : Mk) : (Instr.field 27 (.agg #[.int .u32 (m.1 : Int), .int .u32 (m.2 : Int)]) 0).run Tryd.prog w = .ok (.int .u32 (m.1 : Int)) w := by kernel_rfl
theorem mkField1 (w : World) (m : Mk) : (Instr.field 27 (.agg #[.int .u32 (m.1 : Int), .int .u32 (m.2 : Int)]) 1).run Tryd.prog w = .ok (.int .u32 (m.2 : Int)) w := by kernel_rfl
def m0 : Mk := (0, 0)
def v0 : Vw := ⟨0, 0, 0⟩
theorem mkEql0 (w : World) (a : Mk) : (binOp .eql 27 (.agg #[.int .u32 (a.1 : Int), .int .u32 (a.2 : Int)]) (.agg #[.int .u32 0, .int .u32 0])).run Tryd.prog w = .ok (.bool (meq a m0)) w := mkEql w a m0
theorem mkNeq0 (w : World) (a : Mk) : (binOp .neq 27 (.agg #[.int .u32 (a.1 : Int), .int .u32 (a.2 : Int)]) (.agg #[.int .u32 0, .int .u32 0])).run Tryd.prog w = .ok (.bool (!meq a m0)) w := mkNeq w a m0
theorem vwEql0 (w : World) (a : Vw) : (binOp .eql 44 (.agg #[.int .u32 (a.n : Int), .int .i64 a.p, .int .i64 a.b]) (.agg #[.int .u32 0, .int .i64 0, .int .i64 0])).run Tryd.prog w = .ok (.bool (veq a v0)) w := vwEql w a v0
theorem vwNeq0 (w : World) (a : Vw) : (binOp .neq 44 (.agg #[.int .u32 (a.n : Int), .int .i64 a.p, .int .i64 a.b]) (.agg #[.int .u32 0, .int .i64 0, .int .i64 0])).run Tryd.prog w = .ok (.bool (!veq a v0)) w := vwNeq w a v0

set_option maxHeartbeats 400000 in
theorem bkServer (w : World) (n : Int) :
    Calls Tryd.prog 65 #[.int .i64 n] w fun e w' => e = .returned (.bool (serverB n)) ∧ w = w' := by
  generalize hR : serverB n = R
  have HR := Lib.hid hR
  clear hR
  go_enter Tryd.func65, Tryd.ntmps65
  go_wp2
  all_goals
    go_ret
    exact ⟨ret_bool (by rw [← HR.out]; simp [serverB, *]; try omega), rfl⟩
set_option maxHeartbeats 400000 in
theorem bkViewed (w : World) (v : Vw) :
    Calls Tryd.prog 59 #[.agg #[.int .u32 (v.n : Int), .int .i64 v.p, .int .i64 v.b]] w fun e w' => e = .returned (.bool (viewedB v)) ∧ Ext w w' := by
  generalize hR : viewedB v = R
  have HR := Lib.hid hR
  clear hR
  go_enter Tryd.func59, Tryd.ntmps59
  go_wp2_with (first | (go_at_call 65; refine (bkServer _ _).mono ?_; rintro e w1 ⟨rfl, rfl⟩))
  all_goals
    go_ret
    exact ⟨ret_bool (by rw [← HR.out]; simp [viewedB, *]), (Ext.refl w).alloc _⟩
structure LgE where
  m : Mk
  b : List UInt8
structure Pr where
  me : Int
  v : Vw
  base : Mk
  log : List LgE
  known : Bool
  joined : Bool
  instep : Bool
  acked : Nat
/-- Where an entry's bytes lie, and their capacity. -/
abbrev Hd := Option Addr × Nat
def lgV (e : LgE) (u : Hd) : List Value := [.int .u32 (e.m.1 : Int), .int .u32 (e.m.2 : Int), .slice u.1 e.b.length u.2]
def lgCs : List LgE → List Hd → List Value
  | e :: l, u :: us => lgV e u ++ lgCs l us
  | _, _ => []
def mkOk (m : Mk) : Prop := m.1 < 4294967296 ∧ m.2 < 4294967296
def i64Ok (z : Int) : Prop := -9223372036854775808 ≤ z ∧ z ≤ 9223372036854775807
/-- A row of entries: each in three cells, its bytes somewhere. -/
structure IsLgU (w : World) (v : Value) (l : List LgE) (us : List Hd) : Prop where
  len : us.length = l.length
  sl : IsSl w v 3 l.length (lgCs l us)
  bs : ∀ i (h : i < l.length) u, us[i]? = some u → IsB w (.slice u.1 l[i].b.length u.2) l[i].b
def lgOk (e : LgE) : Prop := mkOk e.m ∧ e.b.length ≤ 140737488355328
structure IsLg (w : World) (v : Value) (l : List LgE) : Prop where
  ok : ∀ e ∈ l, lgOk e
  form : ∃ us : List Hd, IsLgU w v l us
theorem lgCs_len : ∀ (l : List LgE) (us : List Hd), us.length = l.length → (lgCs l us).length = l.length * 3
  | [], [], _ => rfl
  | e :: l, u :: us, h => by
    rw [lgCs, List.length_append, lgCs_len l us (by simpa using h), List.length_cons]
    simp [lgV]
    omega
theorem lgCs_get : ∀ (l : List LgE) (us : List Hd) (i : Nat) (hi : i < l.length) (hu : i < us.length), (lgCs l us)[i * 3]? = some (.int .u32 (l[i].m.1 : Int)) ∧ (lgCs l us)[i * 3 + 1]? = some (.int .u32 (l[i].m.2 : Int)) ∧ (lgCs l us)[i * 3 + 2]? = some (.slice us[i].1 l[i].b.length us[i].2)
  | e :: l, u :: us, 0, _, _ => by simp [lgCs, lgV]
  | e :: l, u :: us, i + 1, hi, hu => by
    have h := lgCs_get l us i (by simpa using hi) (by simpa using hu)
    rw [show (i + 1) * 3 = i * 3 + 3 from by omega]
    simpa [lgCs, lgV] using h
theorem IsLgU.ext {w w' : World} {v : Value} {l : List LgE} {us : List Hd} (h : IsLgU w v l us) (k : Ext w w') : IsLgU w' v l us :=
  ⟨h.len, h.sl.ext k, fun i hi u hu => (h.bs i hi u hu).ext k⟩
theorem IsLg.ext {w w' : World} {v : Value} {l : List LgE} (h : IsLg w v l) (k : Ext w w') : IsLg w' v l := by
  obtain ⟨ok, us, h1⟩ := h
  exact ⟨ok, us, h1.ext k⟩
theorem IsLg.nil (w : World) : IsLg w (.slice none 0 0) [] := ⟨by simp, [], ⟨rfl, IsSl.nil w 3, fun i hi => absurd hi (Nat.not_lt_zero _)⟩⟩
/-- What a walk wants of it. -/
theorem IsLgU.opened {w : World} {v : Value} {l : List LgE} {us : List Hd} (h : IsLgU w v l us) :
    ∃ ao cap, v = .slice ao l.length cap ∧ l.length ≤ cap ∧ cap ≤ 9223372036854775807 ∧ (ao = none → cap = 0) ∧
      ∀ i (hi : i < l.length) (hu : i < us.length), ∃ b off, ao = some ⟨b, off, none⟩ ∧ w.cell? ⟨b, off + i * 3, none⟩ = some (.int .u32 (l[i].m.1 : Int)) ∧ w.cell? ⟨b, off + i * 3 + 1, none⟩ = some (.int .u32 (l[i].m.2 : Int)) ∧ w.cell? ⟨b, off + i * 3 + 2, none⟩ = some (.slice us[i].1 l[i].b.length us[i].2) := by
  obtain ⟨hus, ⟨_, ao, cap, e, h2, h3, h4, h5⟩, hb⟩ := h
  refine ⟨ao, cap, e, h2, h3, h4, fun i hi hu => ?_⟩
  have hl := lgCs_len l us hus
  obtain ⟨g0, g1, g2⟩ := lgCs_get l us i hi (by omega)
  obtain ⟨b, off, e0, c0⟩ := h5 (i * 3) (by omega)
  obtain ⟨b1, off1, e1, c1⟩ := h5 (i * 3 + 1) (by omega)
  obtain ⟨b2, off2, e2, c2⟩ := h5 (i * 3 + 2) (by omega)
  rw [e0] at e1 e2
  simp only [Option.some.injEq, Addr.mk.injEq, and_true] at e1 e2
  obtain ⟨rfl, rfl⟩ := e1
  obtain ⟨rfl, rfl⟩ := e2
  exact ⟨b, off, e0, c0.trans g0, by rw [Nat.add_assoc, c1, g1], by rw [Nat.add_assoc, c2, g2]⟩
theorem IsLg.opened {w : World} {v : Value} {l : List LgE} (h : IsLg w v l) :
    ∃ ao cap, v = .slice ao l.length cap ∧ l.length ≤ cap ∧ cap ≤ 9223372036854775807 ∧ (ao = none → cap = 0) ∧
      ∀ i (hi : i < l.length), ∃ b off u, ao = some ⟨b, off, none⟩ ∧ w.cell? ⟨b, off + i * 3, none⟩ = some (.int .u32 (l[i].m.1 : Int)) ∧ w.cell? ⟨b, off + i * 3 + 1, none⟩ = some (.int .u32 (l[i].m.2 : Int)) ∧ w.cell? ⟨b, off + i * 3 + 2, none⟩ = some u ∧ IsB w u l[i].b := by
  obtain ⟨ok, us, hus⟩ := h
  obtain ⟨ao, cap, e, h2, h3, h4, h5⟩ := hus.opened
  refine ⟨ao, cap, e, h2, h3, h4, fun i hi => ?_⟩
  have hu : i < us.length := by rw [hus.len]; exact hi
  obtain ⟨b, off, e0, c0, c1, c2⟩ := h5 i hi hu
  exact ⟨b, off, _, e0, c0, c1, c2, hus.bs i hi _ (List.getElem?_eq_getElem _)⟩
/-- What lay in w lies in w' as well. -/
def Agree (w w' : World) : Prop := ∀ b, b < w.heap.size → w'.heap[b]? = w.heap[b]?
theorem Agree.of_ext {w w' : World} (h : Ext w w') : Agree w w' := fun b hb => h.block hb
theorem Agree.cell {w w' : World} (h : Agree w w') {p : Addr} {v : Value} (hp : w.cell? p = some v) : w'.cell? p = some v := by
  have hb := World.block_lt_of_cell? _ _ hp
  rw [← hp]
  unfold World.cell?
  rw [h _ hb]
theorem Agree.refl (w : World) : Agree w w := fun _ _ => rfl
theorem Agree.step {w w' w'' : World} (h : Agree w w') (k : ∀ b, b < w.heap.size → w''.heap[b]? = w'.heap[b]?) : Agree w w'' := fun b hb => (k b hb).trans (h b hb)
theorem Agree.ext {w w' w'' : World} (h : Agree w w') (k : Ext w' w'') (hs : w.heap.size ≤ w'.heap.size) : Agree w w'' := h.step fun b hb => k.block (by omega)
theorem Agree.lt {w w' : World} (h : Agree w w') {b : Nat} (hb : b < w.heap.size) : b < w'.heap.size := by
  have := h b hb
  rw [Array.getElem?_eq_getElem hb] at this
  exact block_lt this
theorem Agree.set {w w' : World} (h : Agree w w') {g i : Nat} {u : Value} (hg : w.heap.size ≤ g) : Agree w (w'.setCell ⟨g, i, none⟩ u) :=
  h.step fun b hb => (grown_setCell w' g i u).block b (h.lt hb) (by simp; omega)
theorem IsSl.agree {w w' : World} {v : Value} {size n : Nat} {xs : List Value} (h : IsSl w v size n xs) (k : Agree w w') : IsSl w' v size n xs := by
  obtain ⟨h1, ao, cap, e, h2, h3, h4, h5⟩ := h
  refine ⟨h1, ao, cap, e, h2, h3, h4, fun i hi => ?_⟩
  obtain ⟨b, off, e1, e2⟩ := h5 i hi
  refine ⟨b, off, e1, ?_⟩
  rw [List.getElem?_eq_getElem hi] at e2 ⊢
  exact k.cell e2
theorem IsB.agree {w w' : World} {v : Value} {l : List UInt8} (h : IsB w v l) (k : Agree w w') : IsB w' v l := IsSl.agree h k
theorem IsLgU.agree {w w' : World} {v : Value} {l : List LgE} {us : List Hd} (h : IsLgU w v l us) (k : Agree w w') : IsLgU w' v l us :=
  ⟨h.len, h.sl.agree k, fun i hi u hu => (h.bs i hi u hu).agree k⟩
theorem IsLg.agree {w w' : World} {v : Value} {l : List LgE} (h : IsLg w v l) (k : Agree w w') : IsLg w' v l := ⟨h.ok, h.form.elim fun us hu => ⟨us, hu.agree k⟩⟩
/-- A peer's bounds. -/
structure PrOk (p : Pr) : Prop where
  me : i64Ok p.me
  vn : p.v.n < 4294967296
  vp : i64Ok p.v.p
  vb : i64Ok p.v.b
  base : mkOk p.base
  acked : p.acked < 4294967296
def primB (p : Pr) : Bool := decide (0 < p.v.n) && p.me == p.v.p
def secB (p : Pr) : Bool := decide (0 < p.v.n) && p.me == p.v.b
def otherI (p : Pr) : Int := if primB p = true then p.v.b else if secB p = true then p.v.p else 0
def lastM (p : Pr) : Mk := (p.log.getLast?.map (·.m)).getD p.base
set_option maxHeartbeats 400000 in
theorem bkPrimary (w : World) (vl : Value) (p : Pr) :
    Calls Tryd.prog 55 #[.agg #[.int .i64 p.me, .int .u32 (p.v.n : Int), .int .i64 p.v.p, .int .i64 p.v.b, .int .u32 (p.base.1 : Int), .int .u32 (p.base.2 : Int), vl, .bool p.known, .bool p.joined, .bool p.instep, .int .u32 (p.acked : Int)]] w fun e w' => e = .returned (.bool (primB p)) ∧ Ext w w' := by
  generalize hR : primB p = R
  have HR := Lib.hid hR
  clear hR
  go_enter Tryd.func55, Tryd.ntmps55
  go_wp2
  all_goals
    go_ret
    exact ⟨ret_bool (by rw [← HR.out]; simp [primB, *]), (Ext.refl w).alloc _⟩
set_option maxHeartbeats 400000 in
theorem bkSecond (w : World) (vl : Value) (p : Pr) :
    Calls Tryd.prog 60 #[.agg #[.int .i64 p.me, .int .u32 (p.v.n : Int), .int .i64 p.v.p, .int .i64 p.v.b, .int .u32 (p.base.1 : Int), .int .u32 (p.base.2 : Int), vl, .bool p.known, .bool p.joined, .bool p.instep, .int .u32 (p.acked : Int)]] w fun e w' => e = .returned (.bool (secB p)) ∧ Ext w w' := by
  generalize hR : secB p = R
  have HR := Lib.hid hR
  clear hR
  go_enter Tryd.func60, Tryd.ntmps60
  go_wp2
  all_goals
    go_ret
    exact ⟨ret_bool (by rw [← HR.out]; simp [secB, *]), (Ext.refl w).alloc _⟩
set_option maxHeartbeats 400000 in
theorem bkOther (w : World) (vl : Value) (p : Pr) :
    Calls Tryd.prog 76 #[.agg #[.int .i64 p.me, .int .u32 (p.v.n : Int), .int .i64 p.v.p, .int .i64 p.v.b, .int .u32 (p.base.1 : Int), .int .u32 (p.base.2 : Int), vl, .bool p.known, .bool p.joined, .bool p.instep, .int .u32 (p.acked : Int)]] w fun e w' => e = .returned (.int .i64 (otherI p)) ∧ Ext w w' := by
  generalize hR : otherI p = R
  have HR := Lib.hid hR
  clear hR
  have X := (Ext.refl w).alloc (.cells #[.int .i64 p.me, .int .u32 (p.v.n : Int), .int .i64 p.v.p, .int .i64 p.v.b, .int .u32 (p.base.1 : Int), .int .u32 (p.base.2 : Int), vl, .bool p.known, .bool p.joined, .bool p.instep, .int .u32 (p.acked : Int)] 47)
  have hb := heap_alloc_new w (.cells #[.int .i64 p.me, .int .u32 (p.v.n : Int), .int .i64 p.v.p, .int .i64 p.v.b, .int .u32 (p.base.1 : Int), .int .u32 (p.base.2 : Int), vl, .bool p.known, .bool p.joined, .bool p.instep, .int .u32 (p.acked : Int)] 47)
  go_enter Tryd.func76, Tryd.ntmps76
  go_wp2_with fail
  refine (bkPrimary _ vl p).mono ?_
  rintro e w1 ⟨rfl, x1⟩
  have X := X.trans x1
  have hb := x1.keeps hb
  have hc := block_all hb
  go_wp2_with (first | ((go_at_call 60; go_must (skip)); refine (bkSecond _ vl p).mono ?_; rintro e w2 ⟨rfl, x2⟩; have X := X.trans x2; have hb := x2.keeps hb; have hc := block_all hb))
  all_goals
    go_ret
    exact ⟨ret_int (by rw [← HR.out]; simp [otherI, *]), X⟩
theorem last_nil {p : Pr} (h : p.log.length = 0) : lastM p = p.base := by
  have : p.log = [] := List.eq_nil_of_length_eq_zero h
  simp [lastM, this]
theorem last_at {p : Pr} (h : 0 < p.log.length) : lastM p = (p.log[p.log.length - 1]'(by omega)).m := by
  unfold lastM
  rw [List.getLast?_eq_getElem?, List.getElem?_eq_getElem (by omega)]
  rfl
set_option maxHeartbeats 400000 in
theorem bkLast (w : World) (vl : Value) (p : Pr) (h : IsLg w vl p.log) :
    Calls Tryd.prog 54 #[.agg #[.int .i64 p.me, .int .u32 (p.v.n : Int), .int .i64 p.v.p, .int .i64 p.v.b, .int .u32 (p.base.1 : Int), .int .u32 (p.base.2 : Int), vl, .bool p.known, .bool p.joined, .bool p.instep, .int .u32 (p.acked : Int)]] w fun e w' => e = .returned (.agg #[.int .u32 ((lastM p).1 : Int), .int .u32 ((lastM p).2 : Int)]) ∧ Ext w w' := by
  obtain ⟨ao, cap, rfl, b1, m1, z1, g1⟩ := h.opened
  by_cases h0 : p.log.length = 0
  · have hl := last_nil h0
    rw [hl]
    clear g1 h hl
    go_enter Tryd.func54, Tryd.ntmps54
    go_wp2_with fail
    exact bodyPost_ret (v := .agg #[.int .u32 (p.base.1 : Int), .int .u32 (p.base.2 : Int)]) (by simp [results, Tryd.results54, go_sem]) rfl ⟨rfl, ((Ext.refl w).alloc _).alloc _⟩
  · have hl := last_at (p := p) (by omega)
    obtain ⟨pb, o, u, rfl, e0, e1, e2, e3⟩ := g1 (p.log.length - 1) (by omega)
    rw [hl]
    generalize p.log[p.log.length - 1] = x at *
    have hlt := World.block_lt_of_cell? _ _ e0
    simp only at hlt
    clear hl h g1 e3 z1
    have hne : ((p.log.length : Int) == 0) = false := by rw [beq_eq_false_iff_ne]; omega
    go_enter Tryd.func54, Tryd.ntmps54
    go_wp2_with fail
    exact bodyPost_ret (v := .agg #[.int .u32 (x.m.1 : Int), .int .u32 (x.m.2 : Int)]) (by simp [results, Tryd.results54, go_sem]) rfl ⟨rfl, ((Ext.refl w).alloc _).alloc _⟩
end Go.Proofs.YtkcddcomjbihgaaDoor
