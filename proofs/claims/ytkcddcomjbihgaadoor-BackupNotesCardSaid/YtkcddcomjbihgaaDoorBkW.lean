/- Backup: how arguments of the layer's types read. -/
import Derived.Test.YtkcddcomjbihgaaDoorOpn
import Derived.Test.YtkcddcomjbihgaaDoorBkU
namespace Go.Proofs.YtkcddcomjbihgaaDoor
open Go.RowKit Go.Deep Go.ChangeShapes Go.WideShapes
set_option linter.unusedVariables false
set_option linter.unusedSimpArgs false

section
variable {H : Type} {enc : TypeId × Value → H} {w : World}
set_option maxRecDepth 100000 in
theorem opens_mark : Opens enc Tryd.prog w 27 (fun cs => ∃ m : Mk, cs = [.int .u32 (m.1 : Int), .int .u32 (m.2 : Int)] ∧ mkOk m) := by
  refine (opens_struct Tryd.underlying27 2 (by kernel_rfl)
    [fun cs => ∃ z : Nat, cs = [.int .u32 (z : Int)] ∧ z < 4294967296, fun cs => ∃ z : Nat, cs = [.int .u32 (z : Int)] ∧ z < 4294967296] rfl ?_).mono ?_
  · intro i f hf ok hok
    match i with
    | 0 => cases hf; cases hok; exact opens_u32 Tryd.underlying25
    | 1 => cases hf; cases hok; exact opens_u32 Tryd.underlying25
    | i + 2 => cases hok
  · rintro cs ⟨hl, h⟩
    obtain ⟨x, e0, hx⟩ := h 0 _ rfl _ rfl
    obtain ⟨y, e1, hy⟩ := h 1 _ rfl _ rfl
    have a2 : cs.drop (1 + 1) = [] := List.drop_eq_nil_of_le (by omega)
    have a1 := cut_at 1 1 a2
    have a0 := cut_at 0 1 a1
    rw [List.drop_zero] at a0
    refine ⟨(x, y), ?_, ⟨hx, hy⟩⟩
    rw [a0]
    exact congr (congrArg _ e0) (congr (congrArg _ e1) rfl) |>.trans (by simp)
set_option maxRecDepth 100000 in
theorem opens_view : Opens enc Tryd.prog w 44 (fun cs => ∃ v : Vw, cs = vwC v ∧ v.n < 4294967296 ∧ i64Ok v.p ∧ i64Ok v.b) := by
  refine (opens_struct Tryd.underlying44 3 (by kernel_rfl)
    [fun cs => ∃ z : Nat, cs = [.int .u32 (z : Int)] ∧ z < 4294967296, fun cs => ∃ z, cs = [.int .i64 z] ∧ -9223372036854775808 ≤ z ∧ z ≤ 9223372036854775807,
     fun cs => ∃ z, cs = [.int .i64 z] ∧ -9223372036854775808 ≤ z ∧ z ≤ 9223372036854775807] rfl ?_).mono ?_
  · intro i f hf ok hok
    match i with
    | 0 => cases hf; cases hok; exact opens_u32 Tryd.underlying25
    | 1 => cases hf; cases hok; exact opens_i64 Tryd.underlying3
    | 2 => cases hf; cases hok; exact opens_i64 Tryd.underlying3
    | i + 3 => cases hok
  · rintro cs ⟨hl, h⟩
    obtain ⟨x, e0, hx⟩ := h 0 _ rfl _ rfl
    obtain ⟨y, e1, hy⟩ := h 1 _ rfl _ rfl
    obtain ⟨z, e2, hz⟩ := h 2 _ rfl _ rfl
    have a3 : cs.drop (2 + 1) = [] := List.drop_eq_nil_of_le (by omega)
    have a2 := cut_at 2 1 a3
    have a1 := cut_at 1 1 a2
    have a0 := cut_at 0 1 a1
    rw [List.drop_zero] at a0
    refine ⟨⟨x, y, z⟩, ?_, hx, hy, hz⟩
    rw [a0]
    exact congr (congrArg _ e0) (congr (congrArg _ e1) (congr (congrArg _ e2) rfl)) |>.trans (by simp [vwC])
set_option maxRecDepth 100000 in
theorem opens_note : Opens enc Tryd.prog w 30 (fun cs => ∃ (vb : Value) (n : Nt), cs = (#[.int .i64 n.kind, .int .u32 (n.view : Int), .int .u32 (n.mark.1 : Int), .int .u32 (n.mark.2 : Int), .int .u32 (n.prev.1 : Int), .int .u32 (n.prev.2 : Int), vb] : Array Value).toList ∧ NtOk n ∧ IsB w vb n.bytes ∧ n.bytes.length ≤ 140737488351232) := by
  refine (opens_struct Tryd.underlying30 7 (by kernel_rfl)
    [fun cs => ∃ z, cs = [.int .i64 z] ∧ -9223372036854775808 ≤ z ∧ z ≤ 9223372036854775807, fun cs => ∃ z : Nat, cs = [.int .u32 (z : Int)] ∧ z < 4294967296,
     fun cs => ∃ m : Mk, cs = [.int .u32 (m.1 : Int), .int .u32 (m.2 : Int)] ∧ mkOk m, fun cs => ∃ m : Mk, cs = [.int .u32 (m.1 : Int), .int .u32 (m.2 : Int)] ∧ mkOk m,
     fun cs => ∃ (v : Value) (l : List UInt8), cs = [v] ∧ IsB w v l ∧ l.length ≤ 140737488351232] rfl ?_).mono ?_
  · intro i f hf ok hok
    match i with
    | 0 => cases hf; cases hok; exact opens_i64 Tryd.underlying3
    | 1 => cases hf; cases hok; exact opens_u32 Tryd.underlying25
    | 2 => cases hf; cases hok; exact opens_mark
    | 3 => cases hf; cases hok; exact opens_mark
    | 4 => cases hf; cases hok; exact opens_bytes Tryd.underlying28 Tryd.underlying5 (by kernel_rfl) (by kernel_rfl)
    | i + 5 => cases hok
  · rintro cs ⟨hl, h⟩
    obtain ⟨k, e0, hk⟩ := h 0 _ rfl _ rfl
    obtain ⟨v, e1, hv⟩ := h 1 _ rfl _ rfl
    obtain ⟨m, e2, hm⟩ := h 2 _ rfl _ rfl
    obtain ⟨p, e3, hp⟩ := h 3 _ rfl _ rfl
    obtain ⟨vb, b, e4, hb, lb⟩ := h 4 _ rfl _ rfl
    have a5 : cs.drop (6 + 1) = [] := List.drop_eq_nil_of_le (by omega)
    have a4 := cut_at 6 1 a5
    have a3 := cut_at 4 2 a4
    have a2 := cut_at 2 2 a3
    have a1 := cut_at 1 1 a2
    have a0 := cut_at 0 1 a1
    rw [List.drop_zero] at a0
    refine ⟨vb, ⟨k, v, m, p, b⟩, ?_, ⟨hk, hv, hm, hp⟩, hb, lb⟩
    rw [a0]
    exact congr (congrArg _ e0) (congr (congrArg _ e1) (congr (congrArg _ e2) (congr (congrArg _ e3) (congr (congrArg _ e4) rfl)))) |>.trans (by simp)
abbrev LgX := LgE × Hd
def lgxOk (w : World) (x : LgX) : Prop := lgOk x.1 ∧ IsB w (.slice x.2.1 x.1.b.length x.2.2) x.1.b
set_option maxRecDepth 100000 in
theorem opens_logged : Opens enc Tryd.prog w 108 (fun cs => ∃ x : LgX, cs = lgV x.1 x.2 ∧ (lgV x.1 x.2).length = 3 ∧ lgxOk w x) := by
  refine (opens_struct Tryd.underlying108 3 (by kernel_rfl)
    [fun cs => ∃ m : Mk, cs = [.int .u32 (m.1 : Int), .int .u32 (m.2 : Int)] ∧ mkOk m, fun cs => ∃ (v : Value) (l : List UInt8), cs = [v] ∧ IsB w v l ∧ l.length ≤ 140737488351232] rfl ?_).mono ?_
  · intro i f hf ok hok
    match i with
    | 0 => cases hf; cases hok; exact opens_mark
    | 1 => cases hf; cases hok; exact opens_bytes Tryd.underlying28 Tryd.underlying5 (by kernel_rfl) (by kernel_rfl)
    | i + 2 => cases hok
  · rintro cs ⟨hl, h⟩
    obtain ⟨m, e0, hm⟩ := h 0 _ rfl _ rfl
    obtain ⟨vb, b, e1, hb, lb⟩ := h 1 _ rfl _ rfl
    obtain ⟨ao, cap, rfl, -⟩ := hb.opened
    have a2 : cs.drop (2 + 1) = [] := List.drop_eq_nil_of_le (by omega)
    have a1 := cut_at 2 1 a2
    have a0 := cut_at 0 2 a1
    rw [List.drop_zero] at a0
    refine ⟨(⟨m, b⟩, (ao, cap)), ?_, rfl, ⟨⟨hm, Nat.le_trans lb (by omega)⟩, hb⟩⟩
    rw [a0]
    exact congr (congrArg _ e0) (congr (congrArg _ e1) rfl) |>.trans (by simp [lgV])
theorem lgCs_flat : ∀ xs : List LgX, lgCs (xs.map (·.1)) (xs.map (·.2)) = xs.flatMap (fun x => lgV x.1 x.2)
  | [] => rfl
  | x :: xs => by rw [List.map_cons, List.map_cons, lgCs, lgCs_flat xs, List.flatMap_cons]
theorem lg_of_flat {v : Value} {xs : List LgX} (h : IsSl w v 3 xs.length (xs.flatMap (fun x => lgV x.1 x.2))) (ok : ∀ x ∈ xs, lgxOk w x) : (∀ e ∈ xs.map (·.1), lgOk e) ∧ IsLgU w v (xs.map (·.1)) (xs.map (·.2)) := by
  refine ⟨?_, ⟨by simp, ?_, ?_⟩⟩
  · intro e he
    obtain ⟨x, hx, rfl⟩ := List.mem_map.1 he
    exact (ok x hx).1
  · rw [lgCs_flat, List.length_map]
    exact h
  · intro i hi u hu
    have hi' : i < xs.length := by simpa using hi
    rw [List.getElem?_map, List.getElem?_eq_getElem hi'] at hu
    obtain rfl := Option.some.inj hu
    simp only [List.getElem_map]
    exact (ok _ (List.getElem_mem hi')).2
theorem opens_logs : Opens enc Tryd.prog w 45 (fun cs => ∃ (v : Value) (l : List LgE) (us : List Hd), cs = [v] ∧ (∀ e ∈ l, lgOk e) ∧ IsLgU w v l us ∧ l.length * 32 ≤ 140737488351232) :=
  (opens_slice 3 32 (fun x : LgX => lgV x.1 x.2) (lgxOk w) Tryd.underlying45 (by kernel_rfl) (by omega) (by kernel_rfl) opens_logged).mono fun cs ⟨v, xs, e, h, ok, hl⟩ =>
    ⟨v, xs.map (·.1), xs.map (·.2), e, (lg_of_flat h ok).1, (lg_of_flat h ok).2, by simpa using hl⟩
def IsPr (w : World) (vl : Value) (p : Pr) : Prop := PrOk p ∧ (∀ e ∈ p.log, lgOk e) ∧ p.log.length * 32 ≤ 140737488351232 ∧ ∃ us, IsLgU w vl p.log us
set_option maxRecDepth 100000 in
theorem opens_peer : Opens enc Tryd.prog w 47 (fun cs => ∃ (vl : Value) (p : Pr), cs = (#[.int .i64 p.me, .int .u32 (p.v.n : Int), .int .i64 p.v.p, .int .i64 p.v.b, .int .u32 (p.base.1 : Int), .int .u32 (p.base.2 : Int), vl, .bool p.known, .bool p.joined, .bool p.instep, .int .u32 (p.acked : Int)] : Array Value).toList ∧ IsPr w vl p) := by
  refine (opens_struct Tryd.underlying47 11 (by kernel_rfl)
    [fun cs => ∃ z, cs = [.int .i64 z] ∧ -9223372036854775808 ≤ z ∧ z ≤ 9223372036854775807,
     fun cs => ∃ v : Vw, cs = vwC v ∧ v.n < 4294967296 ∧ i64Ok v.p ∧ i64Ok v.b,
     fun cs => ∃ m : Mk, cs = [.int .u32 (m.1 : Int), .int .u32 (m.2 : Int)] ∧ mkOk m,
     fun cs => ∃ (v : Value) (l : List LgE) (us : List Hd), cs = [v] ∧ (∀ e ∈ l, lgOk e) ∧ IsLgU w v l us ∧ l.length * 32 ≤ 140737488351232,
     fun cs => ∃ b, cs = [.bool b], fun cs => ∃ b, cs = [.bool b], fun cs => ∃ b, cs = [.bool b], fun cs => ∃ z : Nat, cs = [.int .u32 (z : Int)] ∧ z < 4294967296] rfl ?_).mono ?_
  · intro i f hf ok hok
    match i with
    | 0 => cases hf; cases hok; exact opens_i64 Tryd.underlying3
    | 1 => cases hf; cases hok; exact opens_view
    | 2 => cases hf; cases hok; exact opens_mark
    | 3 => cases hf; cases hok; exact opens_logs
    | 4 => cases hf; cases hok; exact opens_bool Tryd.underlying4
    | 5 => cases hf; cases hok; exact opens_bool Tryd.underlying4
    | 6 => cases hf; cases hok; exact opens_bool Tryd.underlying4
    | 7 => cases hf; cases hok; exact opens_u32 Tryd.underlying25
    | i + 8 => cases hok
  · rintro cs ⟨hl, h⟩
    obtain ⟨me, e0, hm⟩ := h 0 _ rfl _ rfl
    obtain ⟨v, e1, hv⟩ := h 1 _ rfl _ rfl
    obtain ⟨b, e2, hb⟩ := h 2 _ rfl _ rfl
    obtain ⟨vl, l, us, e3, ok, hus, hll⟩ := h 3 _ rfl _ rfl
    obtain ⟨k, e4⟩ := h 4 _ rfl _ rfl
    obtain ⟨j, e5⟩ := h 5 _ rfl _ rfl
    obtain ⟨s, e6⟩ := h 6 _ rfl _ rfl
    obtain ⟨a, e7, ha⟩ := h 7 _ rfl _ rfl
    have a8 : cs.drop (10 + 1) = [] := List.drop_eq_nil_of_le (by omega)
    have a7 := cut_at 10 1 a8
    have a6 := cut_at 9 1 a7
    have a5 := cut_at 8 1 a6
    have a4 := cut_at 7 1 a5
    have a3 := cut_at 6 1 a4
    have a2 := cut_at 4 2 a3
    have a1 := cut_at 1 3 a2
    have a0 := cut_at 0 1 a1
    rw [List.drop_zero] at a0
    refine ⟨vl, ⟨me, v, b, l, k, j, s, a⟩, ?_, ⟨hm, hv.1, hv.2.1, hv.2.2, hb, ha⟩, ok, hll, us, hus⟩
    rw [a0]
    exact congr (congrArg _ e0) (congr (congrArg _ e1) (congr (congrArg _ e2) (congr (congrArg _ e3) (congr (congrArg _ e4) (congr (congrArg _ e5) (congr (congrArg _ e6) (congr (congrArg _ e7) rfl))))))) |>.trans (by simp [vwC])
end
/-- A note as an argument. -/
def ArgNote (w : World) (v : Value) (n : Nt) : Prop := ∃ vb, v = .agg #[.int .i64 n.kind, .int .u32 (n.view : Int), .int .u32 (n.mark.1 : Int), .int .u32 (n.mark.2 : Int), .int .u32 (n.prev.1 : Int), .int .u32 (n.prev.2 : Int), vb] ∧ NtOk n ∧ IsB w vb n.bytes ∧ n.bytes.length ≤ 140737488351232
set_option maxRecDepth 100000 in
theorem open_note {H : Type} {enc : TypeId × Value → H} {w : World} {v : Value} {d : DataW H} {p : List MemPlace} {r : Reach} {b0 : Nat}
    (hv : Value.okWide Tryd.prog w r b0 30 v) (h : DataW.Trod enc Tryd.prog w 0 (fun _ => true) true 30 v d p) (hL : Light Tryd.prog 30 d) : ∃ n, ArgNote w v n := by
  obtain ⟨cs, rfl⟩ := agg_arg Tryd.underlying30 hv
  obtain ⟨vb, n, e, k⟩ := arg_of opens_note h hL
  have e : cs.toList = (#[.int .i64 n.kind, .int .u32 (n.view : Int), .int .u32 (n.mark.1 : Int), .int .u32 (n.mark.2 : Int), .int .u32 (n.prev.1 : Int), .int .u32 (n.prev.2 : Int), vb] : Array Value).toList := by simpa [Value.cells] using e
  exact ⟨n, vb, by rw [← Array.toArray_toList (xs := cs), e], k⟩
/-- A view as an argument. -/
def ArgView (w : World) (v : Value) (x : Vw) : Prop := v = .agg #[.int .u32 (x.n : Int), .int .i64 x.p, .int .i64 x.b] ∧ x.n < 4294967296 ∧ i64Ok x.p ∧ i64Ok x.b
set_option maxRecDepth 100000 in
theorem open_view {H : Type} {enc : TypeId × Value → H} {w : World} {v : Value} {d : DataW H} {p : List MemPlace} {r : Reach} {b0 : Nat}
    (hv : Value.okWide Tryd.prog w r b0 44 v) (h : DataW.Trod enc Tryd.prog w 0 (fun _ => true) true 44 v d p) (hL : Light Tryd.prog 44 d) : ∃ n, ArgView w v n := by
  obtain ⟨cs, rfl⟩ := agg_arg Tryd.underlying44 hv
  obtain ⟨x, e, k⟩ := arg_of opens_view h hL
  have e : cs.toList = (#[.int .u32 (x.n : Int), .int .i64 x.p, .int .i64 x.b] : Array Value).toList := by simpa [Value.cells, vwC] using e
  exact ⟨x, by rw [← Array.toArray_toList (xs := cs), e], k⟩
/-- A peer as an argument. -/
def ArgPeer (w : World) (v : Value) (x : Pr) : Prop := ∃ vl, v = .agg #[.int .i64 x.me, .int .u32 (x.v.n : Int), .int .i64 x.v.p, .int .i64 x.v.b, .int .u32 (x.base.1 : Int), .int .u32 (x.base.2 : Int), vl, .bool x.known, .bool x.joined, .bool x.instep, .int .u32 (x.acked : Int)] ∧ IsPr w vl x
set_option maxRecDepth 100000 in
theorem open_peer {H : Type} {enc : TypeId × Value → H} {w : World} {v : Value} {d : DataW H} {p : List MemPlace} {r : Reach} {b0 : Nat}
    (hv : Value.okWide Tryd.prog w r b0 47 v) (h : DataW.Trod enc Tryd.prog w 0 (fun _ => true) true 47 v d p) (hL : Light Tryd.prog 47 d) : ∃ n, ArgPeer w v n := by
  obtain ⟨cs, rfl⟩ := agg_arg Tryd.underlying47 hv
  obtain ⟨vl, x, e, k⟩ := arg_of opens_peer h hL
  have e : cs.toList = (#[.int .i64 x.me, .int .u32 (x.v.n : Int), .int .i64 x.v.p, .int .i64 x.v.b, .int .u32 (x.base.1 : Int), .int .u32 (x.base.2 : Int), vl, .bool x.known, .bool x.joined, .bool x.instep, .int .u32 (x.acked : Int)] : Array Value).toList := by simpa [Value.cells] using e
  exact ⟨x, vl, by rw [← Array.toArray_toList (xs := cs), e], k⟩
/-- Zero values, as witnesses. -/
def wNote : Value := .agg #[.int .i64 0, .int .u32 0, .int .u32 0, .int .u32 0, .int .u32 0, .int .u32 0, .slice none 0 0]
def wView : Value := .agg #[.int .u32 0, .int .i64 0, .int .i64 0]
def wPeer : Value := .agg #[.int .i64 0, .int .u32 0, .int .i64 0, .int .i64 0, .int .u32 0, .int .u32 0, .slice none 0 0, .bool false, .bool false, .bool false, .int .u32 0]
end Go.Proofs.YtkcddcomjbihgaaDoor
