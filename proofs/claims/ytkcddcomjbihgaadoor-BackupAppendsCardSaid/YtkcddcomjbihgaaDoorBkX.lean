/- Backup: how arguments of the layer's types read. -/
import Derived.Test.YtkcddcomjbihgaaDoorOpn
import Derived.Test.YtkcddcomjbihgaaDoorBkV
namespace Go.Proofs.YtkcddcomjbihgaaDoor
open Go.RowKit Go.Deep Go.ChangeShapes Go.WideShapes
set_option linter.unusedVariables false
set_option linter.unusedSimpArgs false

section
variable {H : Type} {enc : TypeId × Value → H} {w : World}
set_option maxRecDepth 100000 in
theorem opens_mark : Opens enc Tryd.prog w 27 (fun cs => ∃ m : Mk, cs = [.int .u32 (m.1 : Int), .int .u32 (m.2 : Int)] ∧ mkOk m) := by
  refine (opens_struct Tryd.underlying27 2 (by kernel_rfl)
    [fun cs => ∃ z : Nat, cs = [.int .u32 (z : Int)] ∧ z < 4294967296, fun cs => ∃ z : Nat, cs = [.int .u32 (z : Int)] ∧ z < 4294967296] rfl ?_).mono ?_
  · intro i f hf ok hok
    match i with
    | 0 => cases hf; cases hok; exact opens_u32 Tryd.underlying25
    | 1 => cases hf; cases hok; exact opens_u32 Tryd.underlying25
    | i + 2 => cases hok
  · rintro cs ⟨hl, h⟩
    obtain ⟨x, e0, hx⟩ := h 0 _ rfl _ rfl
    obtain ⟨y, e1, hy⟩ := h 1 _ rfl _ rfl
    have a2 : cs.drop (1 + 1) = [] := List.drop_eq_nil_of_le (by omega)
    have a1 := cut_at 1 1 a2
    have a0 := cut_at 0 1 a1
    rw [List.drop_zero] at a0
    refine ⟨(x, y), ?_, ⟨hx, hy⟩⟩
    rw [a0]
    exact congr (congrArg _ e0) (congr (congrArg _ e1) rfl) |>.trans (by simp)
set_option maxRecDepth 100000 in
theorem opens_view : Opens enc Tryd.prog w 44 (fun cs => ∃ v : Vw, cs = vwC v ∧ v.n < 4294967296 ∧ i64Ok v.p ∧ i64Ok v.b) := by
  refine (opens_struct Tryd.underlying44 3 (by kernel_rfl)
    [fun cs => ∃ z : Nat, cs = [.int .u32 (z : Int)] ∧ z < 4294967296, fun cs => ∃ z, cs = [.int .i64 z] ∧ -9223372036854775808 ≤ z ∧ z ≤ 9223372036854775807,
     fun cs => ∃ z, cs = [.int .i64 z] ∧ -9223372036854775808 ≤ z ∧ z ≤ 9223372036854775807] rfl ?_).mono ?_
  · intro i f hf ok hok
    match i with
    | 0 => cases hf; cases hok; exact opens_u32 Tryd.underlying25
    | 1 => cases hf; cases hok; exact opens_i64 Tryd.underlying3
    | 2 => cases hf; cases hok; exact opens_i64 Tryd.underlying3
    | i + 3 => cases hok
  · rintro cs ⟨hl, h⟩
    obtain ⟨x, e0, hx⟩ := h 0 _ rfl _ rfl
    obtain ⟨y, e1, hy⟩ := h 1 _ rfl _ rfl
    obtain ⟨z, e2, hz⟩ := h 2 _ rfl _ rfl
    have a3 : cs.drop (2 + 1) = [] := List.drop_eq_nil_of_le (by omega)
    have a2 := cut_at 2 1 a3
    have a1 := cut_at 1 1 a2
    have a0 := cut_at 0 1 a1
    rw [List.drop_zero] at a0
    refine ⟨⟨x, y, z⟩, ?_, hx, hy, hz⟩
    rw [a0]
    exact congr (congrArg _ e0) (congr (congrArg _ e1) (congr (congrArg _ e2) rfl)) |>.trans (by simp [vwC])
set_option maxRecDepth 100000 in
theorem opens_note : Opens enc Tryd.prog w 30 (fun cs => ∃ (vb : Value) (n : Nt), cs = (#[.int .i64 n.kind, .int .u32 (n.view : Int), .int .u32 (n.mark.1 : Int), .int .u32 (n.mark.2 : Int), .int .u32 (n.prev.1 : Int), .int .u32 (n.prev.2 : Int), vb] : Array Value).toList ∧ NtOk n ∧ IsB w vb n.bytes ∧ n.bytes.length ≤ 140737488351232) := by
  refine (opens_struct Tryd.underlying30 7 (by kernel_rfl)
    [fun cs => ∃ z, cs = [.int .i64 z] ∧ -9223372036854775808 ≤ z ∧ z ≤ 9223372036854775807, fun cs => ∃ z : Nat, cs = [.int .u32 (z : Int)] ∧ z < 4294967296,
     fun cs => ∃ m : Mk, cs = [.int .u32 (m.1 : Int), .int .u32 (m.2 : Int)] ∧ mkOk m, fun cs => ∃ m : Mk, cs = [.int .u32 (m.1 : Int), .int .u32 (m.2 : Int)] ∧ mkOk m,
     fun cs => ∃ (v : Value) (l : List UInt8), cs = [v] ∧ IsB w v l ∧ l.length ≤ 140737488351232] rfl ?_).mono ?_
  · intro i f hf ok hok
    match i with
    | 0 => cases hf; cases hok; exact opens_i64 Tryd.underlying3
    | 1 => cases hf; cases hok; exact opens_u32 Tryd.underlying25
    | 2 => cases hf; cases hok; exact opens_mark
    | 3 => cases hf; cases hok; exact opens_mark
    | 4 => cases hf; cases hok; exact opens_bytes Tryd.underlying28 Tryd.underlying5 (by kernel_rfl) (by kernel_rfl)
    | i + 5 => cases hok
  · rintro cs ⟨hl, h⟩
    obtain ⟨k, e0, hk⟩ := h 0 _ rfl _ rfl
    obtain ⟨v, e1, hv⟩ := h 1 _ rfl _ rfl
    obtain ⟨m, e2, hm⟩ := h 2 _ rfl _ rfl
    obtain ⟨p, e3, hp⟩ := h 3 _ rfl _ rfl
    obtain ⟨vb, b, e4, hb, lb⟩ := h 4 _ rfl _ rfl
    have a5 : cs.drop (6 + 1) = [] := List.drop_eq_nil_of_le (by omega)
    have a4 := cut_at 6 1 a5
    have a3 := cut_at 4 2 a4
    have a2 := cut_at 2 2 a3
    have a1 := cut_at 1 1 a2
    have a0 := cut_at 0 1 a1
    rw [List.drop_zero] at a0
    refine ⟨vb, ⟨k, v, m, p, b⟩, ?_, ⟨hk, hv, hm, hp⟩, hb, lb⟩
    rw [a0]
    exact congr (congrArg _ e0) (congr (congrArg _ e1) (congr (congrArg _ e2) (congr (congrArg _ e3) (congr (congrArg _ e4) rfl)))) |>.trans (by simp)
abbrev LgX := LgE × Hd
def lgxOk (w : World) (x : LgX) : Prop := lgOk x.1 ∧ IsB w (.slice x.2.1 x.1.b.length x.2.2) x.1.b
set_option maxRecDepth 100000 in
theorem opens_logged : Opens enc Tryd.prog w 108 (fun cs => ∃ x : LgX, cs = lgV x.1 x.2 ∧ (lgV x.1 x.2).length = 3 ∧ lgxOk w x) := by
  refine (opens_struct Tryd.underlying108 3 (by kernel_rfl)
    [fun cs => ∃ m : Mk, cs = [.int .u32 (m.1 : Int), .int .u32 (m.2 : Int)] ∧ mkOk m, fun cs => ∃ (v : Value) (l : List UInt8), cs = [v] ∧ IsB w v l ∧ l.length ≤ 140737488351232] rfl ?_).mono ?_
  · intro i f hf ok hok
    match i with
    | 0 => cases hf; cases hok; exact opens_mark
    | 1 => cases hf; cases hok; exact opens_bytes Tryd.underlying28 Tryd.underlying5 (by kernel_rfl) (by kernel_rfl)
    | i + 2 => cases hok
  · rintro cs ⟨hl, h⟩
    obtain ⟨m, e0, hm⟩ := h 0 _ rfl _ rfl
    obtain ⟨vb, b, e1, hb, lb⟩ := h 1 _ rfl _ rfl
    obtain ⟨ao, cap, rfl, -⟩ := hb.opened
    have a2 : cs.drop (2 + 1) = [] := List.drop_eq_nil_of_le (by omega)
    have a1 := cut_at 2 1 a2
    have a0 := cut_at 0 2 a1
    rw [List.drop_zero] at a0
    refine ⟨(⟨m, b⟩, (ao, cap)), ?_, rfl, ⟨⟨hm, Nat.le_trans lb (by omega)⟩, hb⟩⟩
    rw [a0]
    exact congr (congrArg _ e0) (congr (congrArg _ e1) rfl) |>.trans (by simp [lgV])
theorem lgCs_flat : ∀ xs : List LgX, lgCs (xs.map (·.1)) (xs.map (·.2)) = xs.flatMap (fun x => lgV x.1 x.2)
  | [] => rfl
  | x :: xs => by rw [List.map_cons, List.map_cons, lgCs, lgCs_flat xs, List.flatMap_cons]
theorem lg_of_flat {v : Value} {xs : List LgX} (h : IsSl w v 3 xs.length (xs.flatMap (fun x => lgV x.1 x.2))) (ok : ∀ x ∈ xs, lgxOk w x) : (∀ e ∈ xs.map (·.1), lgOk e) ∧ IsLgU w v (xs.map (·.1)) (xs.map (·.2)) := by
  refine ⟨?_, ⟨by simp, ?_, ?_⟩⟩
  · intro e he
    obtain ⟨x, hx, rfl⟩ := List.mem_map.1 he
    exact (ok x hx).1
  · rw [lgCs_flat, List.length_map]
    exact h
  · intro i hi u hu
    have hi' : i < xs.length := by simpa using hi
    rw [List.getElem?_map, List.getElem?_eq_getElem hi'] at hu
    obtain rfl := Option.some.inj hu
    simp only [List.getElem_map]
    exact (ok _ (List.getElem_mem hi')).2
theorem opens_logs : Opens enc Tryd.prog w 45 (fun cs => ∃ (v : Value) (l : List LgE) (us : List Hd), cs = [v] ∧ (∀ e ∈ l, lgOk e) ∧ IsLgU w v l us ∧ l.length * 32 ≤ 140737488351232) :=
  (opens_slice 3 32 (fun x : LgX => lgV x.1 x.2) (lgxOk w) Tryd.underlying45 (by kernel_rfl) (by omega) (by kernel_rfl) opens_logged).mono fun cs ⟨v, xs, e, h, ok, hl⟩ =>
    ⟨v, xs.map (·.1), xs.map (·.2), e, (lg_of_flat h ok).1, (lg_of_flat h ok).2, by simpa using hl⟩
def IsPr (w : World) (vl : Value) (p : Pr) : Prop := PrOk p ∧ (∀ e ∈ p.log, lgOk e) ∧ p.log.length * 32 ≤ 140737488351232 ∧ ∃ us, IsLgU w vl p.log us
set_option maxRecDepth 100000 in
theorem opens_peer : Opens enc Tryd.prog w 47 (fun cs => ∃ (vl : Value) (p : Pr), cs = (#[.int .i64 p.me, .int .u32 (p.v.n : Int), .int .i64 p.v.p, .int .i64 p.v.b, .int .u32 (p.base.1 : Int), .int .u32 (p.base.2 : Int), vl, .bool p.known, .bool p.joined, .bool p.instep, .int .u32 (p.acked : Int)] : Array Value).toList ∧ IsPr w vl p) := by
  refine (opens_struct Tryd.underlying47 11 (by kernel_rfl)
    [fun cs => ∃ z, cs = [.int .i64 z] ∧ -9223372036854775808 ≤ z ∧ z ≤ 9223372036854775807,
     fun cs => ∃ v : Vw, cs = vwC v ∧ v.n < 4294967296 ∧ i64Ok v.p ∧ i64Ok v.b,
     fun cs => ∃ m : Mk, cs = [.int .u32 (m.1 : Int), .int .u32 (m.2 : Int)] ∧ mkOk m,
     fun cs => ∃ (v : Value) (l : List LgE) (us : List Hd), cs = [v] ∧ (∀ e ∈ l, lgOk e) ∧ IsLgU w v l us ∧ l.length * 32 ≤ 140737488351232,
     fun cs => ∃ b, cs = [.bool b], fun cs => ∃ b, cs = [.bool b], fun cs => ∃ b, cs = [.bool b], fun cs => ∃ z : Nat, cs = [.int .u32 (z : Int)] ∧ z < 4294967296] rfl ?_).mono ?_
  · intro i f hf ok hok
    match i with
    | 0 => cases hf; cases hok; exact opens_i64 Tryd.underlying3
    | 1 => cases hf; cases hok; exact opens_view
    | 2 => cases hf; cases hok; exact opens_mark
    | 3 => cases hf; cases hok; exact opens_logs
    | 4 => cases hf; cases hok; exact opens_bool Tryd.underlying4
    | 5 => cases hf; cases hok; exact opens_bool Tryd.underlying4
    | 6 => cases hf; cases hok; exact opens_bool Tryd.underlying4
    | 7 => cases hf; cases hok; exact opens_u32 Tryd.underlying25
    | i + 8 => cases hok
  · rintro cs ⟨hl, h⟩
    obtain ⟨me, e0, hm⟩ := h 0 _ rfl _ rfl
    obtain ⟨v, e1, hv⟩ := h 1 _ rfl _ rfl
    obtain ⟨b, e2, hb⟩ := h 2 _ rfl _ rfl
    obtain ⟨vl, l, us, e3, ok, hus, hll⟩ := h 3 _ rfl _ rfl
    obtain ⟨k, e4⟩ := h 4 _ rfl _ rfl
    obtain ⟨j, e5⟩ := h 5 _ rfl _ rfl
    obtain ⟨s, e6⟩ := h 6 _ rfl _ rfl
    obtain ⟨a, e7, ha⟩ := h 7 _ rfl _ rfl
    have a8 : cs.drop (10 + 1) = [] := List.drop_eq_nil_of_le (by omega)
    have a7 := cut_at 10 1 a8
    have a6 := cut_at 9 1 a7
    have a5 := cut_at 8 1 a6
    have a4 := cut_at 7 1 a5
    have a3 := cut_at 6 1 a4
    have a2 := cut_at 4 2 a3
    have a1 := cut_at 1 3 a2
    have a0 := cut_at 0 1 a1
    rw [List.drop_zero] at a0
    refine ⟨vl, ⟨me, v, b, l, k, j, s, a⟩, ?_, ⟨hm, hv.1, hv.2.1, hv.2.2, hb, ha⟩, ok, hll, us, hus⟩
    rw [a0]
    exact congr (congrArg _ e0) (congr (congrArg _ e1) (congr (congrArg _ e2) (congr (congrArg _ e3) (congr (congrArg _ e4) (congr (congrArg _ e5) (congr (congrArg _ e6) (congr (congrArg _ e7) rfl))))))) |>.trans (by simp [vwC])
end
/-- A note as an argument. -/
def ArgNote (w : World) (v : Value) (n : Nt) : Prop := ∃ vb, v = .agg #[.int .i64 n.kind, .int .u32 (n.view : Int), .int .u32 (n.mark.1 : Int), .int .u32 (n.mark.2 : Int), .int .u32 (n.prev.1 : Int), .int .u32 (n.prev.2 : Int), vb] ∧ NtOk n ∧ IsB w vb n.bytes ∧ n.bytes.length ≤ 140737488351232
set_option maxRecDepth 100000 in
theorem open_note {H : Type} {enc : TypeId × Value → H} {w : World} {v : Value} {d : DataW H} {p : List MemPlace} {r : Reach} {b0 : Nat}
    (hv : Value.okWide Tryd.prog w r b0 30 v) (h : DataW.Trod enc Tryd.prog w 0 (fun _ => true) true 30 v d p) (hL : Light Tryd.prog 30 d) : ∃ n, ArgNote w v n := by
  obtain ⟨cs, rfl⟩ := agg_arg Tryd.underlying30 hv
  obtain ⟨vb, n, e, k⟩ := arg_of opens_note h hL
  have e : cs.toList = (#[.int .i64 n.kind, .int .u32 (n.view : Int), .int .u32 (n.mark.1 : Int), .int .u32 (n.mark.2 : Int), .int .u32 (n.prev.1 : Int), .int .u32 (n.prev.2 : Int), vb] : Array Value).toList := by simpa [Value.cells] using e
  exact ⟨n, vb, by rw [← Array.toArray_toList (xs := cs), e], k⟩
/-- A view as an argument. -/
def ArgView (w : World) (v : Value) (x : Vw) : Prop := v = .agg #[.int .u32 (x.n : Int), .int .i64 x.p, .int .i64 x.b] ∧ x.n < 4294967296 ∧ i64Ok x.p ∧ i64Ok x.b
set_option maxRecDepth 100000 in
theorem open_view {H : Type} {enc : TypeId × Value → H} {w : World} {v : Value} {d : DataW H} {p : List MemPlace} {r : Reach} {b0 : Nat}
    (hv : Value.okWide Tryd.prog w r b0 44 v) (h : DataW.Trod enc Tryd.prog w 0 (fun _ => true) true 44 v d p) (hL : Light Tryd.prog 44 d) : ∃ n, ArgView w v n := by
  obtain ⟨cs, rfl⟩ := agg_arg Tryd.underlying44 hv
  obtain ⟨x, e, k⟩ := arg_of opens_view h hL
  have e : cs.toList = (#[.int .u32 (x.n : Int), .int .i64 x.p, .int .i64 x.b] : Array Value).toList := by simpa [Value.cells, vwC] using e
  exact ⟨x, by rw [← Array.toArray_toList (xs := cs), e], k⟩
/-- A peer as an argument. -/
def ArgPeer (w : World) (v : Value) (x : Pr) : Prop := ∃ vl, v = .agg #[.int .i64 x.me, .int .u32 (x.v.n : Int), .int .i64 x.v.p, .int .i64 x.v.b, .int .u32 (x.base.1 : Int), .int .u32 (x.base.2 : Int), vl, .bool x.known, .bool x.joined, .bool x.instep, .int .u32 (x.acked : Int)] ∧ IsPr w vl x
set_option maxRecDepth 100000 in
theorem open_peer {H : Type} {enc : TypeId × Value → H} {w : World} {v : Value} {d : DataW H} {p : List MemPlace} {r : Reach} {b0 : Nat}
    (hv : Value.okWide Tryd.prog w r b0 47 v) (h : DataW.Trod enc Tryd.prog w 0 (fun _ => true) true 47 v d p) (hL : Light Tryd.prog 47 d) : ∃ n, ArgPeer w v n := by
  obtain ⟨cs, rfl⟩ := agg_arg Tryd.underlying47 hv
  obtain ⟨vl, x, e, k⟩ := arg_of opens_peer h hL
  have e : cs.toList = (#[.int .i64 x.me, .int .u32 (x.v.n : Int), .int .i64 x.v.p, .int .i64 x.v.b, .int .u32 (x.base.1 : Int), .int .u32 (x.base.2 : Int), vl, .bool x.known, .bool x.joined, .bool x.instep, .int .u32 (x.acked : Int)] : Array Value).toList := by simpa [Value.cells] using e
  exact ⟨x, vl, by rw [← Array.toArray_toList (xs := cs), e], k⟩
/-- Zero values, as witnesses. -/
def wNote : Value := .agg #[.int .i64 0, .int .u32 0, .int .u32 0, .int .u32 0, .int .u32 0, .int .u32 0, .slice none 0 0]
def wView : Value := .agg #[.int .u32 0, .int .i64 0, .int .i64 0]
def wPeer : Value := .agg #[.int .i64 0, .int .u32 0, .int .i64 0, .int .i64 0, .int .u32 0, .int .u32 0, .slice none 0 0, .bool false, .bool false, .bool false, .int .u32 0]
end Go.Proofs.YtkcddcomjbihgaaDoor

namespace Go.Proofs.YtkcddcomjbihgaaDoor
open Go.RowKit
set_option linter.unusedVariables false
set_option linter.unusedSimpArgs false

theorem isB_upto {w : World} {ao : Option Addr} {n cap : Nat} {l : List UInt8} (h : IsB w (.slice ao n cap) l) (M : Nat) (hM : M ≤ n) : IsB w (.slice ao M cap) (l.take M) := by
  have := h.cut 0 M (by omega) hM
  have e : (if cap = 0 then ao else ao.map (fun x => x.add (0 * 1))) = ao := by
    split
    · rfl
    · cases ao <;> simp [Addr.add_lit, Addr.add]
  rw [e] at this
  simpa using this
theorem cut_nat (cut : Int) (L : Nat) (h0 : 0 < L) (hL : L ≤ 1000000) : ∃ K : Nat, K < L ∧ wrap64 ((IntKind.u64.wrap cut).tmod (L : Int)) = (K : Int) := by
  rw [IntKind.wrap_u64]
  have h1 : 0 ≤ cut % 18446744073709551616 := Int.emod_nonneg _ (by omega)
  rw [Int.tmod_eq_emod_of_nonneg h1]
  have h2 : 0 ≤ cut % 18446744073709551616 % (L : Int) := Int.emod_nonneg _ (by omega)
  have h3 : cut % 18446744073709551616 % (L : Int) < (L : Int) := Int.emod_lt_of_pos _ (by omega)
  refine ⟨(cut % 18446744073709551616 % (L : Int)).toNat, by omega, ?_⟩
  have : wrap64 (cut % 18446744073709551616 % (L : Int)) = cut % 18446744073709551616 % (L : Int) := IntWalk.wrap64_in _ (by omega)
  rw [this]
  omega
theorem nF_take {b : List UInt8} {k : Nat} (h : 25 ≤ k) : nF (b.take k) 21 = nF b 21 := by
  unfold nF
  rw [List.drop_take, List.take_take, Nat.min_eq_left (by omega)]
/-- Less of a note's bytes is too short. -/
theorem decErr_short {n : Nt} (ho : NtOk n) (hn : notedB n = true) {k : Nat} (hk : k < (encN n).length) : decErr ((encN n).take k) = 7 := by
  have hl := encN_len n
  have hnl := noted_len hn
  have hlen : ((encN n).take k).length = k := by rw [List.length_take]; omega
  unfold decErr
  by_cases h : k < 57
  · rw [hlen, if_pos h]
  · rw [hlen, if_neg h, nF_take (by omega)]
    have e21 : nF (encN n) 21 = n.bytes.length := by
      rw [show encN n = ([knd n] ++ be n.view 4 ++ be n.mark.1 4 ++ be n.mark.2 4 ++ be n.prev.1 4 ++ be n.prev.2 4) ++ (be n.bytes.length 4 ++ _) from by rw [encN_eq]; simp only [List.append_assoc]; rfl]
      exact fldN _ _ _ _ (by simp [be_length]) (by omega)
    rw [e21, if_pos (by omega)]
set_option maxHeartbeats 2000000 in
set_option maxRecDepth 100000 in
theorem walkBackupBack (w : World) (v : Value) (n : Nt) (h : ArgNote w v n) (cut : Int) (hc1 : -9223372036854775808 ≤ cut) (hc2 : cut ≤ 9223372036854775807) (hK : Tabs w) :
    Calls Tryd.prog 4 #[v, .int .i64 cut] w fun e w' => e = .returned (.bool true) ∧ Ext w w' := by
  obtain ⟨vb, rfl, ho, hb, hbl⟩ := h
  obtain ⟨ao, cap, rfl, b1, m1, z1, -⟩ := hb.opened
  go_enter Tryd.func4, Tryd.ntmps4
  have HX := Lib.hid (Ext.refl w)
  have HK := Lib.hid hK
  have HB := Lib.hid hb
  have HO := Lib.hid ho
  clear hK hb ho
  go_upto_region 1 with fail
  refine wp_forget (fun W => Ext w W ∧ W.heap[w.heap.size]? = some (.cells #[.int .i64 n.kind, .int .u32 (n.view : Int), .int .u32 (n.mark.1 : Int), .int .u32 (n.mark.2 : Int), .int .u32 (n.prev.1 : Int), .int .u32 (n.prev.2 : Int), (.slice ao n.bytes.length cap)] 30 (0, 0))) ⟨(Ext.refl w).alloc _, heap_alloc_new w _⟩ ?_
  rintro W0 ⟨y, bN⟩
  have HX := Lib.hid y
  clear y
  obtain ⟨BN, hBN⟩ : ∃ x, x = w.heap.size := ⟨_, rfl⟩
  rw [← hBN] at bN
  rw [← hBN]
  have hsN : w.heap.size ≤ BN := by omega
  clear hBN
  go_wp2_with fail
  refine (lawWakes _ (HK.out.ext HX.out)).mono ?_
  rintro e W1 ⟨rfl, y⟩
  have bN := y.keeps bN
  have HX := Lib.hid (HX.out.trans y)
  clear y
  have cN := block_all (blk_old (o := .cells #[] 5) bN)
  have o0 := World.ownsRow_made (base := W1.heap.size) (e := 5) (size := 1) W1 #[] 0 (Nat.le_refl _) (by decide) rfl
  obtain ⟨M, hM⟩ : ∃ M, min n.bytes.length 3000 = M := ⟨_, rfl⟩
  have hMl : M ≤ n.bytes.length := by omega
  have hM3 : M ≤ 3000 := by omega
  have hmi : (if (3000 : Int) < (n.bytes.length : Int) then (3000 : Int) else (n.bytes.length : Int)) = (M : Int) := by split <;> omega
  have hMc : M ≤ cap := by omega
  have hMc' : (M : Int) ≤ (cap : Int) := by omega
  have hM0 : (0 : Int) ≤ (M : Int) := by omega
  have hq := isB_upto (HB.out.ext HX.out) M hMl
  have hql : (n.bytes.take M).length = M := by rw [List.length_take]; omega
  have HQ := Lib.hid (show IsSl W1 (.slice ao M cap) 1 M ((n.bytes.take M).map bc) by unfold IsB at hq; rw [hql] at hq; exact hq)
  have HQL := Lib.hid hql
  have hs1 := HX.out.size
  clear hM hq hql
  go_upto_region 4 with (at_builtin; go_must (refine wp_app tyB rfl _ _ rfl W1.heap.size _ 0 [] o0 (by rfl) _ M ((n.bytes.take M).map bc) (HQ.out.ext ((Ext.refl _).alloc _)) (by rfl) (bc_one _) (by omega) (by omega) (by simp) ?_); intro v4 w4 own4 gr4; rw [Nat.zero_add, List.nil_append] at own4; obtain ⟨a4, c4, rfl⟩ := own_shape own4; have x4 := own_base o0 gr4 ((Ext.refl W1).alloc _) (Nat.le_refl _); have cN := block_all (x4.keeps bN); have ff := fun i => block_free (x4.keeps bN) i)
  have HN1 := Lib.hid (show ∃ n1 : Nt, n1 = { n with bytes := n.bytes.take M } from ⟨_, rfl⟩)
  obtain ⟨n1, hn1⟩ : ∃ x, ({ n with bytes := n.bytes.take M } : Nt) = x := ⟨_, rfl⟩
  have hn1b : n1.bytes = n.bytes.take M := by rw [← hn1]
  have hn1l : n1.bytes.length = M := by rw [hn1b]; exact HQL.out
  have bN := x4.keeps bN
  have bn1 : (w4.setCell ⟨BN, 6, none⟩ (.slice a4 M c4)).heap[BN]? = some (.cells #[.int .i64 n1.kind, .int .u32 (n1.view : Int), .int .u32 (n1.mark.1 : Int), .int .u32 (n1.mark.2 : Int), .int .u32 (n1.prev.1 : Int), .int .u32 (n1.prev.2 : Int), (.slice a4 M c4)] 30 (0, 0)) := by
    have := block_setCell bN (i := 6) (.slice a4 M c4)
    rw [← hn1]
    simpa using this
  have gr := grown_setCell w4 BN 6 (.slice a4 M c4)
  have own := ownsRow_base (ownsRow_grown own4 gr (own_neT own4 bN (by decide))) hs1
  have HX := Lib.hid ((HX.out.trans x4).grown gr (fun k hk => by cases hk; omega))
  have HO1 := Lib.hid (show NtOk n1 from by rw [← hn1]; exact ⟨HO.out.kind, HO.out.view, HO.out.mark, HO.out.prev⟩)
  generalize w4.setCell ⟨BN, 6, none⟩ (.slice a4 M c4) = W4 at *
  have own : OwnB W4 w.heap.size (.slice a4 n1.bytes.length c4) n1.bytes := by unfold OwnB; rw [hn1l, hn1b]; exact own
  rw [← hn1l] at bn1
  have hNl : n1.bytes.length ≤ 3000 := by omega
  clear gr own4 gr4 x4 bN cN ff o0 hmi hMc hMc' hM0 hn1 hn1b hn1l
  have bN := bn1
  clear bn1
  have cN := block_all bN
  cases hn : notedB n1 with
  | false =>
    have HN := Lib.hid hn
    clear hn
    go_wp2_with fail
    refine (bkEncode _ _ n1 (IsB.of_owns own) HO1.out (HK.out.ext HX.out)).mono ?_
    rintro e W5 ⟨y, ⟨hz, rfl⟩ | ⟨hz, _⟩⟩
    rotate_left
    · exact absurd hz (by rw [HN.out]; decide)
    go_wp2_with fail
    go_ret
    exact ⟨rfl, HX.out.trans y⟩
  | true =>
    have HN := Lib.hid hn
    clear hn
    go_wp2_with fail
    refine (bkEncode _ _ n1 (IsB.of_owns own) HO1.out (HK.out.ext HX.out)).mono ?_
    rintro e W5 ⟨y, ⟨hz, _⟩ | ⟨hz, v5, rfl, own5⟩⟩
    · exact absurd hz (by rw [HN.out]; decide)
    have hs4 := HX.out.size
    clear hz cN
    obtain ⟨a5, c5, rfl⟩ := own_shape own5
    have own5 := ownsRow_base own5 hs4
    have bN := y.keeps bN
    have own := ownsRow_ext own y
    have HX := Lib.hid (HX.out.trans y)
    clear y
    have hel := encN_len n1
    have HEL := Lib.hid hel
    clear hel
    have hl5 : (encN n1).length ≤ 4000 := by rw [HEL.out]; omega
    have hl6 : 0 < (encN n1).length := by rw [HEL.out]; omega
    have HDE := Lib.hid (decErr_enc HO1.out HN.out)
    have HDN := Lib.hid (decN_enc HO1.out HN.out)
    have HSH := Lib.hid (fun k => decErr_short HO1.out HN.out (k := k))
    go_wp2_with fail
    refine (bkDecode _ _ (encN n1) (IsB.of_owns own5) (by omega) (HK.out.ext HX.out)).mono ?_
    rintro e W6 ⟨y, ⟨hz, _⟩ | ⟨hz, v6, rfl, own6⟩⟩
    · exact absurd HDE.out hz
    have hs5 := HX.out.size
    rw [HDN.out] at own6
    rw [HDN.out]
    clear hz
    obtain ⟨a6, c6, rfl⟩ := own_shape own6
    have own6 := ownsRow_base own6 hs5
    have bN := y.keeps bN
    have own := ownsRow_ext own y
    have own5 := ownsRow_ext own5 y
    have HX := Lib.hid (HX.out.trans y)
    clear y
    go_upto_region 8 with (((with_reducible refine at_store 30 (.tmp 7) (.tmp 39) ?_); go_must (refine wpl_store rfl 30 (.tmp 7) (.tmp 39) rfl W6.heap.size #[.int .i64 n1.kind, .int .u32 (n1.view : Int), .int .u32 (n1.mark.1 : Int), .int .u32 (n1.mark.2 : Int), .int .u32 (n1.prev.1 : Int), .int .u32 (n1.prev.2 : Int), (.slice a6 n1.bytes.length c6)] (by rfl) (by rfl) 30 _ (heap_alloc_new W6 _) (by kernel_rfl) rfl (nt_one _ _ _ _) ?_)))
    have l_N_D := block_lt bN
    have hsD := HX.out.size
    refine wp_forget (fun W => Ext W6 W ∧ W.heap[W6.heap.size]? = some (.cells #[.int .i64 n1.kind, .int .u32 (n1.view : Int), .int .u32 (n1.mark.1 : Int), .int .u32 (n1.mark.2 : Int), .int .u32 (n1.prev.1 : Int), .int .u32 (n1.prev.2 : Int), (.slice a6 n1.bytes.length c6)] 30 (0, 0))) ⟨ext_new _ _ _, new_row _ _ _ _⟩ ?_
    rintro W61 ⟨y, bD⟩
    obtain ⟨BD, hB⟩ : ∃ x, x = W6.heap.size := ⟨_, rfl⟩
    rw [← hB] at bD hsD l_N_D
    rw [← hB]
    clear hB
    have bN := y.keeps bN
    have own := ownsRow_ext own y
    have own5 := ownsRow_ext own5 y
    have own6 := ownsRow_ext own6 y
    have HX := Lib.hid (HX.out.trans y)
    clear y
    have cD := block_all bD
    go_wp2_with fail
    refine (bkEncode _ _ n1 (IsB.of_owns own6) HO1.out (HK.out.ext HX.out)).mono ?_
    rintro e W8 ⟨y, ⟨hz, _⟩ | ⟨hz, v8, rfl, own8⟩⟩
    · exact absurd hz (by rw [HN.out]; decide)
    have hs6 := HX.out.size
    clear hz cD
    obtain ⟨a8, c8, rfl⟩ := own_shape own8
    have own8 := ownsRow_base own8 hs6
    have bN := y.keeps bN
    have bD := y.keeps bD
    have own := ownsRow_ext own y
    have own5 := ownsRow_ext own5 y
    have own6 := ownsRow_ext own6 y
    have HX := Lib.hid (HX.out.trans y)
    clear y
    have cD := block_all bD
    have cN := block_all bN
    have hmn := mkNeq
    have hmq : ∀ m : Mk, meq m m = true := fun m => meq_iff.2 rfl
    have hee : (encN n1 == encN n1) = true := by simp
    have heb : (n1.bytes == n1.bytes) = true := by simp
    obtain ⟨_, a9, c9, e9, h59, h60, _⟩ := IsB.of_owns own5
    simp only [Value.slice.injEq] at e9
    obtain ⟨rfl, _, rfl⟩ := e9
    obtain ⟨K, hKl, hKe⟩ := cut_nat cut (encN n1).length hl6 (by omega)
    have hK0 : (0 : Int) ≤ (K : Int) := by omega
    have hK5 : (K : Int) ≤ (c5 : Int) := by omega
    have hkq := isB_upto (IsB.of_owns own5) K (by omega)
    have HKQ := Lib.hid hkq
    have HKL := Lib.hid hKl
    clear hkq hKl h59 h60
    go_wp2_with (first | (go_at_call 12; (with_reducible refine (bytesEqual _ _ _ (encN n1) (encN n1) (IsB.of_owns own5) (IsB.of_owns own8)).mono ?_); rintro e w' ⟨rfl, rfl⟩) | (go_at_call 12; (with_reducible refine (bytesEqual _ _ _ n1.bytes n1.bytes (IsB.of_owns own6) (IsB.of_owns own)).mono ?_); rintro e w' ⟨rfl, rfl⟩))
    refine (bkDecode _ _ ((encN n1).take K) ?_ (by rw [List.length_take]; omega) (HK.out.ext HX.out)).mono ?_
    · have := HKQ.out
      unfold IsB at this ⊢
      have hkl := HKL.out
      have e : ((encN n1).take K).length = K := by rw [List.length_take]; omega
      rw [e] at this ⊢
      exact this
    have h7 := HSH.out K HKL.out
    rintro e W9 ⟨y, ⟨hz, rfl⟩ | ⟨hz, _⟩⟩
    rotate_left
    · exact absurd h7 (by rw [hz]; decide)
    rw [h7]
    clear h7 hz cD cN hmn hmq hee heb
    go_wp2_with fail
    go_ret
    exact ⟨rfl, HX.out.trans y⟩
end Go.Proofs.YtkcddcomjbihgaaDoor
