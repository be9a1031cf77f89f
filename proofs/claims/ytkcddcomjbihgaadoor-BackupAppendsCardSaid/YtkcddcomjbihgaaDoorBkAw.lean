/- Backup: rows of notes and of bytes as arguments; Decode and the document's told alike. -/
import Derived.Test.YtkcddcomjbihgaaDoorBkZa
import Derived.Test.YtkcddcomjbihgaaDoorBkX
import Derived.Test.YtkcddcomjbihgaaDoorBkAf
import Derived.Test.YtkcddcomjbihgaaDoorBkAi
import Derived.Test.YtkcddcomjbihgaaDoorBkF
import Derived.Test.YtkcddcomjbihgaaDoorBkJ
import Derived.Test.YtkcddcomjbihgaaDoorBkL
import Derived.Test.YtkcddcomjbihgaaDoorBkI
import Derived.Test.YtkcddcomjbihgaaDoorBkV
import Derived.Test.YtkcddcomjbihgaaDoorBkN
import Derived.Test.YtkcddcomjbihgaaDoorBkM
import Derived.Test.YtkcddcomjbihgaaDoorBkK
import Derived.Test.YtkcddcomjbihgaaDoorBkO
namespace Go.Proofs.YtkcddcomjbihgaaDoor
open Go.RowKit Go.Deep Go.ChangeShapes Go.WideShapes
set_option linter.unusedVariables false
set_option linter.unusedSimpArgs false

abbrev NtX := Nt × Hd
def ntxC (x : NtX) : List Value := [.int .i64 x.1.kind, .int .u32 (x.1.view : Int), .int .u32 (x.1.mark.1 : Int), .int .u32 (x.1.mark.2 : Int), .int .u32 (x.1.prev.1 : Int), .int .u32 (x.1.prev.2 : Int), .slice x.2.1 x.1.bytes.length x.2.2]
def ntxOk (w : World) (x : NtX) : Prop := NtOk x.1 ∧ IsB w (.slice x.2.1 x.1.bytes.length x.2.2) x.1.bytes ∧ x.1.bytes.length ≤ 140737488351232
abbrev BsX := List UInt8 × Hd
def bsxC (x : BsX) : List Value := [.slice x.2.1 x.1.length x.2.2]
def bsxOk (w : World) (x : BsX) : Prop := IsB w (.slice x.2.1 x.1.length x.2.2) x.1 ∧ x.1.length ≤ 140737488351232
def ArgNotes (w : World) (v : Value) (xs : List NtX) : Prop := IsSl w v 7 xs.length (xs.flatMap ntxC) ∧ (∀ x ∈ xs, ntxOk w x) ∧ xs.length ≤ 140737488351232
def ArgRows (w : World) (v : Value) (xs : List BsX) : Prop := IsSl w v 1 xs.length (xs.flatMap bsxC) ∧ (∀ x ∈ xs, bsxOk w x) ∧ xs.length ≤ 140737488351232
set_option maxRecDepth 100000 in
theorem open_notes {H : Type} {enc : TypeId × Value → H} {w : World} {v : Value} {d : DataW H} {p : List MemPlace} {r : Reach} {b0 : Nat}
    (hv : Value.okWide Tryd.prog w r b0 22 v) (h : DataW.Trod enc Tryd.prog w 0 (fun _ => true) true 22 v d p) (hL : Light Tryd.prog 22 d) : ∃ l, ArgNotes w v l := by
  obtain ⟨a, len, cap, rfl⟩ := okWide_slice Tryd.underlying22 hv
  obtain ⟨u, l, e, h1, h2, h3⟩ := arg_of (opens_slice 7 56 ntxC (ntxOk w) Tryd.underlying22 (by kernel_rfl) (by omega) (by kernel_rfl) (opens_note.mono fun cs ⟨vb, n, e, h1, h2, h3⟩ => by
    obtain ⟨ao, cap, rfl, -⟩ := h2.opened
    exact ⟨(n, (ao, cap)), e, rfl, h1, h2, h3⟩)) h hL
  have e : (.slice a len cap : Value) = u := by simpa [Value.cells] using e
  subst e
  exact ⟨l, h1, h2, by omega⟩
set_option maxRecDepth 100000 in
theorem open_rows {H : Type} {enc : TypeId × Value → H} {w : World} {v : Value} {d : DataW H} {p : List MemPlace} {r : Reach} {b0 : Nat}
    (hv : Value.okWide Tryd.prog w r b0 23 v) (h : DataW.Trod enc Tryd.prog w 0 (fun _ => true) true 23 v d p) (hL : Light Tryd.prog 23 d) : ∃ l, ArgRows w v l := by
  obtain ⟨a, len, cap, rfl⟩ := okWide_slice Tryd.underlying23 hv
  obtain ⟨u, l, e, h1, h2, h3⟩ := arg_of (opens_slice 1 24 bsxC (bsxOk w) Tryd.underlying23 (by kernel_rfl) (by omega) (by kernel_rfl) ((opens_bytes Tryd.underlying28 Tryd.underlying5 (by kernel_rfl) (by kernel_rfl)).mono fun cs ⟨vb, n, e, h2, h3⟩ => by
    obtain ⟨ao, cap, rfl, -⟩ := h2.opened
    exact ⟨(n, (ao, cap)), e, rfl, h2, h3⟩)) h hL
  have e : (.slice a len cap : Value) = u := by simpa [Value.cells] using e
  subst e
  exact ⟨l, h1, h2, by omega⟩
/-- The cells of one element. -/
theorem sl_elem {α : Type} {w : World} {v : Value} {k : Nat} (c : α → List Value) {xs : List α} (h : IsSl w v k xs.length (xs.flatMap c)) (hc : ∀ x, (c x).length = k) (hk : 0 < k) (i : Nat) (hi : i < xs.length) :
    ∃ b off cap, v = .slice (some ⟨b, off, none⟩) xs.length cap ∧ xs.length ≤ cap ∧ cap ≤ 9223372036854775807 ∧ ∀ j, j < k → w.cell? ⟨b, off + i * k + j, none⟩ = (c xs[i])[j]? := by
  obtain ⟨hl, ao, cap, rfl, h2, h3, h4, h5⟩ := h
  have hfl : (xs.flatMap c).length = xs.length * k := hl
  have hik : i * k + k ≤ xs.length * k := by rw [← Nat.succ_mul]; exact Nat.mul_le_mul_right _ hi
  obtain ⟨b, off, rfl, -⟩ := h5 (i * k) (by rw [hfl]; omega)
  refine ⟨b, off, cap, rfl, h2, h3, fun j hj => ?_⟩
  obtain ⟨b2, off2, e2, c2⟩ := h5 (i * k + j) (by rw [hfl]; omega)
  simp only [Option.some.injEq, Addr.mk.injEq, and_true] at e2
  obtain ⟨rfl, rfl⟩ := e2
  rw [Nat.add_assoc, c2]
  exact flat_get c k xs (fun x _ => hc x) i hi j hj
/-- What Decode gives, error or not. -/
def decA (b : List UInt8) : Nt := if decErr b = 0 then decN b else n0
def DecA (w : World) (b : List UInt8) (e : Ending) (w' : World) : Prop := Ext w w' ∧ ∃ vb, e = .returned (.tuple #[.agg #[.int .i64 (decA b).kind, .int .u32 ((decA b).view : Int), .int .u32 ((decA b).mark.1 : Int), .int .u32 ((decA b).mark.2 : Int), .int .u32 ((decA b).prev.1 : Int), .int .u32 ((decA b).prev.2 : Int), vb], .int .i64 (decErr b)]) ∧ OwnB w' w.heap.size vb (decA b).bytes
theorem decA_of {w : World} {b : List UInt8} {e : Ending} {w' : World} (h : DecPost w b e w') : DecA w b e w' := by
  obtain ⟨x, ⟨hz, rfl⟩ | ⟨hz, vb, rfl, own⟩⟩ := h
  · have : decA b = n0 := by unfold decA; rw [if_neg hz]
    refine ⟨x, .slice none 0 0, ?_, ?_⟩
    · rw [this]
    · rw [this]
      exact World.ownsRow_nil _ _ _ _
  · have : decA b = decN b := by unfold decA; rw [if_pos hz]
    refine ⟨x, vb, ?_, ?_⟩
    · rw [this, hz]
    · rw [this]
      exact own
theorem bkDecodeA (w : World) (v : Value) (b : List UInt8) (h : IsB w v b) (hb : b.length ≤ 1000000) (hK : Tabs w) :
    Calls Tryd.prog 14 #[v] w (DecA w b) := (bkDecode w v b h hb hK).mono fun _ _ h => decA_of h
theorem rbDecodeA (w : World) (v : Value) (b : List UInt8) (h : IsB w v b) (hb : b.length ≤ 1000000) :
    Calls Tryd.prog 15 #[v] w (DecA w b) := (rbDecode w v b h hb).mono fun _ _ h => decA_of h
theorem decA_len (b : List UInt8) : (decA b).bytes.length ≤ 40000 := by
  unfold decA
  split
  · rename_i h
    exact noted_len (noted_dec h)
  · simp [n0]
theorem sameN_self (n : Nt) : sameN n n = true := by
  unfold sameN
  simp [meq]
end Go.Proofs.YtkcddcomjbihgaaDoor

namespace Go.Proofs.YtkcddcomjbihgaaDoor
open Go.RowKit Go.Deep Go.ChangeShapes Go.WideShapes
set_option linter.unusedVariables false
set_option linter.unusedSimpArgs false

abbrev PrX := Pr × Hd
def prxC (x : PrX) : List Value := [.int .i64 x.1.me, .int .u32 (x.1.v.n : Int), .int .i64 x.1.v.p, .int .i64 x.1.v.b, .int .u32 (x.1.base.1 : Int), .int .u32 (x.1.base.2 : Int), .slice x.2.1 x.1.log.length x.2.2, .bool x.1.known, .bool x.1.joined, .bool x.1.instep, .int .u32 (x.1.acked : Int)]
def prxOk (w : World) (x : PrX) : Prop := IsPr w (.slice x.2.1 x.1.log.length x.2.2) x.1
def ArgPeers (w : World) (v : Value) (xs : List PrX) : Prop := IsSl w v 11 xs.length (xs.flatMap prxC) ∧ (∀ x ∈ xs, prxOk w x) ∧ xs.length ≤ 140737488351232
set_option maxRecDepth 100000 in
theorem open_peers {H : Type} {enc : TypeId × Value → H} {w : World} {v : Value} {d : DataW H} {p : List MemPlace} {r : Reach} {b0 : Nat}
    (hv : Value.okWide Tryd.prog w r b0 84 v) (h : DataW.Trod enc Tryd.prog w 0 (fun _ => true) true 84 v d p) (hL : Light Tryd.prog 84 d) : ∃ l, ArgPeers w v l := by
  obtain ⟨a, len, cap, rfl⟩ := okWide_slice Tryd.underlying84 hv
  obtain ⟨u, l, e, h1, h2, h3⟩ := arg_of (opens_slice 11 72 prxC (prxOk w) Tryd.underlying84 (by kernel_rfl) (by omega) (by kernel_rfl) (opens_peer.mono fun cs ⟨vl, n, e, h2⟩ => by
    obtain ⟨us, hus⟩ := h2.2.2.2
    obtain ⟨ao, cap, rfl, -⟩ := hus.opened
    exact ⟨(n, (ao, cap)), e, rfl, h2⟩)) h hL
  have e : (.slice a len cap : Value) = u := by simpa [Value.cells] using e
  subst e
  exact ⟨l, h1, h2, by omega⟩
theorem IsPr.lg {w : World} {vl : Value} {p : Pr} (h : IsPr w vl p) : IsLg w vl p.log := ⟨h.2.1, h.2.2.2⟩
theorem shortP_ok {p : Pr} (h : PrOk p) : PrOk (shortP p) := ⟨h.me, h.vn, h.vp, h.vb, h.base, h.acked⟩
theorem shortP_lg {p : Pr} (h : ∀ e ∈ p.log, lgOk e) : ∀ e ∈ (shortP p).log, lgOk e := by
  intro e he
  obtain ⟨x, hx, rfl⟩ := List.mem_map.1 he
  have := h x (List.mem_of_mem_take hx)
  refine ⟨this.1, ?_⟩
  show (x.b.take 100).length ≤ _
  rw [List.length_take]
  omega
theorem shortP_len (p : Pr) : (shortP p).log.length ≤ 17 := by
  show ((p.log.take 17).map cutE).length ≤ 17
  rw [List.length_map, List.length_take]
  omega
theorem LgOwn.lg {w : World} {base : Nat} {v : Value} {l : List LgE} {us : List Hd} (h : LgOwn w base v l us) (ok : ∀ e ∈ l, lgOk e) : IsLg w v l := ⟨ok, us, h.fr.u⟩
theorem i64_0 : i64Ok 0 := ⟨by decide, by decide⟩
theorem newP_ok {me : Int} (h : i64Ok me) : PrOk (newP me) := ⟨h, (by decide : (0 : Nat) < 4294967296), i64_0, i64_0, m0Ok, (by decide : (0 : Nat) < 4294967296)⟩
theorem lgNil (w : World) (l : List LgE) (h : l = []) : IsLg w (.slice none 0 0) l := by subst h; exact IsLg.nil w
end Go.Proofs.YtkcddcomjbihgaaDoor

namespace Go.Proofs.YtkcddcomjbihgaaDoor
open Go.RowKit
set_option linter.unusedVariables false
set_option linter.unusedSimpArgs false

set_option maxHeartbeats 400000 in
theorem rbLast (w : World) (vl : Value) (p : Pr) (h : IsLg w vl p.log) :
    Calls Tryd.prog 31 #[.agg #[.int .i64 p.me, .int .u32 (p.v.n : Int), .int .i64 p.v.p, .int .i64 p.v.b, .int .u32 (p.base.1 : Int), .int .u32 (p.base.2 : Int), vl, .bool p.known, .bool p.joined, .bool p.instep, .int .u32 (p.acked : Int)]] w fun e w' => e = .returned (.agg #[.int .u32 ((lastM p).1 : Int), .int .u32 ((lastM p).2 : Int)]) ∧ Ext w w' := by
  obtain ⟨ao, cap, rfl, b1, m1, z1, g1⟩ := h.opened
  by_cases h0 : p.log.length = 0
  · have hl := last_nil h0
    rw [hl]
    clear g1 h hl
    go_enter Tryd.func31, Tryd.ntmps31
    go_wp2_with fail
    exact bodyPost_ret (v := .agg #[.int .u32 (p.base.1 : Int), .int .u32 (p.base.2 : Int)]) (by simp [results, Tryd.results31, go_sem]) rfl ⟨rfl, ((Ext.refl w).alloc _).alloc _⟩
  · have hl := last_at (p := p) (by omega)
    obtain ⟨pb, o, u, rfl, e0, e1, e2, e3⟩ := g1 (p.log.length - 1) (by omega)
    rw [hl]
    generalize p.log[p.log.length - 1] = x at *
    have hlt := World.block_lt_of_cell? _ _ e0
    simp only at hlt
    clear hl h g1 e3 z1
    have hne : ((p.log.length : Int) == 0) = false := by rw [beq_eq_false_iff_ne]; omega
    go_enter Tryd.func31, Tryd.ntmps31
    go_wp2_with fail
    exact bodyPost_ret (v := .agg #[.int .u32 (x.m.1 : Int), .int .u32 (x.m.2 : Int)]) (by simp [results, Tryd.results31, go_sem]) rfl ⟨rfl, ((Ext.refl w).alloc _).alloc _⟩
/-- The other one of a view, as the document says. -/
def oth (p : Pr) : Int := if (p.me == p.v.p) = true then p.v.b else if (p.me == p.v.b) = true then p.v.p else 0
set_option maxHeartbeats 1000000 in
theorem rbOther (w : World) (vl : Value) (p : Pr) :
    Calls Tryd.prog 69 #[.agg #[.int .i64 p.me, .int .u32 (p.v.n : Int), .int .i64 p.v.p, .int .i64 p.v.b, .int .u32 (p.base.1 : Int), .int .u32 (p.base.2 : Int), vl, .bool p.known, .bool p.joined, .bool p.instep, .int .u32 (p.acked : Int)]] w fun e w' => e = .returned (.int .i64 (oth p)) ∧ Ext w w' := by
  generalize hR : oth p = R
  have HR := Lib.hid hR
  clear hR
  go_enter Tryd.func69, Tryd.ntmps69
  go_wp2_with fail
  all_goals
    go_ret
    exact ⟨ret_int (by rw [← HR.out]; simp [oth, *]), (Ext.refl w).alloc _⟩
def rdyB (p : Pr) : Bool := (p.me == p.v.p) || ((p.me == p.v.b) && p.instep)
set_option maxHeartbeats 1000000 in
theorem rbReady (w : World) (vl : Value) (p : Pr) :
    Calls Tryd.prog 33 #[.agg #[.int .i64 p.me, .int .u32 (p.v.n : Int), .int .i64 p.v.p, .int .i64 p.v.b, .int .u32 (p.base.1 : Int), .int .u32 (p.base.2 : Int), vl, .bool p.known, .bool p.joined, .bool p.instep, .int .u32 (p.acked : Int)]] w fun e w' => e = .returned (.bool (rdyB p)) ∧ Ext w w' := by
  generalize hR : rdyB p = R
  have HR := Lib.hid hR
  clear hR
  go_enter Tryd.func33, Tryd.ntmps33
  go_wp2_with fail
  all_goals
    go_ret
    exact ⟨ret_bool (by rw [← HR.out]; unfold rdyB; cases q1 : (p.me == p.v.p) <;> cases q2 : (p.me == p.v.b) <;> simp_all), (Ext.refl w).alloc _⟩
def surN (p : Pr) : Nat := if (p.me == p.v.p) = false then 0 else if (p.v.b == 0) = true then (lastM p).2 else if p.known = true then p.acked else 0
set_option maxHeartbeats 1000000 in
set_option maxRecDepth 100000 in
theorem rbSure (w : World) (vl : Value) (p : Pr) (h : IsLg w vl p.log) :
    Calls Tryd.prog 32 #[.agg #[.int .i64 p.me, .int .u32 (p.v.n : Int), .int .i64 p.v.p, .int .i64 p.v.b, .int .u32 (p.base.1 : Int), .int .u32 (p.base.2 : Int), vl, .bool p.known, .bool p.joined, .bool p.instep, .int .u32 (p.acked : Int)]] w fun e w' => e = .returned (.int .u32 (surN p : Int)) ∧ Ext w w' := by
  generalize hR : surN p = R
  have HR := Lib.hid hR
  clear hR
  have H := Lib.hid h
  obtain ⟨ao, cap, rfl, -⟩ := h.opened
  clear h
  have hmf := mkField1
  go_enter Tryd.func32, Tryd.ntmps32
  go_upto_region 1 with fail
  refine wp_forget (fun W => Ext w W ∧ W.heap[w.heap.size]? = some (.cells #[.int .i64 p.me, .int .u32 (p.v.n : Int), .int .i64 p.v.p, .int .i64 p.v.b, .int .u32 (p.base.1 : Int), .int .u32 (p.base.2 : Int), (.slice ao p.log.length cap), .bool p.known, .bool p.joined, .bool p.instep, .int .u32 (p.acked : Int)] 47 (0, 0))) ⟨(Ext.refl w).alloc _, heap_alloc_new w _⟩ ?_
  rintro W ⟨X, bP⟩
  have HX := Lib.hid X
  have hc := block_all bP
  clear X
  cases q1 : (p.me == p.v.p) with
  | false =>
    have q1' : (p.me != p.v.p) = true := by rw [bne, q1]; rfl
    go_wp2_with fail
    go_ret
    exact ⟨ret_int (by rw [← HR.out]; simp [surN, q1]), HX.out⟩
  | true =>
    have q1' : (p.me != p.v.p) = false := by rw [bne, q1]; rfl
    cases q2 : (p.v.b == 0) with
    | true =>
      have HQ := Lib.hid (show (lastM p).2 = R by rw [← HR.out]; unfold surN; rw [if_neg (by rw [q1]; decide), if_pos q2])
      clear q1
      go_wp2_with fail
      refine (rbLast _ _ p (H.out.ext HX.out)).mono ?_
      rintro e w1 ⟨rfl, y⟩
      go_wp2_with fail
      go_ret
      exact ⟨ret_int (by rw [← HQ.out]), HX.out.trans y⟩
    | false =>
      cases q3 : p.known with
      | true =>
        go_wp2_with fail
        all_goals
          go_ret
          exact ⟨ret_int (by rw [← HR.out]; unfold surN; rw [if_neg (by rw [q1]; decide), if_neg (by rw [q2]; decide), if_pos q3]), HX.out⟩
      | false =>
        go_wp2_with fail
        go_ret
        exact ⟨ret_int (by rw [← HR.out]; unfold surN; rw [if_neg (by rw [q1]; decide), if_neg (by rw [q2]; decide), if_neg (by rw [q3]; decide)]; rfl), HX.out⟩
set_option maxHeartbeats 1000000 in
set_option maxRecDepth 100000 in
theorem rbSend (w : World) (vl vb : Value) (p : Pr) (n : Nt) (h : IsB w vb n.bytes) (hp : PrOk p) (ho : NtOk n) (hb : n.bytes.length ≤ 50000) :
    Calls Tryd.prog 68 #[.agg #[.int .i64 p.me, .int .u32 (p.v.n : Int), .int .i64 p.v.p, .int .i64 p.v.b, .int .u32 (p.base.1 : Int), .int .u32 (p.base.2 : Int), vl, .bool p.known, .bool p.joined, .bool p.instep, .int .u32 (p.acked : Int)], .agg #[.int .i64 n.kind, .int .u32 (n.view : Int), .int .u32 (n.mark.1 : Int), .int .u32 (n.mark.2 : Int), .int .u32 (n.prev.1 : Int), .int .u32 (n.prev.2 : Int), vb]] w fun e w' => ∃ v', e = .returned (.agg #[.int .i64 (oth p), v']) ∧ OwnB w' w.heap.size v' (encN { n with view := p.v.n }) ∧ Ext w w' := by
  obtain ⟨ao, cap, rfl, -⟩ := h.opened
  have h1 := h.ext (((((Ext.refl w).alloc (.cells #[.int .i64 p.me, .int .u32 (p.v.n : Int), .int .i64 p.v.p, .int .i64 p.v.b, .int .u32 (p.base.1 : Int), .int .u32 (p.base.2 : Int), vl, .bool p.known, .bool p.joined, .bool p.instep, .int .u32 (p.acked : Int)] 47))).alloc (.cells #[.int .i64 {n with view := p.v.n}.kind, .int .u32 ({n with view := p.v.n}.view : Int), .int .u32 ({n with view := p.v.n}.mark.1 : Int), .int .u32 ({n with view := p.v.n}.mark.2 : Int), .int .u32 ({n with view := p.v.n}.prev.1 : Int), .int .u32 ({n with view := p.v.n}.prev.2 : Int), (.slice ao n.bytes.length cap)] 30)).alloc (.cells #[.int .i64 0, .slice none 0 0] 88))
  have HB := Lib.hid h1
  clear h h1
  go_enter Tryd.func68, Tryd.ntmps68
  go_wp2_with fail
  refine wp_forget (fun W => IsB W (.slice ao n.bytes.length cap) n.bytes ∧ Ext w W ∧ W.heap[w.heap.size]? = some (.cells #[.int .i64 p.me, .int .u32 (p.v.n : Int), .int .i64 p.v.p, .int .i64 p.v.b, .int .u32 (p.base.1 : Int), .int .u32 (p.base.2 : Int), vl, .bool p.known, .bool p.joined, .bool p.instep, .int .u32 (p.acked : Int)] 47 (0, 0)) ∧ W.heap[w.heap.size + 1]? = some (.cells #[.int .i64 {n with view := p.v.n}.kind, .int .u32 ({n with view := p.v.n}.view : Int), .int .u32 ({n with view := p.v.n}.mark.1 : Int), .int .u32 ({n with view := p.v.n}.mark.2 : Int), .int .u32 ({n with view := p.v.n}.prev.1 : Int), .int .u32 ({n with view := p.v.n}.prev.2 : Int), (.slice ao n.bytes.length cap)] 30 (0, 0)) ∧ W.heap[w.heap.size + 2]? = some (.cells #[.int .i64 0, .slice none 0 0] 88 (0, 0))) ⟨HB.out, (((Ext.refl w).alloc _).alloc _).alloc _, blk_old (blk_old (heap_alloc_new w _)), blk_old (blk_new (by simp)), blk_new (by simp)⟩ ?_
  rintro W ⟨hB, X, bP, bN, bL⟩
  have KP := fun v (h : Ext W v) => block_all (h.keeps bP)
  have KN := fun v (h : Ext W v) => block_all (h.keeps bN)
  have HB := Lib.hid hB
  have BL := Lib.hid bL
  have ho2 : NtOk { n with view := p.v.n } := ⟨ho.kind, hp.vn, ho.mark, ho.prev⟩
  clear hB bP bN bL
  refine wp_region_G 5 (fun v => Ext W v) (by kernel_rfl) fun wd hqd hHeld => ?_
  refine G_take (i := 0) (u := ?va0) rfl (by kernel_rfl) (by kernel_rfl) (by kernel_rfl) (fun _ _ _ h => h) rfl (by kernel_rfl) (by decide) (by rfl) (Or.inl ⟨by rfl, ?hya0⟩) hHeld ?_
  case hya0 => (intro w hSw; go_simp; try with_reducible rfl)
  simp only [Act.put, List.setIfInBounds_toArray, List.set_cons_zero, List.set_cons_succ, List.getElem_toArray, List.getElem_cons_zero, List.getElem_cons_succ]
  refine G_take (i := 2) (u := ?va2) rfl (by kernel_rfl) (by kernel_rfl) (by kernel_rfl) (fun _ _ _ h => h) rfl (by kernel_rfl) (by decide) (by rfl) (Or.inl ⟨by rfl, ?hya2⟩) hHeld ?_
  case hya2 => (intro w hSw; go_simp; try with_reducible rfl)
  simp only [Act.put, List.setIfInBounds_toArray, List.set_cons_zero, List.set_cons_succ, List.getElem_toArray, List.getElem_cons_zero, List.getElem_cons_succ]
  refine G_all (rs := [1]) (by kernel_rfl) (by simp) ?_
  intro i hi; obtain rfl : i = 1 := by simpa using hi
  refine wpOp_run rfl (by rfl) ?_
  go_simp
  refine Calls.mono (rbOther _ _ p) ?_
  rintro e w4 ⟨rfl, x4⟩
  have hHeld := hHeld.trans x4
  first | refine ⟨fun _ => hHeld, ?_⟩ | refine ⟨hHeld, ?_⟩
  try simp only [Act.put, List.setIfInBounds_toArray, List.set_cons_zero, List.set_cons_succ, List.getElem_toArray, List.getElem_cons_zero, List.getElem_cons_succ]
  refine G_all (rs := [3]) (by kernel_rfl) (by simp) ?_
  intro i hi; obtain rfl : i = 3 := by simpa using hi
  refine wpOp_run rfl (by rfl) ?_
  go_simp
  refine Calls.mono (rbBytes _ _ { n with view := p.v.n } (HB.out.ext hHeld) ho2 hb) ?_
  rintro e w5 ⟨v5, rfl, own5, x5⟩
  have hne5 := own_ne own5 (.inl (block_lt (hHeld.keeps BL.out)))
  have own5 := ownsRow_base own5 (X.trans hHeld).size
  obtain ⟨a5, c5, rfl⟩ := own_shape own5
  have hHeld := hHeld.trans x5
  first | refine ⟨fun _ => hHeld, ?_⟩ | refine ⟨hHeld, ?_⟩
  try simp only [Act.put, List.setIfInBounds_toArray, List.set_cons_zero, List.set_cons_succ, List.getElem_toArray, List.getElem_cons_zero, List.getElem_cons_succ]
  refine G_pure (i := 4) (u := ?va4) rfl (by kernel_rfl) (by kernel_rfl) (by kernel_rfl) (fun _ _ _ h => h) (by decide) (Or.inl ⟨by rfl, ?hya4⟩) hHeld ?_
  case hya4 => (intro w hSw; go_simp; try with_reducible rfl)
  simp only [Act.put, List.setIfInBounds_toArray, List.set_cons_zero, List.set_cons_succ, List.getElem_toArray, List.getElem_cons_zero, List.getElem_cons_succ]
  refine G_all (rs := [5]) (by kernel_rfl) (by simp) ?_
  intro i hi; obtain rfl : i = 5 := by simpa using hi
  refine wpOp_run rfl (by rfl) ?_
  have bL5 := hHeld.keeps BL.out
  refine wp_store_row 88 (.tmp 4) (.tmp 13) rfl (w.heap.size + 2) #[.int .i64 (oth p), .slice a5 (encN { n with view := p.v.n }).length c5] (by rfl) (by rfl) 88 _ bL5 (by kernel_rfl) rfl (by simp [Value.oneCell']) ?_
  try refine ⟨fun e => absurd e (by decide), ?_⟩
  refine G_free _ _ _ _ (by kernel_rfl) ?_
  try simp only [Act.put, List.setIfInBounds_toArray, List.set_cons_zero, List.set_cons_succ, List.getElem_toArray, List.getElem_cons_zero, List.getElem_cons_succ]
  refine wpAny_done (by kernel_rfl) ?_ _
  refine NoPanic.normal ?_
  have bL6 := setRow_heap w5 (w.heap.size + 2) _ #[.int .i64 (oth p), .slice a5 (encN { n with view := p.v.n }).length c5] _ _ bL5
  have own6 := ownsRow_grown own5 (grown_setRow (g := w.heap.size + 2) (c := #[.int .i64 (oth p), .slice a5 (encN { n with view := p.v.n }).length c5])) hne5
  have X6 := (X.trans hHeld).grown (grown_setRow (g := w.heap.size + 2) (c := #[.int .i64 (oth p), .slice a5 (encN { n with view := p.v.n }).length c5])) (fun k hk => by cases hk; omega)
  have HO := Lib.hid own6
  clear own5 own6 KP KN bL5
  go_wp2_with fail
  exact bodyPost_ret (results_cell_row rfl _ _ (w.heap.size + 2) _ _ _ _ (by rfl) bL6 Tryd.underlying88 rfl (by kernel_rfl)) rfl ⟨_, rfl, HO.out, X6⟩
end Go.Proofs.YtkcddcomjbihgaaDoor

namespace Go.Proofs.YtkcddcomjbihgaaDoor
open Go.RowKit
set_option linter.unusedVariables false
set_option linter.unusedSimpArgs false

/-- What a right peer is, piece by piece. -/
theorem right_all {p : Pr} (h : rightB p = true) : serverB p.me = true ∧ (viewedB p.v || veq p.v v0) = true ∧ p.log.length ≤ 16 ∧ enB p.v.n p.base p.log = true ∧ p.acked ≤ (lastM p).2 ∧ (p.known = true → (p.me == p.v.p) = true ∧ p.v.b ≠ 0) ∧ (p.known = false → p.acked = 0) ∧ (p.joined = true → (p.me == p.v.b) = true) ∧ (p.instep = true → p.joined = true) := by
  unfold rightB at h
  obtain ⟨h, h5⟩ := Bool.and_eq_true _ _ ▸ h
  obtain ⟨h, h4⟩ := Bool.and_eq_true _ _ ▸ h
  obtain ⟨h, h3⟩ := Bool.and_eq_true _ _ ▸ h
  obtain ⟨h1, h2⟩ := Bool.and_eq_true _ _ ▸ h
  obtain ⟨h1, hl⟩ := Bool.and_eq_true _ _ ▸ h1
  obtain ⟨h1, hv⟩ := Bool.and_eq_true _ _ ▸ h1
  refine ⟨h1, hv, of_decide_eq_true hl, h3, of_decide_eq_true h4, ?_⟩
  cases q1 : p.known <;> cases q2 : p.joined <;> cases q3 : p.instep <;> simp_all
theorem prim_eq {p : Pr} (h : rightB p = true) : primB p = (p.me == p.v.p) := (prim_right (right_all h).1 (right_all h).2.1).1
theorem sec_eq {p : Pr} (h : rightB p = true) : secB p = (p.me == p.v.b) := (prim_right (right_all h).1 (right_all h).2.1).2
theorem oth_eq {p : Pr} (h : rightB p = true) : otherI p = oth p := by
  unfold otherI oth
  rw [prim_eq h, sec_eq h]
theorem rdy_eq {p : Pr} (h : rightB p = true) : readyB p = rdyB p := by
  unfold readyB rdyB
  rw [prim_eq h, sec_eq h, h, Bool.true_and]
theorem sur_eq {p : Pr} (h : rightB p = true) : sureN p = surN p := by
  have h6 := (right_all h).2.2.2.2.2.2.1
  unfold sureN surN
  rw [prim_eq h, h]
  cases q1 : (p.me == p.v.p)
  · simp
  · by_cases q2 : p.v.b = 0
    · simp [q2]
    · cases q3 : p.known
      · simp [q2, h6 q3]
      · simp [q2]
end Go.Proofs.YtkcddcomjbihgaaDoor

namespace Go.Proofs.YtkcddcomjbihgaaDoor
open Go.RowKit
set_option linter.unusedVariables false
set_option linter.unusedSimpArgs false

set_option maxHeartbeats 4000000 in
set_option maxRecDepth 100000 in
theorem rbKeep (w W0 : World) (base : Nat) (x0 : Ext W0 w) (h0 : W0.heap.size ≤ base) (hbw : base ≤ w.heap.size) (v vb : Value) (p : Pr) (us : List Hd) (h : LgOwn w base v p.log us) (m : Mk) (b : List UInt8) (hb : IsB w vb b) (hl : p.log.length ≤ 1000) (hbl : b.length ≤ 100000) :
    Calls Tryd.prog 67 #[.agg #[.int .i64 p.me, .int .u32 (p.v.n : Int), .int .i64 p.v.p, .int .i64 p.v.b, .int .u32 (p.base.1 : Int), .int .u32 (p.base.2 : Int), v, .bool p.known, .bool p.joined, .bool p.instep, .int .u32 (p.acked : Int)], .agg #[.int .u32 (m.1 : Int), .int .u32 (m.2 : Int), vb]] w (KeptPost w W0 base v (keptP p ⟨m, b⟩)) := by
  obtain ⟨a1, c1, rfl⟩ := own_shape h.own
  obtain ⟨ab, cb, rfl, -⟩ := hb.opened
  obtain ⟨K, hK⟩ : ∃ K, keptP p ⟨m, b⟩ = K := ⟨_, rfl⟩
  rw [hK]
  have HK := Lib.hid hK
  clear hK
  have XA : Ext w (((w.alloc (.cells #[.int .i64 p.me, .int .u32 (p.v.n : Int), .int .i64 p.v.p, .int .i64 p.v.b, .int .u32 (p.base.1 : Int), .int .u32 (p.base.2 : Int), (.slice a1 p.log.length c1), .bool p.known, .bool p.joined, .bool p.instep, .int .u32 (p.acked : Int)] 47)).alloc (.cells #[.int .u32 (m.1 : Int), .int .u32 (m.2 : Int), .slice ab b.length cb] 108)).alloc (.cells #[.int .i64 0, .int .u32 0, .int .i64 0, .int .i64 0, .int .u32 0, .int .u32 0, .slice none 0 0, .bool false, .bool false, .bool false, .int .u32 0] 47)) := (((Ext.refl w).alloc _).alloc _).alloc _
  have H1 := Lib.hid (h.ext XA)
  have HB := Lib.hid (hb.ext XA)
  have HX := Lib.hid (x0.trans XA)
  have HXA := Lib.hid XA
  clear h hb XA
  go_enter Tryd.func67, Tryd.ntmps67
  go_wp2_with fail
  refine wp_forget (fun W => LgOwn W base (.slice a1 p.log.length c1) p.log us ∧ IsB W (.slice ab b.length cb) b ∧ Ext W0 W ∧ Ext w W ∧ W.heap[w.heap.size]? = some (.cells #[.int .i64 p.me, .int .u32 (p.v.n : Int), .int .i64 p.v.p, .int .i64 p.v.b, .int .u32 (p.base.1 : Int), .int .u32 (p.base.2 : Int), (.slice a1 p.log.length c1), .bool p.known, .bool p.joined, .bool p.instep, .int .u32 (p.acked : Int)] 47 (0, 0)) ∧ W.heap[w.heap.size + 1]? = some (.cells #[.int .u32 (m.1 : Int), .int .u32 (m.2 : Int), .slice ab b.length cb] 108 (0, 0)) ∧ W.heap[w.heap.size + 2]? = some (.cells #[.int .i64 0, .int .u32 0, .int .i64 0, .int .i64 0, .int .u32 0, .int .u32 0, .slice none 0 0, .bool false, .bool false, .bool false, .int .u32 0] 47 (0, 0))) ⟨H1.out, HB.out, HX.out, HXA.out, blk_old (blk_old (heap_alloc_new w _)), blk_old (blk_new (by simp)), blk_new (by simp)⟩ ?_
  rintro W ⟨hO, hB, X, XW, bP, bM, bZ⟩
  clear H1 HB HX
  have KP := fun v (h : Ext W v) => block_all (h.keeps bP)
  have KM := fun v (h : Ext W v) => block_all (h.keeps bM)
  have HB := Lib.hid hB
  have HO := Lib.hid hO
  have BP := Lib.hid bP
  have BZ := Lib.hid bZ
  have hbW : base ≤ W.heap.size := by have := block_lt bP; omega
  have h0w : W0.heap.size ≤ w.heap.size := by omega
  clear hB hO bP bM bZ
  refine wp_region_G 10 (fun v => Ext W v) (by kernel_rfl) fun wd hqd hHeld => ?_
  refine G_pure (i := 0) (u := ?va0) rfl (by kernel_rfl) (by kernel_rfl) (by kernel_rfl) (fun _ _ _ h => h) (by decide) (Or.inl ⟨by rfl, ?hya0⟩) hHeld ?_
  case hya0 => (intro w hSw; go_simp; try with_reducible rfl)
  simp only [Act.put, List.setIfInBounds_toArray, List.set_cons_zero, List.set_cons_succ, List.getElem_toArray, List.getElem_cons_zero, List.getElem_cons_succ]
  refine G_take (i := 1) (u := ?va1) rfl (by kernel_rfl) (by kernel_rfl) (by kernel_rfl) (fun _ _ _ h => h) rfl (by kernel_rfl) (by decide) (by rfl) (Or.inl ⟨by rfl, ?hya1⟩) hHeld ?_
  case hya1 => (intro w hSw; go_simp; try with_reducible rfl)
  simp only [Act.put, List.setIfInBounds_toArray, List.set_cons_zero, List.set_cons_succ, List.getElem_toArray, List.getElem_cons_zero, List.getElem_cons_succ]
  refine G_pure (i := 2) (u := ?va2) rfl (by kernel_rfl) (by kernel_rfl) (by kernel_rfl) (fun _ _ _ h => h) (by decide) (Or.inl ⟨by rfl, ?hya2⟩) hHeld ?_
  case hya2 => (intro w hSw; go_simp; try with_reducible rfl)
  simp only [Act.put, List.setIfInBounds_toArray, List.set_cons_zero, List.set_cons_succ, List.getElem_toArray, List.getElem_cons_zero, List.getElem_cons_succ]
  refine C_take (i := 3) (u := ?va3) [8, 9, 10] rfl (by kernel_rfl) (by kernel_rfl) (by kernel_rfl) (fun _ _ _ h => h) (by kernel_rfl) (by kernel_rfl) (by kernel_rfl) (by kernel_rfl) (Or.inl ⟨by rfl, ?hya3⟩) hHeld ?_
  case hya3 => (intro w hSw; go_simp; try with_reducible rfl)
  simp only [Act.put, List.setIfInBounds_toArray, List.set_cons_zero, List.set_cons_succ, List.getElem_toArray, List.getElem_cons_zero, List.getElem_cons_succ]
  refine G_pure (i := 5) (u := ?va5) rfl (by kernel_rfl) (by kernel_rfl) (by kernel_rfl) (fun _ _ _ h => h) (by decide) (Or.inl ⟨by rfl, ?hya5⟩) hHeld ?_
  case hya5 => (intro w hSw; go_simp; try with_reducible rfl)
  simp only [Act.put, List.setIfInBounds_toArray, List.set_cons_zero, List.set_cons_succ, List.getElem_toArray, List.getElem_cons_zero, List.getElem_cons_succ]
  refine C_take (i := 6) (u := ?va6) [7, 10] rfl (by kernel_rfl) (by kernel_rfl) (by kernel_rfl) (fun _ _ _ h => h) (by kernel_rfl) (by kernel_rfl) (by kernel_rfl) (by kernel_rfl) (Or.inl ⟨by rfl, ?hya6⟩) hHeld ?_
  case hya6 => (intro w hSw; go_simp; try with_reducible rfl)
  simp only [Act.put, List.setIfInBounds_toArray, List.set_cons_zero, List.set_cons_succ, List.getElem_toArray, List.getElem_cons_zero, List.getElem_cons_succ]
  refine G_all (rs := [4]) (by kernel_rfl) (by simp) ?_
  intro i hi; obtain rfl : i = 4 := by simpa using hi
  refine wpOp_run rfl (by rfl) ?_
  have hHd := hHeld
  go_simp
  have hHeld := hHeld.trans ((Ext.refl _).alloc (.cells #[] 5))
  have o0 := World.ownsRow_made (base := wd.heap.size) (e := 5) (size := 1) wd #[] 0 (Nat.le_refl _) (by decide) rfl
  first | refine ⟨fun _ => hHeld, ?_⟩ | refine ⟨hHeld, ?_⟩ | skip
  try simp only [Act.put, List.setIfInBounds_toArray, List.set_cons_zero, List.set_cons_succ, List.getElem_toArray, List.getElem_cons_zero, List.getElem_cons_succ]
  refine G_all (rs := [7]) (by kernel_rfl) (by simp) ?_
  intro i hi; obtain rfl : i = 7 := by simpa using hi
  refine wpOp_run rfl (by rfl) ?_
  refine wp_appO tyB (.tmp 9) (.tmp 11) rfl wd.heap.size _ 0 [] o0 (by rfl) _ b.length (b.map bc) (HB.out.ext hHeld) (by rfl) (bc_one _) (by omega) (by omega) (by simp) ?_
  intro v9 w9 own9 gr9
  rw [Nat.zero_add, List.nil_append] at own9
  have x9 := own_base o0 gr9 ((Ext.refl wd).alloc _) (Nat.le_refl _)
  have hHeld := hHd.trans x9
  have own9 := ownsRow_base own9 (Nat.le_trans hbW hHd.size)
  obtain ⟨a9, c9, rfl⟩ := own_shape own9
  first | refine ⟨fun _ => hHeld, ?_⟩ | refine ⟨hHeld, ?_⟩ | skip
  try simp only [Act.put, List.setIfInBounds_toArray, List.set_cons_zero, List.set_cons_succ, List.getElem_toArray, List.getElem_cons_zero, List.getElem_cons_succ]
  refine G_pure (i := 8) (u := ?va8) rfl (by kernel_rfl) (by kernel_rfl) (by kernel_rfl) (fun _ _ _ h => h) (by decide) (Or.inl ⟨by rfl, ?hya8⟩) hHeld ?_
  case hya8 => (intro w hSw; go_simp; try with_reducible rfl)
  simp only [Act.put, List.setIfInBounds_toArray, List.set_cons_zero, List.set_cons_succ, List.getElem_toArray, List.getElem_cons_zero, List.getElem_cons_succ]
  refine G_all (rs := [9]) (by kernel_rfl) (by simp) ?_
  intro i hi; obtain rfl : i = 9 := by simpa using hi
  refine wpOp_run rfl (by rfl) ?_
  refine wp_buildOne 45 (.tmp 13) rfl (lgV ⟨m, b⟩ (a9, c9)) (by rfl) (build_one _ 45 108 3 Tryd.underlying45 infoLg3 (by omega) (by omega) _ rfl) ?_
  have xb : Ext w9 (w9.alloc (.cells (lgV ⟨m, b⟩ (a9, c9)).toArray 108)) := (Ext.refl w9).alloc _
  have hHeld := hHeld.trans xb
  first | refine ⟨fun _ => hHeld, ?_⟩ | refine ⟨hHeld, ?_⟩ | skip
  try simp only [Act.put, List.setIfInBounds_toArray, List.set_cons_zero, List.set_cons_succ, List.getElem_toArray, List.getElem_cons_zero, List.getElem_cons_succ]
  refine G_all (rs := [10]) (by kernel_rfl) (by simp) ?_
  intro i hi; obtain rfl : i = 10 := by simpa using hi
  refine wpOp_run rfl (by rfl) ?_
  refine wp_appO tyLg (.tmp 6) (.tmp 14) rfl base (.slice a1 p.log.length c1) p.log.length _ (HO.out.ext hHeld).own (by rfl) _ 1 (lgV ⟨m, b⟩ (a9, c9)) (sl_one_new (w := w9) (n := 3) (e := 108) rfl rfl) (by rfl) (lgV_one _ _) (by omega) (by omega) (Nat.le_trans hbW hHeld.size) ?_
  intro v10 w10 own10 gr10
  have bP10 := grown_keep gr10 (hHeld.keeps BP.out) (own_neT (HO.out.ext hHeld).own (hHeld.keeps BP.out) (by decide))
  obtain ⟨a10, c10, rfl⟩ := own_shape own10
  try refine ⟨fun e => absurd e (by decide), ?_⟩
  refine G_free _ _ _ _ (by kernel_rfl) ?_
  try simp only [Act.put, List.setIfInBounds_toArray, List.set_cons_zero, List.set_cons_succ, List.getElem_toArray, List.getElem_cons_zero, List.getElem_cons_succ]
  refine wpAny_take (i := 11) (v := ?va11) rfl (by kernel_rfl) (by kernel_rfl) (by kernel_rfl) (fun _ _ _ h => h) (Or.inl ⟨by rfl, ?hya11⟩) ?_
  case hya11 => (intro w ; go_simp; try with_reducible rfl)
  simp only [Act.put, List.setIfInBounds_toArray, List.set_cons_zero, List.set_cons_succ, List.getElem_toArray, List.getElem_cons_zero, List.getElem_cons_succ]
  refine wpAny_all (rs := [12]) (by kernel_rfl) (by simp) ?_
  intro i hi; obtain rfl : i = 12 := by simpa using hi
  refine wpOp_run rfl (by rfl) ?_
  have kk := block_all bP10
  have ff := fun i => block_free bP10 i
  go_simp
  try simp only [Act.put, List.setIfInBounds_toArray, List.set_cons_zero, List.set_cons_succ, List.getElem_toArray, List.getElem_cons_zero, List.getElem_cons_succ]
  refine wpAny_done (by kernel_rfl) ?_ _
  refine NoPanic.normal ?_
  have own10b := own10
  have hOx := HO.out.ext hHeld
  have L2 : LgOwn (w10.setCell ⟨w.heap.size, 6, none⟩ (.slice a10 (p.log.length + 1) c10)) base (.slice a10 (p.log.length + 1) c10) (p.log ++ [⟨m, b⟩]) (us ++ [(a9, c9)]) := by
    have hlen := HO.out.len
    refine ⟨by simp [hlen], ?_, ?_⟩
    · rw [lgCs_app _ _ _ _ hlen, List.length_append, List.length_singleton]
      exact ownsRow_grown own10 (grown_setCell _ _ _ _) (own_neT own10 bP10 (by decide))
    · intro i hi u hu
      by_cases hin : i < p.log.length
      · rw [List.getElem?_append_left (by omega)] at hu
        have h1 := own_thru (hOx.bs i hin u hu) hOx.own (by decide) gr10
        rw [List.getElem_append_left hin]
        exact ownsRow_grown h1 (grown_setCell _ _ _ _) (own_neT h1 bP10 (by decide))
      · have hi' : i = p.log.length := by simp at hi; omega
        subst hi'
        rw [List.getElem?_append_right (by omega), hlen, Nat.sub_self] at hu
        simp only [List.getElem?_cons_zero, Option.some.injEq] at hu
        subst hu
        rw [List.getElem_append_right (by omega)]
        simp only [Nat.sub_self, List.getElem_cons_zero]
        have h0 : OwnB (w9.alloc (.cells (lgV ⟨m, b⟩ (a9, c9)).toArray 108)) base (.slice a9 b.length c9) b := ownsRow_ext own9 xb
        have h1 := own_thru h0 hOx.own (by decide) gr10
        exact ownsRow_grown h1 (grown_setCell _ _ _ _) (own_neT h1 bP10 (by decide))
  have bP2 := block_setCell bP10 (i := 6) (.slice a10 (p.log.length + 1) c10)
  have bZ10 := grown_keep gr10 (hHeld.keeps BZ.out) (own_neT hOx.own (hHeld.keeps BZ.out) (by decide))
  have bZ2 := set_other bZ10 (r := w.heap.size) (i := 6) (u := .slice a10 (p.log.length + 1) c10) (by omega)
  have X2 := ((X.trans hHeld).grown gr10 (fun k hk => by have := (hOx.own.lt k hk).1; omega)).setCell (p := ⟨w.heap.size, 6, none⟩) h0w (.slice a10 (p.log.length + 1) c10)
  have GR := Lib.hid (grown_newC (grown_trans (ext_grown (XW.trans hHeld) _) gr10) (Nat.le_refl w.heap.size) (i := 6) (.slice a10 (p.log.length + 1) c10))
  have bP2 : (w10.setCell ⟨w.heap.size, 6, none⟩ (.slice a10 (p.log.length + 1) c10)).heap[w.heap.size]? = some (.cells #[.int .i64 p.me, .int .u32 (p.v.n : Int), .int .i64 p.v.p, .int .i64 p.v.b, .int .u32 (p.base.1 : Int), .int .u32 (p.base.2 : Int), (.slice a10 (p.log.length + 1) c10), .bool p.known, .bool p.joined, .bool p.instep, .int .u32 (p.acked : Int)] 47 (0, 0)) := by simpa using bP2
  generalize w10.setCell ⟨w.heap.size, 6, none⟩ (.slice a10 (p.log.length + 1) c10) = W2 at *
  clear own10 own10b hOx gr10 bP10 bZ10 own9 xb kk ff KP KM HO BP BZ
  have cP := block_all bP2
  by_cases h16 : 16 < p.log.length + 1
  · have hk1 : keptP p ⟨m, b⟩ = { p with base := ((p.log ++ [(⟨m, b⟩ : LgE)]).head?.map (·.m)).getD p.base, log := (p.log ++ [(⟨m, b⟩ : LgE)]).tail } := by unfold keptP; rw [if_pos h16]
    have hk2 := HK.out
    rw [hk1] at hk2
    obtain ⟨g, cg, he, hgb, hgl⟩ := own_row L2.own (by simp)
    simp only [Value.slice.injEq, List.length_append, List.length_singleton, true_and] at he
    obtain ⟨rfl, rfl⟩ := he
    have hcap : p.log.length + 1 ≤ c10 := by
      obtain ⟨_, ao, cap, e, hh, _⟩ := IsSl.of_owns L2.own
      simp only [Value.slice.injEq, List.length_append, List.length_singleton] at e hh
      omega
    have hc1 : c10 ≠ 1 := by omega
    have hlen2 : (p.log ++ [(⟨m, b⟩ : LgE)]).length = p.log.length + 1 := by simp
    have hus2 := L2.len
    clear hk1
    generalize p.log ++ [(⟨m, b⟩ : LgE)] = L at *
    generalize us ++ [(a9, c9)] = U at *
    have hown := L2.own
    rw [hlen2] at hown
    have q0 := hown.cellAt 0 (by omega)
    have q1 := hown.cellAt 1 (by omega)
    have hg3 := lgCs_get L U 0 (by omega) (by omega)
    have hfirst : (L.head?.map (·.m)).getD p.base = L[0].m := by rw [List.head?_eq_getElem?, List.getElem?_eq_getElem (by omega)]; rfl
    rw [hfirst] at hk2
    rw [hg3.1] at q0
    have q1 : W2.cell? ⟨g, 1, none⟩ = some (.int .u32 (L[0].m.2 : Int)) := q1.trans hg3.2.1
    have f1 : (1 : Int) ≤ (p.log.length : Int) + 1 := by omega
    obtain ⟨Z, hZ⟩ : ∃ Z : Array Value, #[Value.int .i64 0, .int .u32 0, .int .i64 0, .int .i64 0, .int .u32 0, .int .u32 0, .slice none 0 0, .bool false, .bool false, .bool false, .int .u32 0] = Z := ⟨_, rfl⟩
    rw [hZ] at bZ2
    have hZs : Z.size = 11 := by rw [← hZ]; rfl
    clear hZ
    have KP := fun v (h : Ext W2 v) => block_all (h.keeps bP2)
    have K0 := fun v (h : Ext W2 v) => h.cell q0
    have K1 := fun v (h : Ext W2 v) => h.cell q1
    have hlg0 : g < W2.heap.size := hgl
    have LFR : ∀ (W3 : World) (Y : Array Value), W2.grownBy W3 (some w.heap.size) → W3.heap[w.heap.size + 2]? = some (.cells Z 47 (0, 0)) → LgFr (W3.setRow (w.heap.size + 2) Y) base (.slice (some ⟨g, 3, none⟩) p.log.length (c10 - 1)) L.tail U.tail := by
      intro W3 Y gr bz
      have th : ∀ {e : TypeId} {s n : Nat} {v : Value} {xs : List Value}, 47 ≠ e → W2.ownsRow base e s v n xs → (W3.setRow (w.heap.size + 2) Y).ownsRow base e s v n xs := fun he h => by
        have h1 := ownsRow_grown h gr (own_neT h bP2 he)
        exact ownsRow_grown h1 grown_setRow (own_neT h1 bz he)
      refine ⟨by simp [hus2], ?_, ?_, ?_⟩
      · have h1 := (IsSl.of_owns (th (by decide) hown)).cut 1 (p.log.length + 1) (by omega) (Nat.le_refl _)
        rw [if_neg hc1] at h1
        simp only [Option.map_some, Addr.add_lit, Nat.zero_add, Nat.one_mul, Nat.add_sub_cancel] at h1
        rw [List.length_tail, hlen2, Nat.add_sub_cancel, lgCs_tail L U hus2 (by omega)]
        rw [List.take_of_length_le (by rw [List.length_drop, lgCs_len L U hus2]; omega)] at h1
        exact h1
      · intro b' o s n c q
        simp only [Value.slice.injEq, Option.some.injEq, Addr.mk.injEq] at q
        obtain ⟨⟨rfl, -⟩, -⟩ := q
        exact ⟨hgb, own_block (th (by decide) hown) rfl⟩
      · intro i hi u hu
        have hi' : i + 1 < L.length := by rw [List.length_tail] at hi; omega
        rw [List.getElem?_tail] at hu
        have := th (by decide) (L2.bs (i + 1) hi' u hu)
        rw [List.getElem_tail]
        exact this
    have HLF := Lib.hid LFR
    have HK2 := Lib.hid hk2
    have BP2 := Lib.hid bP2
    generalize L[0].m = M at *
    clear L2 hk2 hfirst hown hg3 LFR
    go_wp2_with fail
    refine wp_region_G 9 (fun v => Ext W2 v) (by kernel_rfl) fun wd hqd hHeld => ?_
    refine G_pure (i := 0) (u := ?vc0) rfl (by kernel_rfl) (by kernel_rfl) (by kernel_rfl) (fun _ _ _ h => h) (by decide) (Or.inl ⟨by rfl, ?hyc0⟩) hHeld ?_
    case hyc0 => (intro w hSw; go_simp; try with_reducible rfl)
    simp only [Act.put, List.setIfInBounds_toArray, List.set_cons_zero, List.set_cons_succ, List.getElem_toArray, List.getElem_cons_zero, List.getElem_cons_succ]
    refine G_take (i := 1) (u := ?vc1) rfl (by kernel_rfl) (by kernel_rfl) (by kernel_rfl) (fun _ _ _ h => h) rfl (by kernel_rfl) (by decide) (by rfl) (Or.inl ⟨by rfl, ?hyc1⟩) hHeld ?_
    case hyc1 => (intro w hSw; go_simp; try with_reducible rfl)
    simp only [Act.put, List.setIfInBounds_toArray, List.set_cons_zero, List.set_cons_succ, List.getElem_toArray, List.getElem_cons_zero, List.getElem_cons_succ]
    refine G_pure (i := 2) (u := ?vc2) rfl (by kernel_rfl) (by kernel_rfl) (by kernel_rfl) (fun _ _ _ h => h) (by decide) (Or.inl ⟨by rfl, ?hyc2⟩) hHeld ?_
    case hyc2 => (intro w hSw; go_simp; try with_reducible rfl)
    simp only [Act.put, List.setIfInBounds_toArray, List.set_cons_zero, List.set_cons_succ, List.getElem_toArray, List.getElem_cons_zero, List.getElem_cons_succ]
    refine G_pure (i := 3) (u := ?vc3) rfl (by kernel_rfl) (by kernel_rfl) (by kernel_rfl) (fun _ _ _ h => h) (by decide) (Or.inl ⟨by rfl, ?hyc3⟩) hHeld ?_
    case hyc3 => (intro w hSw; go_simp; try with_reducible rfl)
    simp only [Act.put, List.setIfInBounds_toArray, List.set_cons_zero, List.set_cons_succ, List.getElem_toArray, List.getElem_cons_zero, List.getElem_cons_succ]
    refine G_take (i := 4) (u := ?vc4) rfl (by kernel_rfl) (by kernel_rfl) (by kernel_rfl) (fun _ _ _ h => h) rfl (by kernel_rfl) (by decide) (by rfl) (Or.inl ⟨by rfl, ?hyc4⟩) hHeld ?_
    case hyc4 => (intro w hSw; go_simp; try with_reducible rfl)
    simp only [Act.put, List.setIfInBounds_toArray, List.set_cons_zero, List.set_cons_succ, List.getElem_toArray, List.getElem_cons_zero, List.getElem_cons_succ]
    refine G_pure (i := 5) (u := ?vc5) rfl (by kernel_rfl) (by kernel_rfl) (by kernel_rfl) (fun _ _ _ h => h) (by decide) (Or.inl ⟨by rfl, ?hyc5⟩) hHeld ?_
    case hyc5 => (intro w hSw; go_simp; try with_reducible rfl)
    simp only [Act.put, List.setIfInBounds_toArray, List.set_cons_zero, List.set_cons_succ, List.getElem_toArray, List.getElem_cons_zero, List.getElem_cons_succ]
    refine G_take (i := 6) (u := ?vc6) rfl (by kernel_rfl) (by kernel_rfl) (by kernel_rfl) (fun _ _ _ h => h) rfl (by kernel_rfl) (by decide) (by rfl) (Or.inl ⟨by rfl, ?hyc6⟩) hHeld ?_
    case hyc6 => (intro w hSw; go_simp; try with_reducible rfl)
    simp only [Act.put, List.setIfInBounds_toArray, List.set_cons_zero, List.set_cons_succ, List.getElem_toArray, List.getElem_cons_zero, List.getElem_cons_succ]
    refine G_pure (i := 7) (u := ?vc7) rfl (by kernel_rfl) (by kernel_rfl) (by kernel_rfl) (fun _ _ _ h => h) (by decide) (Or.inl ⟨by rfl, ?hyc7⟩) hHeld ?_
    case hyc7 => (intro w hSw; go_simp; try with_reducible rfl)
    simp only [Act.put, List.setIfInBounds_toArray, List.set_cons_zero, List.set_cons_succ, List.getElem_toArray, List.getElem_cons_zero, List.getElem_cons_succ]
    refine G_pure (i := 8) (u := ?vc8) rfl (by kernel_rfl) (by kernel_rfl) (by kernel_rfl) (fun _ _ _ h => h) (by decide) (Or.inl ⟨by rfl, ?hyc8⟩) hHeld ?_
    case hyc8 => (intro w hSw; go_simp; try with_reducible rfl)
    simp only [Act.put, List.setIfInBounds_toArray, List.set_cons_zero, List.set_cons_succ, List.getElem_toArray, List.getElem_cons_zero, List.getElem_cons_succ]
    refine G_all (rs := [9]) (by kernel_rfl) (by simp) ?_
    intro i hi; obtain rfl : i = 9 := by simpa using hi
    refine wpOp_run rfl (by rfl) ?_
    have kk := KP _ hHeld
    have ff := fun i => block_free (hHeld.keeps BP2.out) i
    go_simp
    try refine ⟨fun e => absurd e (by decide), ?_⟩
    refine G_free _ _ _ _ (by kernel_rfl) ?_
    try simp only [Act.put, List.setIfInBounds_toArray, List.set_cons_zero, List.set_cons_succ, List.getElem_toArray, List.getElem_cons_zero, List.getElem_cons_succ]
    refine wpAny_take (i := 10) (v := ?vc10) rfl (by kernel_rfl) (by kernel_rfl) (by kernel_rfl) (fun _ _ _ h => h) (Or.inl ⟨by rfl, ?hyc10⟩) ?_
    case hyc10 => (intro w ; go_simp; try with_reducible rfl)
    simp only [Act.put, List.setIfInBounds_toArray, List.set_cons_zero, List.set_cons_succ, List.getElem_toArray, List.getElem_cons_zero, List.getElem_cons_succ]
    refine wpAny_all (rs := [11]) (by kernel_rfl) (by simp) ?_
    intro i hi; obtain rfl : i = 11 := by simpa using hi
    refine wpOp_run rfl (by rfl) ?_
    have bq := block_setCell (block_setCell (hHeld.keeps BP2.out) (i := 4) (.int .u32 (M.1 : Int))) (i := 5) (.int .u32 (M.2 : Int))
    have kk := block_all bq
    have ff := fun i => block_free bq i
    go_simp
    try simp only [Act.put, List.setIfInBounds_toArray, List.set_cons_zero, List.set_cons_succ, List.getElem_toArray, List.getElem_cons_zero, List.getElem_cons_succ]
    refine wpAny_done (by kernel_rfl) ?_ _
    refine NoPanic.normal ?_
    have bP3 : (((wd.setCell ⟨w.heap.size, 4, none⟩ (.int .u32 (M.1 : Int))).setCell ⟨w.heap.size, 5, none⟩ (.int .u32 (M.2 : Int))).setCell ⟨w.heap.size, 6, none⟩ (.slice (some ⟨g, 3, none⟩) p.log.length (c10 - 1))).heap[w.heap.size]? = some (.cells #[.int .i64 ({ p with base := M, log := L.tail } : Pr).me, .int .u32 (({ p with base := M, log := L.tail } : Pr).v.n : Int), .int .i64 ({ p with base := M, log := L.tail } : Pr).v.p, .int .i64 ({ p with base := M, log := L.tail } : Pr).v.b, .int .u32 (({ p with base := M, log := L.tail } : Pr).base.1 : Int), .int .u32 (({ p with base := M, log := L.tail } : Pr).base.2 : Int), (.slice (some ⟨g, 3, none⟩) p.log.length (c10 - 1)), .bool ({ p with base := M, log := L.tail } : Pr).known, .bool ({ p with base := M, log := L.tail } : Pr).joined, .bool ({ p with base := M, log := L.tail } : Pr).instep, .int .u32 (({ p with base := M, log := L.tail } : Pr).acked : Int)] 47 (0, 0)) := by
      have := block_setCell bq (i := 6) (.slice (some ⟨g, 3, none⟩) p.log.length (c10 - 1))
      simpa using this
    have bZ3 := set_other (set_other (set_other (hHeld.keeps bZ2) (r := w.heap.size) (i := 4) (u := .int .u32 (M.1 : Int)) (by omega)) (r := w.heap.size) (i := 5) (u := .int .u32 (M.2 : Int)) (by omega)) (r := w.heap.size) (i := 6) (u := .slice (some ⟨g, 3, none⟩) p.log.length (c10 - 1)) (by omega)
    have gr3 := grown_trans (grown_trans (grown_trans (ext_grown hHeld (some w.heap.size)) (grown_setCell wd w.heap.size 4 (.int .u32 (M.1 : Int)))) (grown_setCell _ w.heap.size 5 (.int .u32 (M.2 : Int)))) (grown_setCell _ w.heap.size 6 (.slice (some ⟨g, 3, none⟩) p.log.length (c10 - 1)))
    have X3 := X2.grown gr3 (fun k hk => by cases hk; omega)
    have G3 := grown_newC (grown_newC (grown_newC (grown_trans GR.out (ext_grown hHeld _)) (Nat.le_refl w.heap.size) (i := 4) (.int .u32 (M.1 : Int))) (Nat.le_refl w.heap.size) (i := 5) (.int .u32 (M.2 : Int))) (Nat.le_refl w.heap.size) (i := 6) (.slice (some ⟨g, 3, none⟩) p.log.length (c10 - 1))
    generalize (((wd.setCell ⟨w.heap.size, 4, none⟩ (.int .u32 (M.1 : Int))).setCell ⟨w.heap.size, 5, none⟩ (.int .u32 (M.2 : Int))).setCell ⟨w.heap.size, 6, none⟩ (.slice (some ⟨g, 3, none⟩) p.log.length (c10 - 1))) = W3 at *
    have LF := HLF.out W3 #[.int .i64 ({ p with base := M, log := L.tail } : Pr).me, .int .u32 (({ p with base := M, log := L.tail } : Pr).v.n : Int), .int .i64 ({ p with base := M, log := L.tail } : Pr).v.p, .int .i64 ({ p with base := M, log := L.tail } : Pr).v.b, .int .u32 (({ p with base := M, log := L.tail } : Pr).base.1 : Int), .int .u32 (({ p with base := M, log := L.tail } : Pr).base.2 : Int), (.slice (some ⟨g, 3, none⟩) p.log.length (c10 - 1)), .bool ({ p with base := M, log := L.tail } : Pr).known, .bool ({ p with base := M, log := L.tail } : Pr).joined, .bool ({ p with base := M, log := L.tail } : Pr).instep, .int .u32 (({ p with base := M, log := L.tail } : Pr).acked : Int)] gr3 bZ3
    have bZ4 := setRow_heap W3 (w.heap.size + 2) _ #[.int .i64 ({ p with base := M, log := L.tail } : Pr).me, .int .u32 (({ p with base := M, log := L.tail } : Pr).v.n : Int), .int .i64 ({ p with base := M, log := L.tail } : Pr).v.p, .int .i64 ({ p with base := M, log := L.tail } : Pr).v.b, .int .u32 (({ p with base := M, log := L.tail } : Pr).base.1 : Int), .int .u32 (({ p with base := M, log := L.tail } : Pr).base.2 : Int), (.slice (some ⟨g, 3, none⟩) p.log.length (c10 - 1)), .bool ({ p with base := M, log := L.tail } : Pr).known, .bool ({ p with base := M, log := L.tail } : Pr).joined, .bool ({ p with base := M, log := L.tail } : Pr).instep, .int .u32 (({ p with base := M, log := L.tail } : Pr).acked : Int)] _ _ bZ3
    have hone := pr_one (some ⟨g, 3, none⟩) p.log.length (c10 - 1) { p with base := M, log := L.tail }
    have X4 := X3.grown (grown_setRow (g := w.heap.size + 2) (c := #[.int .i64 ({ p with base := M, log := L.tail } : Pr).me, .int .u32 (({ p with base := M, log := L.tail } : Pr).v.n : Int), .int .i64 ({ p with base := M, log := L.tail } : Pr).v.p, .int .i64 ({ p with base := M, log := L.tail } : Pr).v.b, .int .u32 (({ p with base := M, log := L.tail } : Pr).base.1 : Int), .int .u32 (({ p with base := M, log := L.tail } : Pr).base.2 : Int), (.slice (some ⟨g, 3, none⟩) p.log.length (c10 - 1)), .bool ({ p with base := M, log := L.tail } : Pr).known, .bool ({ p with base := M, log := L.tail } : Pr).joined, .bool ({ p with base := M, log := L.tail } : Pr).instep, .int .u32 (({ p with base := M, log := L.tail } : Pr).acked : Int)])) (fun k hk => by cases hk; omega)
    have cP3 := block_all bP3
    have HF := Lib.hid LF
    clear KP K0 K1 kk ff bq q0 q1 gr3 HLF LF cP BP2 bP2
    go_wp2_with ((with_reducible refine at_store 47 (.tmp 4) (.tmp 31) ?_); go_must (refine wpl_store rfl 47 (.tmp 4) (.tmp 31) rfl (w.heap.size + 2) #[.int .i64 ({ p with base := M, log := L.tail } : Pr).me, .int .u32 (({ p with base := M, log := L.tail } : Pr).v.n : Int), .int .i64 ({ p with base := M, log := L.tail } : Pr).v.p, .int .i64 ({ p with base := M, log := L.tail } : Pr).v.b, .int .u32 (({ p with base := M, log := L.tail } : Pr).base.1 : Int), .int .u32 (({ p with base := M, log := L.tail } : Pr).base.2 : Int), (.slice (some ⟨g, 3, none⟩) p.log.length (c10 - 1)), .bool ({ p with base := M, log := L.tail } : Pr).known, .bool ({ p with base := M, log := L.tail } : Pr).joined, .bool ({ p with base := M, log := L.tail } : Pr).instep, .int .u32 (({ p with base := M, log := L.tail } : Pr).acked : Int)] (by rfl) (by rfl) 47 _ bZ3 (by kernel_rfl) hZs hone ?_))
    have hkk := HK2.out
    subst hkk
    exact bodyPost_ret (results_cell_row rfl _ _ (w.heap.size + 2) _ _ _ _ (by rfl) bZ4 Tryd.underlying47 rfl (by kernel_rfl)) rfl ⟨⟨_, _, rfl, HF.out, X4⟩, grown_newR G3 (by omega) _⟩
  · have hk1 : keptP p ⟨m, b⟩ = { p with log := p.log ++ [(⟨m, b⟩ : LgE)] } := by unfold keptP; rw [if_neg h16]
    have hk2 := HK.out
    rw [hk1] at hk2
    have bZ3 := setRow_heap W2 (w.heap.size + 2) _ #[.int .i64 p.me, .int .u32 (p.v.n : Int), .int .i64 p.v.p, .int .i64 p.v.b, .int .u32 (p.base.1 : Int), .int .u32 (p.base.2 : Int), (.slice a10 (p.log.length + 1) c10), .bool p.known, .bool p.joined, .bool p.instep, .int .u32 (p.acked : Int)] _ _ bZ2
    have hone := pr_one a10 (p.log.length + 1) c10 p
    have L3 : LgFr (W2.setRow (w.heap.size + 2) #[.int .i64 p.me, .int .u32 (p.v.n : Int), .int .i64 p.v.p, .int .i64 p.v.b, .int .u32 (p.base.1 : Int), .int .u32 (p.base.2 : Int), (.slice a10 (p.log.length + 1) c10), .bool p.known, .bool p.joined, .bool p.instep, .int .u32 (p.acked : Int)]) base (.slice a10 (p.log.length + 1) c10) (p.log ++ [⟨m, b⟩]) (us ++ [(a9, c9)]) :=
      ⟨L2.len, IsSl.of_owns (ownsRow_grown L2.own grown_setRow (own_neT L2.own bZ2 (by decide))), own_ge (ownsRow_grown L2.own grown_setRow (own_neT L2.own bZ2 (by decide))), fun i hi u hu => ownsRow_grown (L2.bs i hi u hu) grown_setRow (own_neT (L2.bs i hi u hu) bZ2 (by decide))⟩
    have X3 := X2.grown (grown_setRow (g := w.heap.size + 2) (c := #[.int .i64 p.me, .int .u32 (p.v.n : Int), .int .i64 p.v.p, .int .i64 p.v.b, .int .u32 (p.base.1 : Int), .int .u32 (p.base.2 : Int), (.slice a10 (p.log.length + 1) c10), .bool p.known, .bool p.joined, .bool p.instep, .int .u32 (p.acked : Int)])) (fun k hk => by cases hk; omega)
    have HL := Lib.hid L3
    have HK2 := Lib.hid hk2
    clear L2 L3 hk1 hk2
    go_wp2_with ((with_reducible refine at_store 47 (.tmp 4) (.tmp 31) ?_); go_must (refine wpl_store rfl 47 (.tmp 4) (.tmp 31) rfl (w.heap.size + 2) #[.int .i64 p.me, .int .u32 (p.v.n : Int), .int .i64 p.v.p, .int .i64 p.v.b, .int .u32 (p.base.1 : Int), .int .u32 (p.base.2 : Int), (.slice a10 (p.log.length + 1) c10), .bool p.known, .bool p.joined, .bool p.instep, .int .u32 (p.acked : Int)] (by rfl) (by rfl) 47 _ bZ2 (by kernel_rfl) rfl hone ?_))
    have hkk := HK2.out
    subst hkk
    exact bodyPost_ret (results_cell_row rfl _ _ (w.heap.size + 2) _ _ _ _ (by rfl) bZ3 Tryd.underlying47 rfl (by kernel_rfl)) rfl ⟨⟨_, _, rfl, HL.out, X3⟩, grown_newR GR.out (by omega) _⟩
end Go.Proofs.YtkcddcomjbihgaaDoor

namespace Go.Proofs.YtkcddcomjbihgaaDoor
open Go.RowKit
set_option linter.unusedVariables false
set_option linter.unusedSimpArgs false

theorem LtOwn.snoc {w w' : World} {base : Nat} {v v' : Value} {l : List LtE} {us : List Hd} (h : LtOwn w base v l us) {e : LtE} {u : Hd} (hb : OwnB w base (.slice u.1 e.b.length u.2) e.b) (own : w'.ownsRow base 88 2 v' (l.length + 1) (ltCs l us ++ ltV e u)) (gr : w.grownBy w' v.ownBlock) : LtOwn w' base v' (l ++ [e]) (us ++ [u]) := by
  have hlen := h.len
  refine ⟨by simp [hlen], ?_, ?_⟩
  · rw [ltCs_app _ _ _ _ hlen, List.length_append, List.length_singleton]
    exact own
  · intro i hi q hq
    by_cases hin : i < l.length
    · rw [List.getElem?_append_left (by omega)] at hq
      rw [List.getElem_append_left hin]
      exact own_thru (h.bs i hin q hq) h.own (by decide) gr
    · have hi' : i = l.length := by simp at hi; omega
      subst hi'
      rw [List.getElem?_append_right (by omega), hlen, Nat.sub_self] at hq
      simp only [List.getElem?_cons_zero, Option.some.injEq] at hq
      subst hq
      rw [List.getElem_append_right (by omega)]
      simp only [Nat.sub_self, List.getElem_cons_zero]
      exact own_thru hb h.own (by decide) gr
/-- The letter of the entry at an index. -/
def lettI (p : Pr) (i : Nat) : LtE := ⟨oth p, encN ⟨3, p.v.n, ((p.log[i]?).getD ⟨(0, 0), []⟩).m, prevM p.base p.log i, ((p.log[i]?).getD ⟨(0, 0), []⟩).b⟩⟩
def behR (p : Pr) (f k : Nat) : List LtE := (List.range k).map fun i => lettI p (f + i)
theorem behR_succ (p : Pr) (f k : Nat) : behR p f (k + 1) = behR p f k ++ [lettI p (f + k)] := by simp [behR, List.range_succ]
theorem behR_len (p : Pr) (f k : Nat) : (behR p f k).length = k := by simp [behR]
set_option maxHeartbeats 4000000 in
set_option maxRecDepth 100000 in
theorem rbBehind (w : World) (vl : Value) (p : Pr) (n : Nat) (h : IsLg w vl p.log) (hp : PrOk p) (hn : n ≤ p.log.length) (hl : p.log.length ≤ 1000000) (hb : ∀ e ∈ p.log, e.b.length ≤ 50000) :
    Calls Tryd.prog 70 #[.agg #[.int .i64 p.me, .int .u32 (p.v.n : Int), .int .i64 p.v.p, .int .i64 p.v.b, .int .u32 (p.base.1 : Int), .int .u32 (p.base.2 : Int), vl, .bool p.known, .bool p.joined, .bool p.instep, .int .u32 (p.acked : Int)], .int .i64 (n : Int)] w (LtPost w (behR p (p.log.length - n) (min 4 n))) := by
  have HOK := Lib.hid h.ok
  have HBL := Lib.hid hb
  obtain ⟨ao, cap, rfl, b1, m1, _, g1⟩ := h.opened
  have G1 := Lib.hid g1
  clear g1 h hb
  obtain ⟨f, hf⟩ : ∃ f, p.log.length - n = f := ⟨_, rfl⟩
  rw [hf]
  go_enter Tryd.func70, Tryd.ntmps70
  go_upto_region 1 with fail
  refine wp_forget (fun W => Ext w W ∧ W.heap[w.heap.size]? = some (.cells #[.int .i64 p.me, .int .u32 (p.v.n : Int), .int .i64 p.v.p, .int .i64 p.v.b, .int .u32 (p.base.1 : Int), .int .u32 (p.base.2 : Int), (.slice ao p.log.length cap), .bool p.known, .bool p.joined, .bool p.instep, .int .u32 (p.acked : Int)] 47 (0, 0))) ⟨(Ext.refl w).alloc _, heap_alloc_new w _⟩ ?_
  rintro W ⟨X, bP⟩
  have HX := Lib.hid X
  have hc := block_all bP
  have hl' : (p.log.length : Int) ≤ 1000000 := by omega
  have hn' : (n : Int) ≤ (p.log.length : Int) := by omega
  clear X
  go_wp2_with fail
  go_loopg [5, 7, 8] 4 (fun g s5 s7 s8 wr => ∃ k j : Nat, f + k = j ∧ k ≤ min 4 n ∧ 4 - k ≤ g ∧ s7 = .int .i64 (j : Int) ∧ (∃ us, LtOwn wr w.heap.size s5 (behR p f k) us) ∧ Ext w wr ∧ wr.heap[w.heap.size]? = some (.cells #[.int .i64 p.me, .int .u32 (p.v.n : Int), .int .i64 p.v.p, .int .i64 p.v.b, .int .u32 (p.base.1 : Int), .int .u32 (p.base.2 : Int), (.slice ao p.log.length cap), .bool p.known, .bool p.joined, .bool p.instep, .int .u32 (p.acked : Int)] 47 (0, 0)))
  case atStart => exact ⟨0, f, by omega, by omega, by omega, by go_num, ⟨[], LtOwn.nil _ _⟩, HX.out, bP⟩
  case round =>
    clear bP hc HX
    obtain ⟨k, j, hj, hk, hg, rfl, ⟨us, il⟩, xr, bP⟩ := hrel
    have HX := Lib.hid xr
    have hc := block_all bP
    by_cases hlt : k < min 4 n
    · have hjl : j < p.log.length := by omega
      have hjl' : (j : Int) < (p.log.length : Int) := by omega
      have hj4 : (j : Int) < (p.log.length : Int) - (n : Int) + 4 := by omega
      obtain ⟨s5a, s5c, rfl⟩ := own_shape il.own
      have hLk := behR_len p f k
      have hst := behR_succ p f k
      rw [hj] at hst
      have hlet : lettI p j = ⟨oth p, encN ⟨3, p.v.n, p.log[j].m, prevM p.base p.log j, p.log[j].b⟩⟩ := by simp [lettI, List.getElem?_eq_getElem hjl]
      rw [hlet] at hst
      have hpm := prevM_ok (k := j) hp.base HOK.out
      have hzP := block_lt bP
      obtain ⟨pb, o, u, hao, e0, e1, e2, e3⟩ := G1.out j hjl
      have e0 := xr.cell e0
      have e1 := xr.cell e1
      have e2 := xr.cell e2
      have e3 := e3.ext xr
      have hxo := HOK.out _ (List.getElem_mem hjl)
      have hxl := HBL.out _ (List.getElem_mem hjl)
      obtain ⟨PM, hPM⟩ : ∃ PM, prevM p.base p.log j = PM := ⟨_, rfl⟩
      rw [hPM] at hst hpm
      have hPV : ∀ (q : 0 < j), ∃ pb o, ao = some ⟨pb, o, none⟩ ∧ wr.cell? ⟨pb, o + (j - 1) * 3, none⟩ = some (.int .u32 (PM.1 : Int)) ∧ wr.cell? ⟨pb, o + (j - 1) * 3 + 1, none⟩ = some (.int .u32 (PM.2 : Int)) := by
        intro q
        obtain ⟨pb, o, u, hao, d0, d1, -⟩ := G1.out (j - 1) (by omega)
        have : p.log[j - 1].m = PM := by rw [← hPM]; unfold prevM; rw [if_neg (by omega), List.getElem?_eq_getElem (by omega)]; rfl
        rw [this] at d0 d1
        exact ⟨pb, o, hao, xr.cell d0, xr.cell d1⟩
      have hP0 : j = 0 → PM = p.base := by intro q; rw [← hPM]; unfold prevM; rw [if_pos q]
      subst hao
      generalize p.log[j] = x at *
      generalize behR p f k = L at *
      have HST := Lib.hid hst
      have HPV := Lib.hid hPV
      have HP0 := Lib.hid hP0
      have HXO := Lib.hid hxo
      have HXL := Lib.hid hxl
      have HPM := Lib.hid hpm
      have hLk4 : L.length ≤ 4 := by omega
      obtain ⟨xa, xc, rfl, hxc, hxm, -⟩ := e3.opened
      have E3 := Lib.hid e3
      have IL := Lib.hid il
      have hno : NtOk ⟨3, 0, x.m, PM, x.b⟩ := ⟨by first | (constructor <;> decide) | (show i64Ok 3; unfold i64Ok; omega) | (show i64Ok 3; simp [i64Ok]), by show (0 : Nat) < 4294967296; decide, hxo.1, hpm⟩
      have HNO := Lib.hid hno
      clear hLk hst hlet hpm hPM hPV hP0 hxo hxl e3 il hno xr
      go_upto_region 7 with (((with_reducible refine at_store 27 (.tmp 8) (.tmp 29) ?_); go_must (refine wpl_store rfl 27 (.tmp 8) (.tmp 29) rfl wr.heap.size #[.int .u32 (p.base.1 : Int), .int .u32 (p.base.2 : Int)] (by rfl) (by rfl) 27 _ (heap_alloc_new wr _) (by kernel_rfl) rfl (by simp [Value.oneCell']) ?_)))
      refine wp_forget (fun W => Ext wr W ∧ W.heap[wr.heap.size]? = some (.cells #[.int .u32 (p.base.1 : Int), .int .u32 (p.base.2 : Int)] 27 (0, 0))) ⟨((Ext.refl wr).alloc _).grown grown_setRow (fun k hk => by cases hk; exact Nat.le_refl _), setRow_heap _ _ _ _ _ _ (heap_alloc_new wr _)⟩ ?_
      rintro W6 ⟨y6, bE⟩
      by_cases hj0 : j = 0
      · have hjz : (j : Int) ≤ 0 := by omega
        have bEb := bE
        rw [← HP0.out hj0] at bEb
        clear hj0
        have bPb := y6.keeps bP
        have e0b := y6.cell e0
        have e1b := y6.cell e1
        have e2b := y6.cell e2
        have E3b := Lib.hid (E3.out.ext y6)
        have ILb := Lib.hid (IL.out.ext y6)
        have hsz := (HX.out.trans y6).size
        clear e0 e1 e2 bP hc
        clear bE
        go_upto_region 9 with fail
        have KP := fun v (h : Ext W6 v) => block_all (h.keeps bPb)
        have KE := fun v (h : Ext W6 v) => block_all (h.keeps bEb)
        have K0 := fun v (h : Ext W6 v) => h.cell e0b
        have K1 := fun v (h : Ext W6 v) => h.cell e1b
        have K2 := fun v (h : Ext W6 v) => h.cell e2b
        have BPB := Lib.hid bPb
        have hxl := HXL.out
        refine wp_region_G 18 (fun v => Ext W6 v) (by kernel_rfl) fun wd hqd hHeld => ?_
        refine G_pure (i := 0) (u := ?va0) rfl (by kernel_rfl) (by kernel_rfl) (by kernel_rfl) (fun _ _ _ h => h) (by decide) (Or.inl ⟨by rfl, ?hya0⟩) hHeld ?_
        case hya0 => (intro w hSw; go_simp; try with_reducible rfl)
        simp only [Act.put, List.setIfInBounds_toArray, List.set_cons_zero, List.set_cons_succ, List.getElem_toArray, List.getElem_cons_zero, List.getElem_cons_succ]
        refine C_take (i := 1) (u := ?va1) [16, 18] rfl (by kernel_rfl) (by kernel_rfl) (by kernel_rfl) (fun _ _ _ h => h) (by kernel_rfl) (by kernel_rfl) (by kernel_rfl) (by kernel_rfl) (Or.inl ⟨by rfl, ?hya1⟩) hHeld ?_
        case hya1 => (intro w hSw; go_simp; try with_reducible rfl)
        simp only [Act.put, List.setIfInBounds_toArray, List.set_cons_zero, List.set_cons_succ, List.getElem_toArray, List.getElem_cons_zero, List.getElem_cons_succ]
        refine G_pure (i := 2) (u := ?va2) rfl (by kernel_rfl) (by kernel_rfl) (by kernel_rfl) (fun _ _ _ h => h) (by decide) (Or.inl ⟨by rfl, ?hya2⟩) hHeld ?_
        case hya2 => (intro w hSw; go_simp; try with_reducible rfl)
        simp only [Act.put, List.setIfInBounds_toArray, List.set_cons_zero, List.set_cons_succ, List.getElem_toArray, List.getElem_cons_zero, List.getElem_cons_succ]
        refine C_take (i := 3) (u := ?va3) [5, 6, 7, 15, 16, 18] rfl (by kernel_rfl) (by kernel_rfl) (by kernel_rfl) (fun _ _ _ h => h) (by kernel_rfl) (by kernel_rfl) (by kernel_rfl) (by kernel_rfl) (Or.inl ⟨by rfl, ?hya3⟩) hHeld ?_
        case hya3 => (intro w hSw; go_simp; try with_reducible rfl)
        simp only [Act.put, List.setIfInBounds_toArray, List.set_cons_zero, List.set_cons_succ, List.getElem_toArray, List.getElem_cons_zero, List.getElem_cons_succ]
        refine G_pure (i := 4) (u := ?va4) rfl (by kernel_rfl) (by kernel_rfl) (by kernel_rfl) (fun _ _ _ h => h) (by decide) (Or.inl ⟨by rfl, ?hya4⟩) hHeld ?_
        case hya4 => (intro w hSw; go_simp; try with_reducible rfl)
        simp only [Act.put, List.setIfInBounds_toArray, List.set_cons_zero, List.set_cons_succ, List.getElem_toArray, List.getElem_cons_zero, List.getElem_cons_succ]
        refine G_pure (i := 5) (u := ?va5) rfl (by kernel_rfl) (by kernel_rfl) (by kernel_rfl) (fun _ _ _ h => h) (by decide) (Or.inl ⟨by rfl, ?hya5⟩) hHeld ?_
        case hya5 => (intro w hSw; go_simp; try with_reducible rfl)
        simp only [Act.put, List.setIfInBounds_toArray, List.set_cons_zero, List.set_cons_succ, List.getElem_toArray, List.getElem_cons_zero, List.getElem_cons_succ]
        refine G_pure (i := 6) (u := ?va6) rfl (by kernel_rfl) (by kernel_rfl) (by kernel_rfl) (fun _ _ _ h => h) (by decide) (Or.inl ⟨by rfl, ?hya6⟩) hHeld ?_
        case hya6 => (intro w hSw; go_simp; try with_reducible rfl)
        simp only [Act.put, List.setIfInBounds_toArray, List.set_cons_zero, List.set_cons_succ, List.getElem_toArray, List.getElem_cons_zero, List.getElem_cons_succ]
        refine C_take (i := 7) (u := ?va7) [15, 16, 18] rfl (by kernel_rfl) (by kernel_rfl) (by kernel_rfl) (fun _ _ _ h => h) (by kernel_rfl) (by kernel_rfl) (by kernel_rfl) (by kernel_rfl) (Or.inl ⟨by rfl, ?hya7⟩) hHeld ?_
        case hya7 => (intro w hSw; go_simp; try with_reducible rfl)
        simp only [Act.put, List.setIfInBounds_toArray, List.set_cons_zero, List.set_cons_succ, List.getElem_toArray, List.getElem_cons_zero, List.getElem_cons_succ]
        refine C_take (i := 8) (u := ?va8) [15, 16, 18] rfl (by kernel_rfl) (by kernel_rfl) (by kernel_rfl) (fun _ _ _ h => h) (by kernel_rfl) (by kernel_rfl) (by kernel_rfl) (by kernel_rfl) (Or.inl ⟨by rfl, ?hya8⟩) hHeld ?_
        case hya8 => (intro w hSw; go_simp; try with_reducible rfl)
        simp only [Act.put, List.setIfInBounds_toArray, List.set_cons_zero, List.set_cons_succ, List.getElem_toArray, List.getElem_cons_zero, List.getElem_cons_succ]
        refine G_pure (i := 9) (u := ?va9) rfl (by kernel_rfl) (by kernel_rfl) (by kernel_rfl) (fun _ _ _ h => h) (by decide) (Or.inl ⟨by rfl, ?hya9⟩) hHeld ?_
        case hya9 => (intro w hSw; go_simp; try with_reducible rfl)
        simp only [Act.put, List.setIfInBounds_toArray, List.set_cons_zero, List.set_cons_succ, List.getElem_toArray, List.getElem_cons_zero, List.getElem_cons_succ]
        refine C_take (i := 10) (u := ?va10) [12, 13, 14, 15, 16, 18] rfl (by kernel_rfl) (by kernel_rfl) (by kernel_rfl) (fun _ _ _ h => h) (by kernel_rfl) (by kernel_rfl) (by kernel_rfl) (by kernel_rfl) (Or.inl ⟨by rfl, ?hya10⟩) hHeld ?_
        case hya10 => (intro w hSw; go_simp; try with_reducible rfl)
        simp only [Act.put, List.setIfInBounds_toArray, List.set_cons_zero, List.set_cons_succ, List.getElem_toArray, List.getElem_cons_zero, List.getElem_cons_succ]
        refine G_pure (i := 11) (u := ?va11) rfl (by kernel_rfl) (by kernel_rfl) (by kernel_rfl) (fun _ _ _ h => h) (by decide) (Or.inl ⟨by rfl, ?hya11⟩) hHeld ?_
        case hya11 => (intro w hSw; go_simp; try with_reducible rfl)
        simp only [Act.put, List.setIfInBounds_toArray, List.set_cons_zero, List.set_cons_succ, List.getElem_toArray, List.getElem_cons_zero, List.getElem_cons_succ]
        refine G_pure (i := 12) (u := ?va12) rfl (by kernel_rfl) (by kernel_rfl) (by kernel_rfl) (fun _ _ _ h => h) (by decide) (Or.inl ⟨by rfl, ?hya12⟩) hHeld ?_
        case hya12 => (intro w hSw; go_simp; try with_reducible rfl)
        simp only [Act.put, List.setIfInBounds_toArray, List.set_cons_zero, List.set_cons_succ, List.getElem_toArray, List.getElem_cons_zero, List.getElem_cons_succ]
        refine G_pure (i := 13) (u := ?va13) rfl (by kernel_rfl) (by kernel_rfl) (by kernel_rfl) (fun _ _ _ h => h) (by decide) (Or.inl ⟨by rfl, ?hya13⟩) hHeld ?_
        case hya13 => (intro w hSw; go_simp; try with_reducible rfl)
        simp only [Act.put, List.setIfInBounds_toArray, List.set_cons_zero, List.set_cons_succ, List.getElem_toArray, List.getElem_cons_zero, List.getElem_cons_succ]
        refine C_take (i := 14) (u := ?va14) [15, 16, 18] rfl (by kernel_rfl) (by kernel_rfl) (by kernel_rfl) (fun _ _ _ h => h) (by kernel_rfl) (by kernel_rfl) (by kernel_rfl) (by kernel_rfl) (Or.inl ⟨by rfl, ?hya14⟩) hHeld ?_
        case hya14 => (intro w hSw; go_simp; try with_reducible rfl)
        simp only [Act.put, List.setIfInBounds_toArray, List.set_cons_zero, List.set_cons_succ, List.getElem_toArray, List.getElem_cons_zero, List.getElem_cons_succ]
        refine G_pure (i := 15) (u := ?va15) rfl (by kernel_rfl) (by kernel_rfl) (by kernel_rfl) (fun _ _ _ h => h) (by decide) (Or.inl ⟨by rfl, ?hya15⟩) hHeld ?_
        case hya15 => (intro w hSw; go_simp; try with_reducible rfl)
        simp only [Act.put, List.setIfInBounds_toArray, List.set_cons_zero, List.set_cons_succ, List.getElem_toArray, List.getElem_cons_zero, List.getElem_cons_succ]
        refine G_all (rs := [16]) (by kernel_rfl) (by simp) ?_
        intro i hi; obtain rfl : i = 16 := by simpa using hi
        refine wpOp_run rfl (by rfl) ?_
        go_simp
        refine Calls.mono (rbSend _ _ _ p ⟨3, 0, x.m, PM, x.b⟩ (E3b.out.ext hHeld) hp HNO.out hxl) ?_
        rintro e w5 ⟨v5, rfl, own5, x5⟩
        have own5 := ownsRow_base own5 (Nat.le_trans hsz hHeld.size)
        obtain ⟨a5, c5, rfl⟩ := own_shape own5
        have hHeld := hHeld.trans x5
        first | refine ⟨fun _ => hHeld, ?_⟩ | refine ⟨hHeld, ?_⟩
        try simp only [Act.put, List.setIfInBounds_toArray, List.set_cons_zero, List.set_cons_succ, List.getElem_toArray, List.getElem_cons_zero, List.getElem_cons_succ]
        refine G_all (rs := [17]) (by kernel_rfl) (by simp) ?_
        intro i hi; obtain rfl : i = 17 := by simpa using hi
        refine wpOp_run rfl (by rfl) ?_
        refine wp_buildOne 49 (.tmp 55) rfl (ltV ⟨oth p, encN ⟨3, p.v.n, x.m, PM, x.b⟩⟩ (a5, c5)) (by rfl) (build_one _ 49 88 2 Tryd.underlying49 infoLt2 (by omega) (by omega) _ rfl) ?_
        have xb : Ext w5 (w5.alloc (.cells (ltV ⟨oth p, encN ⟨3, p.v.n, x.m, PM, x.b⟩⟩ (a5, c5)).toArray 88)) := (Ext.refl w5).alloc _
        have hHeld := hHeld.trans xb
        first | refine ⟨fun _ => hHeld, ?_⟩ | refine ⟨hHeld, ?_⟩ | skip
        try simp only [Act.put, List.setIfInBounds_toArray, List.set_cons_zero, List.set_cons_succ, List.getElem_toArray, List.getElem_cons_zero, List.getElem_cons_succ]
        refine G_all (rs := [18]) (by kernel_rfl) (by simp) ?_
        intro i hi; obtain rfl : i = 18 := by simpa using hi
        refine wpOp_run rfl (by rfl) ?_
        refine wp_appO tyLt (.tmp 39) (.tmp 56) rfl w.heap.size (.slice s5a L.length s5c) L.length _ (ILb.out.ext hHeld).own (by rfl) _ 1 (ltV ⟨oth p, encN ⟨3, p.v.n, x.m, PM, x.b⟩⟩ (a5, c5)) (sl_one_new (w := w5) (n := 2) (e := 88) rfl rfl) (by rfl) (ltV_one _ _) (by omega) (by omega) (Nat.le_trans hsz hHeld.size) ?_
        intro v10 w10 own10 gr10
        try refine ⟨fun e => absurd e (by decide), ?_⟩
        refine G_free _ _ _ _ (by kernel_rfl) ?_
        try simp only [Act.put, List.setIfInBounds_toArray, List.set_cons_zero, List.set_cons_succ, List.getElem_toArray, List.getElem_cons_zero, List.getElem_cons_succ]
        refine wpAny_take (i := 19) (v := ?va19) rfl (by kernel_rfl) (by kernel_rfl) (by kernel_rfl) (fun _ _ _ h => h) (Or.inl ⟨by rfl, ?hya19⟩) ?_
        case hya19 => (intro w ; go_simp; try with_reducible rfl)
        simp only [Act.put, List.setIfInBounds_toArray, List.set_cons_zero, List.set_cons_succ, List.getElem_toArray, List.getElem_cons_zero, List.getElem_cons_succ]
        refine wpAny_done (by kernel_rfl) ?_ _
        refine NoPanic.normal ?_
        have il10 := (ILb.out.ext hHeld).snoc (u := (a5, c5)) (e := ⟨oth p, encN ⟨3, p.v.n, x.m, PM, x.b⟩⟩) (ownsRow_ext own5 xb) own10 gr10
        have bP10 := grown_keep gr10 (hHeld.keeps BPB.out) (own_neT (ILb.out.ext hHeld).own (hHeld.keeps BPB.out) (by decide))
        have HX10 := Lib.hid (own_base (ILb.out.ext hHeld).own gr10 (HX.out.trans (y6.trans hHeld)) (Nat.le_refl _))
        have IL10 := Lib.hid il10
        clear il10 own10 own5 KP KE K0 K1 K2
        go_wp2_with fail
        go_roundg (4 - (k + 1))
        case measure => omega
        case rel => exact ⟨k + 1, j + 1, by omega, by omega, by omega, by go_num, ⟨_, by rw [HST.out]; exact IL10.out⟩, HX10.out, bP10⟩
      · have hjz : 0 < (j : Int) := by omega
        obtain ⟨pb2, o2, hao2, d0, d1⟩ := HPV.out (by omega)
        simp only [Option.some.injEq, Addr.mk.injEq, and_true] at hao2
        obtain ⟨rfl, rfl⟩ := hao2
        have d0 := y6.cell d0
        have d1 := y6.cell d1
        have hc6 := block_all (y6.keeps bP)
        have hwr := HX.out.size
        go_upto_region 9 with (((with_reducible refine at_store 27 (.tmp 8) (.tmp 38) ?_); go_must (refine wpl_store rfl 27 (.tmp 8) (.tmp 38) rfl wr.heap.size #[.int .u32 (PM.1 : Int), .int .u32 (PM.2 : Int)] (by rfl) (by rfl) 27 _ bE (by kernel_rfl) rfl (by simp [Value.oneCell']) ?_)))
        refine wp_forget (fun W => Ext wr W ∧ W.heap[wr.heap.size]? = some (.cells #[.int .u32 (PM.1 : Int), .int .u32 (PM.2 : Int)] 27 (0, 0))) ⟨y6.grown grown_setRow (fun k hk => by cases hk; exact Nat.le_refl _), setRow_heap _ _ _ _ _ _ bE⟩ ?_
        clear bE d0 d1 hc6
        rintro W7 ⟨y7, bEb⟩
        have bPb := y7.keeps bP
        have e0b := y7.cell e0
        have e1b := y7.cell e1
        have e2b := y7.cell e2
        have E3b := Lib.hid (E3.out.ext y7)
        have ILb := Lib.hid (IL.out.ext y7)
        have hsz := (HX.out.trans y7).size
        clear e0 e1 e2 bP hc
        have KP := fun v (h : Ext W7 v) => block_all (h.keeps bPb)
        have KE := fun v (h : Ext W7 v) => block_all (h.keeps bEb)
        have K0 := fun v (h : Ext W7 v) => h.cell e0b
        have K1 := fun v (h : Ext W7 v) => h.cell e1b
        have K2 := fun v (h : Ext W7 v) => h.cell e2b
        have BPB := Lib.hid bPb
        have hxl := HXL.out
        refine wp_region_G 18 (fun v => Ext W7 v) (by kernel_rfl) fun wd hqd hHeld => ?_
        refine G_pure (i := 0) (u := ?vb0) rfl (by kernel_rfl) (by kernel_rfl) (by kernel_rfl) (fun _ _ _ h => h) (by decide) (Or.inl ⟨by rfl, ?hyb0⟩) hHeld ?_
        case hyb0 => (intro w hSw; go_simp; try with_reducible rfl)
        simp only [Act.put, List.setIfInBounds_toArray, List.set_cons_zero, List.set_cons_succ, List.getElem_toArray, List.getElem_cons_zero, List.getElem_cons_succ]
        refine C_take (i := 1) (u := ?vb1) [16, 18] rfl (by kernel_rfl) (by kernel_rfl) (by kernel_rfl) (fun _ _ _ h => h) (by kernel_rfl) (by kernel_rfl) (by kernel_rfl) (by kernel_rfl) (Or.inl ⟨by rfl, ?hyb1⟩) hHeld ?_
        case hyb1 => (intro w hSw; go_simp; try with_reducible rfl)
        simp only [Act.put, List.setIfInBounds_toArray, List.set_cons_zero, List.set_cons_succ, List.getElem_toArray, List.getElem_cons_zero, List.getElem_cons_succ]
        refine G_pure (i := 2) (u := ?vb2) rfl (by kernel_rfl) (by kernel_rfl) (by kernel_rfl) (fun _ _ _ h => h) (by decide) (Or.inl ⟨by rfl, ?hyb2⟩) hHeld ?_
        case hyb2 => (intro w hSw; go_simp; try with_reducible rfl)
        simp only [Act.put, List.setIfInBounds_toArray, List.set_cons_zero, List.set_cons_succ, List.getElem_toArray, List.getElem_cons_zero, List.getElem_cons_succ]
        refine C_take (i := 3) (u := ?vb3) [5, 6, 7, 15, 16, 18] rfl (by kernel_rfl) (by kernel_rfl) (by kernel_rfl) (fun _ _ _ h => h) (by kernel_rfl) (by kernel_rfl) (by kernel_rfl) (by kernel_rfl) (Or.inl ⟨by rfl, ?hyb3⟩) hHeld ?_
        case hyb3 => (intro w hSw; go_simp; try with_reducible rfl)
        simp only [Act.put, List.setIfInBounds_toArray, List.set_cons_zero, List.set_cons_succ, List.getElem_toArray, List.getElem_cons_zero, List.getElem_cons_succ]
        refine G_pure (i := 4) (u := ?vb4) rfl (by kernel_rfl) (by kernel_rfl) (by kernel_rfl) (fun _ _ _ h => h) (by decide) (Or.inl ⟨by rfl, ?hyb4⟩) hHeld ?_
        case hyb4 => (intro w hSw; go_simp; try with_reducible rfl)
        simp only [Act.put, List.setIfInBounds_toArray, List.set_cons_zero, List.set_cons_succ, List.getElem_toArray, List.getElem_cons_zero, List.getElem_cons_succ]
        refine G_pure (i := 5) (u := ?vb5) rfl (by kernel_rfl) (by kernel_rfl) (by kernel_rfl) (fun _ _ _ h => h) (by decide) (Or.inl ⟨by rfl, ?hyb5⟩) hHeld ?_
        case hyb5 => (intro w hSw; go_simp; try with_reducible rfl)
        simp only [Act.put, List.setIfInBounds_toArray, List.set_cons_zero, List.set_cons_succ, List.getElem_toArray, List.getElem_cons_zero, List.getElem_cons_succ]
        refine G_pure (i := 6) (u := ?vb6) rfl (by kernel_rfl) (by kernel_rfl) (by kernel_rfl) (fun _ _ _ h => h) (by decide) (Or.inl ⟨by rfl, ?hyb6⟩) hHeld ?_
        case hyb6 => (intro w hSw; go_simp; try with_reducible rfl)
        simp only [Act.put, List.setIfInBounds_toArray, List.set_cons_zero, List.set_cons_succ, List.getElem_toArray, List.getElem_cons_zero, List.getElem_cons_succ]
        refine C_take (i := 7) (u := ?vb7) [15, 16, 18] rfl (by kernel_rfl) (by kernel_rfl) (by kernel_rfl) (fun _ _ _ h => h) (by kernel_rfl) (by kernel_rfl) (by kernel_rfl) (by kernel_rfl) (Or.inl ⟨by rfl, ?hyb7⟩) hHeld ?_
        case hyb7 => (intro w hSw; go_simp; try with_reducible rfl)
        simp only [Act.put, List.setIfInBounds_toArray, List.set_cons_zero, List.set_cons_succ, List.getElem_toArray, List.getElem_cons_zero, List.getElem_cons_succ]
        refine C_take (i := 8) (u := ?vb8) [15, 16, 18] rfl (by kernel_rfl) (by kernel_rfl) (by kernel_rfl) (fun _ _ _ h => h) (by kernel_rfl) (by kernel_rfl) (by kernel_rfl) (by kernel_rfl) (Or.inl ⟨by rfl, ?hyb8⟩) hHeld ?_
        case hyb8 => (intro w hSw; go_simp; try with_reducible rfl)
        simp only [Act.put, List.setIfInBounds_toArray, List.set_cons_zero, List.set_cons_succ, List.getElem_toArray, List.getElem_cons_zero, List.getElem_cons_succ]
        refine G_pure (i := 9) (u := ?vb9) rfl (by kernel_rfl) (by kernel_rfl) (by kernel_rfl) (fun _ _ _ h => h) (by decide) (Or.inl ⟨by rfl, ?hyb9⟩) hHeld ?_
        case hyb9 => (intro w hSw; go_simp; try with_reducible rfl)
        simp only [Act.put, List.setIfInBounds_toArray, List.set_cons_zero, List.set_cons_succ, List.getElem_toArray, List.getElem_cons_zero, List.getElem_cons_succ]
        refine C_take (i := 10) (u := ?vb10) [12, 13, 14, 15, 16, 18] rfl (by kernel_rfl) (by kernel_rfl) (by kernel_rfl) (fun _ _ _ h => h) (by kernel_rfl) (by kernel_rfl) (by kernel_rfl) (by kernel_rfl) (Or.inl ⟨by rfl, ?hyb10⟩) hHeld ?_
        case hyb10 => (intro w hSw; go_simp; try with_reducible rfl)
        simp only [Act.put, List.setIfInBounds_toArray, List.set_cons_zero, List.set_cons_succ, List.getElem_toArray, List.getElem_cons_zero, List.getElem_cons_succ]
        refine G_pure (i := 11) (u := ?vb11) rfl (by kernel_rfl) (by kernel_rfl) (by kernel_rfl) (fun _ _ _ h => h) (by decide) (Or.inl ⟨by rfl, ?hyb11⟩) hHeld ?_
        case hyb11 => (intro w hSw; go_simp; try with_reducible rfl)
        simp only [Act.put, List.setIfInBounds_toArray, List.set_cons_zero, List.set_cons_succ, List.getElem_toArray, List.getElem_cons_zero, List.getElem_cons_succ]
        refine G_pure (i := 12) (u := ?vb12) rfl (by kernel_rfl) (by kernel_rfl) (by kernel_rfl) (fun _ _ _ h => h) (by decide) (Or.inl ⟨by rfl, ?hyb12⟩) hHeld ?_
        case hyb12 => (intro w hSw; go_simp; try with_reducible rfl)
        simp only [Act.put, List.setIfInBounds_toArray, List.set_cons_zero, List.set_cons_succ, List.getElem_toArray, List.getElem_cons_zero, List.getElem_cons_succ]
        refine G_pure (i := 13) (u := ?vb13) rfl (by kernel_rfl) (by kernel_rfl) (by kernel_rfl) (fun _ _ _ h => h) (by decide) (Or.inl ⟨by rfl, ?hyb13⟩) hHeld ?_
        case hyb13 => (intro w hSw; go_simp; try with_reducible rfl)
        simp only [Act.put, List.setIfInBounds_toArray, List.set_cons_zero, List.set_cons_succ, List.getElem_toArray, List.getElem_cons_zero, List.getElem_cons_succ]
        refine C_take (i := 14) (u := ?vb14) [15, 16, 18] rfl (by kernel_rfl) (by kernel_rfl) (by kernel_rfl) (fun _ _ _ h => h) (by kernel_rfl) (by kernel_rfl) (by kernel_rfl) (by kernel_rfl) (Or.inl ⟨by rfl, ?hyb14⟩) hHeld ?_
        case hyb14 => (intro w hSw; go_simp; try with_reducible rfl)
        simp only [Act.put, List.setIfInBounds_toArray, List.set_cons_zero, List.set_cons_succ, List.getElem_toArray, List.getElem_cons_zero, List.getElem_cons_succ]
        refine G_pure (i := 15) (u := ?vb15) rfl (by kernel_rfl) (by kernel_rfl) (by kernel_rfl) (fun _ _ _ h => h) (by decide) (Or.inl ⟨by rfl, ?hyb15⟩) hHeld ?_
        case hyb15 => (intro w hSw; go_simp; try with_reducible rfl)
        simp only [Act.put, List.setIfInBounds_toArray, List.set_cons_zero, List.set_cons_succ, List.getElem_toArray, List.getElem_cons_zero, List.getElem_cons_succ]
        refine G_all (rs := [16]) (by kernel_rfl) (by simp) ?_
        intro i hi; obtain rfl : i = 16 := by simpa using hi
        refine wpOp_run rfl (by rfl) ?_
        go_simp
        refine Calls.mono (rbSend _ _ _ p ⟨3, 0, x.m, PM, x.b⟩ (E3b.out.ext hHeld) hp HNO.out hxl) ?_
        rintro e w5 ⟨v5, rfl, own5, x5⟩
        have own5 := ownsRow_base own5 (Nat.le_trans hsz hHeld.size)
        obtain ⟨a5, c5, rfl⟩ := own_shape own5
        have hHeld := hHeld.trans x5
        first | refine ⟨fun _ => hHeld, ?_⟩ | refine ⟨hHeld, ?_⟩
        try simp only [Act.put, List.setIfInBounds_toArray, List.set_cons_zero, List.set_cons_succ, List.getElem_toArray, List.getElem_cons_zero, List.getElem_cons_succ]
        refine G_all (rs := [17]) (by kernel_rfl) (by simp) ?_
        intro i hi; obtain rfl : i = 17 := by simpa using hi
        refine wpOp_run rfl (by rfl) ?_
        refine wp_buildOne 49 (.tmp 55) rfl (ltV ⟨oth p, encN ⟨3, p.v.n, x.m, PM, x.b⟩⟩ (a5, c5)) (by rfl) (build_one _ 49 88 2 Tryd.underlying49 infoLt2 (by omega) (by omega) _ rfl) ?_
        have xb : Ext w5 (w5.alloc (.cells (ltV ⟨oth p, encN ⟨3, p.v.n, x.m, PM, x.b⟩⟩ (a5, c5)).toArray 88)) := (Ext.refl w5).alloc _
        have hHeld := hHeld.trans xb
        first | refine ⟨fun _ => hHeld, ?_⟩ | refine ⟨hHeld, ?_⟩ | skip
        try simp only [Act.put, List.setIfInBounds_toArray, List.set_cons_zero, List.set_cons_succ, List.getElem_toArray, List.getElem_cons_zero, List.getElem_cons_succ]
        refine G_all (rs := [18]) (by kernel_rfl) (by simp) ?_
        intro i hi; obtain rfl : i = 18 := by simpa using hi
        refine wpOp_run rfl (by rfl) ?_
        refine wp_appO tyLt (.tmp 39) (.tmp 56) rfl w.heap.size (.slice s5a L.length s5c) L.length _ (ILb.out.ext hHeld).own (by rfl) _ 1 (ltV ⟨oth p, encN ⟨3, p.v.n, x.m, PM, x.b⟩⟩ (a5, c5)) (sl_one_new (w := w5) (n := 2) (e := 88) rfl rfl) (by rfl) (ltV_one _ _) (by omega) (by omega) (Nat.le_trans hsz hHeld.size) ?_
        intro v10 w10 own10 gr10
        try refine ⟨fun e => absurd e (by decide), ?_⟩
        refine G_free _ _ _ _ (by kernel_rfl) ?_
        try simp only [Act.put, List.setIfInBounds_toArray, List.set_cons_zero, List.set_cons_succ, List.getElem_toArray, List.getElem_cons_zero, List.getElem_cons_succ]
        refine wpAny_take (i := 19) (v := ?vb19) rfl (by kernel_rfl) (by kernel_rfl) (by kernel_rfl) (fun _ _ _ h => h) (Or.inl ⟨by rfl, ?hyb19⟩) ?_
        case hyb19 => (intro w ; go_simp; try with_reducible rfl)
        simp only [Act.put, List.setIfInBounds_toArray, List.set_cons_zero, List.set_cons_succ, List.getElem_toArray, List.getElem_cons_zero, List.getElem_cons_succ]
        refine wpAny_done (by kernel_rfl) ?_ _
        refine NoPanic.normal ?_
        have il10 := (ILb.out.ext hHeld).snoc (u := (a5, c5)) (e := ⟨oth p, encN ⟨3, p.v.n, x.m, PM, x.b⟩⟩) (ownsRow_ext own5 xb) own10 gr10
        have bP10 := grown_keep gr10 (hHeld.keeps BPB.out) (own_neT (ILb.out.ext hHeld).own (hHeld.keeps BPB.out) (by decide))
        have HX10 := Lib.hid (own_base (ILb.out.ext hHeld).own gr10 (HX.out.trans (y7.trans hHeld)) (Nat.le_refl _))
        have IL10 := Lib.hid il10
        clear il10 own10 own5 KP KE K0 K1 K2
        go_wp2_with fail
        go_roundg (4 - (k + 1))
        case measure => omega
        case rel => exact ⟨k + 1, j + 1, by omega, by omega, by omega, by go_num, ⟨_, by rw [HST.out]; exact IL10.out⟩, HX10.out, bP10⟩
    · obtain rfl : k = min 4 n := by omega
      have hLk := behR_len p f (min 4 n)
      have htst : (j : Int) < (p.log.length : Int) → (p.log.length : Int) - (n : Int) + 4 ≤ (j : Int) := by omega
      have HIL := Lib.hid il
      go_wp2_with fail
      all_goals
        go_ret
        exact ⟨_, us, rfl, HIL.out, HX.out⟩
end Go.Proofs.YtkcddcomjbihgaaDoor

namespace Go.Proofs.YtkcddcomjbihgaaDoor
open Go.RowKit
set_option linter.unusedVariables false
set_option linter.unusedSimpArgs false

/-- The numbers of a right log rise by one. -/
theorem num_right (vn : Nat) : ∀ (b : Mk) (l : List LgE), enB vn b l = true → ∀ i (h : i < l.length), l[i].m.2 = b.2 + 1 + i
  | b, [], _, i, h => absurd h (by simp)
  | b, e :: l, h, i, hi => by
    rw [enB] at h
    obtain ⟨h1, h2⟩ := Bool.and_eq_true _ _ ▸ h
    have he : e.m.2 = b.2 + 1 := by simp_all
    cases i with
    | zero => simpa using he
    | succ i =>
      have := num_right vn e.m l h2 i (by simpa using hi)
      rw [List.getElem_cons_succ, this]
      omega
theorem num_log {p : Pr} (h : rightB p = true) (i : Nat) (hi : i < p.log.length) : p.log[i].m.2 = p.base.2 + 1 + i :=
  num_right p.v.n p.base p.log (right_all h).2.2.2.1 i hi
theorem num_last {p : Pr} (h : rightB p = true) : (lastM p).2 = p.base.2 + p.log.length := by
  unfold lastM
  rw [List.getLast?_eq_getElem?]
  by_cases h0 : p.log.length = 0
  · rw [List.getElem?_eq_none (by omega)]
    simp [h0]
  · rw [List.getElem?_eq_getElem (by omega)]
    have := num_log h (p.log.length - 1) (by omega)
    simp only [Option.map_some, Option.getD_some]
    omega
/-- What stands behind a number is what is left of the log. -/
theorem filt_drop {α : Type} (g : α → Nat) : ∀ (xs : List α) (b n : Nat), (∀ i (h : i < xs.length), g xs[i] = b + 1 + i) → xs.filter (fun x => decide (n < g x)) = xs.drop (n - b)
  | [], b, n, _ => by simp
  | x :: xs, b, n, h => by
    have h0 : g x = b + 1 := by have := h 0 (by simp); rw [List.getElem_cons_zero] at this; omega
    have hs := filt_drop g xs (b + 1) n (fun i hi => by have := h (i + 1) (by simpa using hi); rw [List.getElem_cons_succ] at this; rw [this]; omega)
    by_cases hn : n < b + 1
    · rw [List.filter_cons_of_pos (by simp; omega), hs]
      have e1 : n - b = 0 := by omega
      have e2 : n - (b + 1) = 0 := by omega
      rw [e1, e2, List.drop_zero, List.drop_zero]
    · rw [List.filter_cons_of_neg (by simp; omega), hs]
      have e1 : n - b = (n - (b + 1)) + 1 := by omega
      rw [e1, List.drop_succ_cons]
end Go.Proofs.YtkcddcomjbihgaaDoor

namespace Go.Proofs.YtkcddcomjbihgaaDoor
open Go.RowKit
set_option linter.unusedVariables false
set_option linter.unusedSimpArgs false

theorem behR_get (p : Pr) (f k i : Nat) (h : i < (behR p f k).length) : (behR p f k)[i] = lettI p (f + i) := by simp [behR]
theorem beh_eq {p : Pr} (h : rightB p = true) {us : List Hd} (hu : us.length = p.log.length) {n : Nat} (hn : p.base.2 ≤ n) : behL p n us = behR p (n - p.base.2) (min 4 (p.log.length - (n - p.base.2))) := by
  have hlen := entsL_len p.base p.log us hu
  have hg : ∀ i (hi : i < (entsL p.base p.log us).length), (entsL p.base p.log us)[i] = (prevM p.base p.log i, p.log[i]'(by omega), us[i]'(by omega)) := by
    intro i hi
    have := entsL_get p.base p.log us i (by omega) (by omega)
    rw [List.getElem?_eq_getElem hi] at this
    exact Option.some.inj this
  unfold behL
  rw [if_neg (by omega)]
  unfold behF
  rw [filt_drop (fun x : En => x.2.1.m.2) (entsL p.base p.log us) p.base.2 n (fun i hi => by rw [hg i hi]; exact num_log h i (by omega))]
  apply List.ext_getElem
  · simp [behR_len, hlen]
  · intro i h1 h2
    have hi : n - p.base.2 + i < p.log.length := by
      rw [behR_len] at h2
      omega
    rw [List.getElem_map, List.getElem_take, List.getElem_drop, hg _ (by omega)]
    rw [behR_get]
    unfold entL lettI
    rw [oth_eq h, List.getElem?_eq_getElem hi]
    rfl
end Go.Proofs.YtkcddcomjbihgaaDoor

namespace Go.Proofs.YtkcddcomjbihgaaDoor
open Go.RowKit
set_option linter.unusedVariables false
set_option linter.unusedSimpArgs false

/-- What the document's Tick gives behind the entry of the number that the backup has. -/
def tickFrom (p : Pr) (i : Nat) : List LtE := behR p (p.log.length - (p.log.length - 1 - i)) (min 4 (p.log.length - 1 - i))
def tickAt (p : Pr) : List LtE := match p.log.findIdx? (fun e => e.m.2 == p.acked) with | some i => tickFrom p i | none => []
def tickR (p : Pr) : List LtE :=
  if (oth p == 0) = true then [] else if (p.me == p.v.b) = true then [⟨oth p, encN ⟨1, p.v.n, lastM p, m0, []⟩⟩]
  else if p.known = false then [] else if p.base.2 = p.acked then behR p (p.log.length - p.log.length) (min 4 p.log.length) else tickAt p
theorem tick_find {p : Pr} {k : Nat} (hk : k < p.log.length) (h0 : ∀ j (hj : j < p.log.length), j < k → ¬ p.log[j].m.2 = p.acked) (h : p.log[k].m.2 = p.acked) : tickAt p = tickFrom p k := by
  unfold tickAt
  have : p.log.findIdx? (fun e => e.m.2 == p.acked) = some k := by
    rw [List.findIdx?_eq_some_iff_getElem]
    exact ⟨hk, by simpa using h, fun j hj => by simpa using h0 j (by omega) hj⟩
  rw [this]
theorem tick_none {p : Pr} (h0 : ∀ j (hj : j < p.log.length), ¬ p.log[j].m.2 = p.acked) : tickAt p = [] := by
  unfold tickAt
  have : p.log.findIdx? (fun e => e.m.2 == p.acked) = none := by
    rw [List.findIdx?_eq_none_iff]
    intro x hx
    obtain ⟨j, hj, rfl⟩ := List.getElem_of_mem hx
    simpa using h0 j hj
  rw [this]
set_option maxHeartbeats 4000000 in
set_option maxRecDepth 100000 in
theorem rbTick (w : World) (vl : Value) (p : Pr) (h : IsLg w vl p.log) (hp : PrOk p) (hl : p.log.length ≤ 1000000) (hb : ∀ e ∈ p.log, e.b.length ≤ 50000) :
    Calls Tryd.prog 30 #[.agg #[.int .i64 p.me, .int .u32 (p.v.n : Int), .int .i64 p.v.p, .int .i64 p.v.b, .int .u32 (p.base.1 : Int), .int .u32 (p.base.2 : Int), vl, .bool p.known, .bool p.joined, .bool p.instep, .int .u32 (p.acked : Int)]] w (LtPost w (tickR p)) := by
  have H := Lib.hid h
  have HOK := Lib.hid h.ok
  have HBL := Lib.hid hb
  obtain ⟨ao, cap, rfl, b1, m1, _, g1⟩ := h.opened
  have G1 := Lib.hid g1
  clear g1 h hb
  go_enter Tryd.func30, Tryd.ntmps30
  go_upto_region 1 with fail
  refine wp_forget (fun W => Ext w W ∧ W.heap[w.heap.size]? = some (.cells #[.int .i64 p.me, .int .u32 (p.v.n : Int), .int .i64 p.v.p, .int .i64 p.v.b, .int .u32 (p.base.1 : Int), .int .u32 (p.base.2 : Int), (.slice ao p.log.length cap), .bool p.known, .bool p.joined, .bool p.instep, .int .u32 (p.acked : Int)] 47 (0, 0))) ⟨(Ext.refl w).alloc _, heap_alloc_new w _⟩ ?_
  rintro W ⟨X, bP⟩
  have HX := Lib.hid X
  have HL := Lib.hid (H.out.ext X)
  have hc := block_all bP
  clear X
  go_wp2_with fail
  refine (rbOther _ _ p).mono ?_
  rintro e w1 ⟨rfl, x1⟩
  have hc := block_all (x1.keeps bP)
  cases q0 : (oth p == 0) with
  | true =>
    have HT := Lib.hid (show tickR p = [] by unfold tickR; rw [if_pos q0])
    go_wp2_with fail
    go_ret
    exact ⟨_, [], rfl, by rw [HT.out]; exact LtOwn.nil _ _, HX.out.trans x1⟩
  | false =>
    have HX1 := Lib.hid (HX.out.trans x1)
    have HL1 := Lib.hid (HL.out.ext x1)
    have bP1 := x1.keeps bP
    have hn0 : ¬ (oth p == 0) = true := by rw [q0]; decide
    clear bP x1
    cases q1 : (p.me == p.v.b) with
    | true =>
      have HT := Lib.hid (show tickR p = [⟨oth p, encN ⟨1, p.v.n, lastM p, m0, []⟩⟩] by unfold tickR; rw [if_neg hn0, if_pos q1])
      have HM := Lib.hid (lastM_ok hp HOK.out)
      have hXz := HX1.out.size
      clear hn0
      go_upto_region 4 with fail
      have KP := fun v (h : Ext w1 v) => block_all (h.keeps bP1)
      clear hc bP1 q1
      refine wp_region_G 6 (fun v => Ext w1 v) (by kernel_rfl) fun wd hqd hHeld => ?_
      refine G_take (i := 0) (u := ?va0) rfl (by kernel_rfl) (by kernel_rfl) (by kernel_rfl) (fun _ _ _ h => h) rfl (by kernel_rfl) (by decide) (by rfl) (Or.inl ⟨by rfl, ?hya0⟩) hHeld ?_
      case hya0 => (intro w hSw; have kk := KP _ hSw; go_simp; try with_reducible rfl)
      simp only [Act.put, List.setIfInBounds_toArray, List.set_cons_zero, List.set_cons_succ, List.getElem_toArray, List.getElem_cons_zero, List.getElem_cons_succ]
      refine G_take (i := 1) (u := ?va1) rfl (by kernel_rfl) (by kernel_rfl) (by kernel_rfl) (fun _ _ _ h => h) rfl (by kernel_rfl) (by decide) (by rfl) (Or.inl ⟨by rfl, ?hya1⟩) hHeld ?_
      case hya1 => (intro w hSw; have kk := KP _ hSw; go_simp; try with_reducible rfl)
      simp only [Act.put, List.setIfInBounds_toArray, List.set_cons_zero, List.set_cons_succ, List.getElem_toArray, List.getElem_cons_zero, List.getElem_cons_succ]
      refine G_all (rs := [2]) (by kernel_rfl) (by simp) ?_
      intro i hi; obtain rfl : i = 2 := by simpa using hi
      refine wpOp_run rfl (by rfl) ?_
      go_simp
      refine Calls.mono (rbLast _ _ p (HL1.out.ext hHeld)) ?_
      rintro e w4 ⟨rfl, x4⟩
      have hHeld := hHeld.trans x4
      first | refine ⟨fun _ => hHeld, ?_⟩ | refine ⟨hHeld, ?_⟩
      try simp only [Act.put, List.setIfInBounds_toArray, List.set_cons_zero, List.set_cons_succ, List.getElem_toArray, List.getElem_cons_zero, List.getElem_cons_succ]
      refine G_pure (i := 3) (u := ?va3) rfl (by kernel_rfl) (by kernel_rfl) (by kernel_rfl) (fun _ _ _ h => h) (by decide) (Or.inl ⟨by rfl, ?hya3⟩) hHeld ?_
      case hya3 => (intro w hSw; go_simp; try with_reducible rfl)
      simp only [Act.put, List.setIfInBounds_toArray, List.set_cons_zero, List.set_cons_succ, List.getElem_toArray, List.getElem_cons_zero, List.getElem_cons_succ]
      refine G_all (rs := [4]) (by kernel_rfl) (by simp) ?_
      intro i hi; obtain rfl : i = 4 := by simpa using hi
      refine wpOp_run rfl (by rfl) ?_
      go_simp
      refine Calls.mono (rbSend _ _ (.slice none 0 0) p ⟨1, 0, lastM p, m0, []⟩ (IsB.nil _) hp ⟨(by show i64Ok 1; constructor <;> decide), (by show (0:Nat) < _; omega), HM.out, m0Ok⟩ (by show (0:Nat) ≤ _; omega)) ?_
      rintro e w5 ⟨v5, rfl, own5, x5⟩
      have own5 := ownsRow_base own5 (Nat.le_trans hXz hHeld.size)
      obtain ⟨a5, c5, rfl⟩ := own_shape own5
      have hHeld := hHeld.trans x5
      first | refine ⟨fun _ => hHeld, ?_⟩ | refine ⟨hHeld, ?_⟩
      try simp only [Act.put, List.setIfInBounds_toArray, List.set_cons_zero, List.set_cons_succ, List.getElem_toArray, List.getElem_cons_zero, List.getElem_cons_succ]
      refine G_all (rs := [5]) (by kernel_rfl) (by simp) ?_
      intro i hi; obtain rfl : i = 5 := by simpa using hi
      refine wpOp_run rfl (by rfl) ?_
      refine wp_buildOne 49 (.tmp 20) rfl (ltV ⟨oth p, encN ⟨1, p.v.n, lastM p, m0, []⟩⟩ (a5, c5)) (by rfl) (build_one _ 49 88 2 Tryd.underlying49 infoLt2 (by omega) (by omega) _ rfl) ?_
      have xb : Ext w5 (w5.alloc (.cells (ltV ⟨oth p, encN ⟨1, p.v.n, lastM p, m0, []⟩⟩ (a5, c5)).toArray 88)) := (Ext.refl w5).alloc _
      have LO := lt_one (Nat.le_trans hXz hHeld.size) (e := ⟨oth p, encN ⟨1, p.v.n, lastM p, m0, []⟩⟩) (u := (a5, c5)) own5
      have hHeld := hHeld.trans xb
      first | refine ⟨fun _ => hHeld, ?_⟩ | refine ⟨hHeld, ?_⟩ | skip
      try simp only [Act.put, List.setIfInBounds_toArray, List.set_cons_zero, List.set_cons_succ, List.getElem_toArray, List.getElem_cons_zero, List.getElem_cons_succ]
      refine G_all (rs := [6]) (by kernel_rfl) (by simp) ?_
      intro i hi; obtain rfl : i = 6 := by simpa using hi
      refine wpOp_run rfl (by rfl) ?_
      go_simp
      try refine ⟨fun e => absurd e (by decide), ?_⟩
      refine G_free _ _ _ _ (by kernel_rfl) ?_
      try simp only [Act.put, List.setIfInBounds_toArray, List.set_cons_zero, List.set_cons_succ, List.getElem_toArray, List.getElem_cons_zero, List.getElem_cons_succ]
      refine wpAny_done (by kernel_rfl) ?_ _
      refine NoPanic.normal ?_
      go_wp2_with fail
      go_ret
      exact ⟨_, [(a5, c5)], rfl, by rw [HT.out]; exact LO, HX1.out.trans hHeld⟩
    | false =>
      have hn1 : ¬ (p.me == p.v.b) = true := by rw [q1]; decide
      cases q2 : p.known with
      | false =>
        have HT := Lib.hid (show tickR p = [] by unfold tickR; rw [if_neg hn0, if_neg hn1, if_pos q2])
        clear hn0 hn1
        go_wp2_with fail
        go_ret
        exact ⟨_, [], rfl, by rw [HT.out]; exact LtOwn.nil _ _, HX1.out⟩
      | true =>
        by_cases q3 : p.base.2 = p.acked
        · have HT := Lib.hid (show tickR p = behR p (p.log.length - p.log.length) (min 4 p.log.length) by unfold tickR; rw [if_neg hn0, if_neg hn1, if_neg (by rw [q2]; decide), if_pos q3])
          have hq3 : ((p.base.2 : Int) == (p.acked : Int)) = true := by rw [q3]; simp
          have C1 := fun v (h : Ext w1 v) => rbBehind v (.slice ao p.log.length cap) p p.log.length (HL1.out.ext h) hp (Nat.le_refl _) hl HBL.out
          simp only [q2] at C1
          have C1 := Lib.hid C1
          clear hn0 hn1 q3
          go_wp2_with fail
          refine (C1.out _ (Ext.refl _)).mono ?_
          rintro e w2 ⟨v2, u2, rfl, l2, x2⟩
          go_wp2_with fail
          go_ret
          exact ⟨_, u2, rfl, by rw [HT.out]; exact l2.base HX1.out.size, HX1.out.trans x2⟩
        · have hq3 : ((p.base.2 : Int) == (p.acked : Int)) = false := by rw [beq_eq_false_iff_ne]; omega
          have HT := Lib.hid (show tickR p = tickAt p by unfold tickR; rw [if_neg hn0, if_neg hn1, if_neg (by rw [q2]; decide), if_neg q3])
          have C1 := fun (k : Nat) (hk : k < p.log.length) v (h : Ext w1 v) => rbBehind v (.slice ao p.log.length cap) p (p.log.length - 1 - k) (HL1.out.ext h) hp (by omega) hl HBL.out
          simp only [q2] at C1
          have C1 := Lib.hid C1
          have hl' : (p.log.length : Int) ≤ 1000000 := by omega
          clear hn0 hn1 q3
          go_wp2_with fail
          go_loopg [3, 4, 40] p.log.length (fun g s3 s4 s40 wr => ∃ k : Nat, k ≤ p.log.length ∧ p.log.length - k ≤ g ∧ s40 = .int .i64 (k : Int) ∧ Ext w1 wr ∧ (∀ j (hj : j < p.log.length), j < k → ¬ p.log[j].m.2 = p.acked))
          case atStart => exact ⟨0, by omega, by omega, rfl, Ext.refl _, fun j _ hj => absurd hj (Nat.not_lt_zero _)⟩
          case round =>
            clear hc hq3
            obtain ⟨k, hk, hg, rfl, xr, h0⟩ := hrel
            have H0 := Lib.hid h0
            clear h0
            by_cases hlt : k < p.log.length
            · obtain ⟨pb, o, u, rfl, e0, e1, e2, e3⟩ := G1.out k hlt
              have e0 := (HX1.out.trans xr).cell e0
              have e1 := (HX1.out.trans xr).cell e1
              have e2 := (HX1.out.trans xr).cell e2
              have hlt' : (k : Int) < (p.log.length : Int) := by omega
              obtain ⟨x, hx⟩ : ∃ x, p.log[k] = x := ⟨_, rfl⟩
              rw [hx] at e0 e1 e3
              have HXK := Lib.hid hx
              obtain ⟨ua, uc, rfl, -⟩ := e3.opened
              have hc := block_all (xr.keeps bP1)
              clear hx e3
              go_upto_region 12 with (((with_reducible refine at_store 108 (.tmp 4) (.tmp 44) ?_); go_must (refine wpl_store rfl 108 (.tmp 4) (.tmp 44) rfl wr.heap.size #[.int .u32 (x.m.1 : Int), .int .u32 (x.m.2 : Int), (.slice ua x.b.length uc)] (by rfl) (by rfl) 108 _ (heap_alloc_new wr _) (by kernel_rfl) rfl (by simp [Value.oneCell']) ?_)))
              refine wp_forget (fun W => Ext wr W ∧ W.heap[wr.heap.size]? = some (.cells #[.int .u32 (x.m.1 : Int), .int .u32 (x.m.2 : Int), (.slice ua x.b.length uc)] 108 (0, 0))) ⟨ext_new _ _ _, new_row _ _ _ _⟩ ?_
              rintro W2 ⟨y, bE⟩
              have xr2 := xr.trans y
              clear hc e0 e1 e2 y
              have hc := block_all (xr2.keeps bP1)
              have hd := block_all bE
              by_cases hq : x.m.2 = p.acked
              · have hq' : ((x.m.2 : Int) == (p.acked : Int)) = true := by rw [hq]; simp
                have HTA := Lib.hid (tick_find hlt H0.out (by rw [HXK.out]; exact hq))
                have hcast : ((p.log.length - 1 - k : Nat) : Int) = (p.log.length : Int) - 1 - (k : Int) := by omega
                have C2 := C1.out k hlt W2 xr2
                rw [hcast] at C2
                have C2 := Lib.hid C2
                clear hq hcast
                go_wp2_with fail
                refine (C2.out).mono ?_
                rintro e w5 ⟨v5, u5, rfl, l5, x5⟩
                go_wp2_with fail
                go_ret
                exact ⟨_, u5, rfl, by rw [HT.out, HTA.out]; exact l5.base (HX1.out.trans xr2).size, (HX1.out.trans xr2).trans x5⟩
              · have hq' : ((x.m.2 : Int) == (p.acked : Int)) = false := by rw [beq_eq_false_iff_ne]; omega
                have HQ := Lib.hid hq
                clear hq
                go_wp2_with fail
                go_roundg (p.log.length - (k + 1))
                case measure => omega
                case rel =>
                  refine ⟨k + 1, by omega, by omega, by go_num, xr2, fun j hj hj1 => ?_⟩
                  by_cases e : j = k
                  · subst e; rw [HXK.out]; exact HQ.out
                  · exact H0.out j hj (by omega)
            · obtain rfl : k = p.log.length := by omega
              have HTA := Lib.hid (tick_none fun j hj => H0.out j hj hj)
              go_wp2_with fail
              go_ret
              exact ⟨_, [], rfl, by rw [HT.out, HTA.out]; exact LtOwn.nil _ _, HX1.out.trans xr⟩
end Go.Proofs.YtkcddcomjbihgaaDoor

namespace Go.Proofs.YtkcddcomjbihgaaDoor
open Go.RowKit
set_option linter.unusedVariables false
set_option linter.unusedSimpArgs false

def rentOk (p : Pr) (v : Vw) : Bool := viewedB v && decide (p.v.n < v.n)
def rentP (p : Pr) (v : Vw) : Pr := if ((p.me == v.p) && meq p.base m0) = true then { entQ p v with base := (v.n, 0) } else entQ p v
def REntPost (w : World) (p : Pr) (v : Vw) (e : Ending) (w' : World) : Prop :=
  Ext w w' ∧ ((rentOk p v = false ∧ e = .returned (.tuple #[.agg #[.int .i64 (newP 0).me, .int .u32 ((newP 0).v.n : Int), .int .i64 (newP 0).v.p, .int .i64 (newP 0).v.b, .int .u32 ((newP 0).base.1 : Int), .int .u32 ((newP 0).base.2 : Int), (.slice none 0 0), .bool (newP 0).known, .bool (newP 0).joined, .bool (newP 0).instep, .int .u32 ((newP 0).acked : Int)], .bool false]))
    ∨ (rentOk p v = true ∧ ∃ vl ul, e = .returned (.tuple #[.agg #[.int .i64 (rentP p v).me, .int .u32 ((rentP p v).v.n : Int), .int .i64 (rentP p v).v.p, .int .i64 (rentP p v).v.b, .int .u32 ((rentP p v).base.1 : Int), .int .u32 ((rentP p v).base.2 : Int), vl, .bool (rentP p v).known, .bool (rentP p v).joined, .bool (rentP p v).instep, .int .u32 ((rentP p v).acked : Int)], .bool true]) ∧ LgOwn w' w.heap.size vl p.log ul))
theorem rentP_log (p : Pr) (v : Vw) : (rentP p v).log = p.log := by unfold rentP; split <;> rfl
theorem rent_no {w : World} {p : Pr} {v : Vw} (h : rentOk p v = false) {w' : World} (x : Ext w w') : REntPost w p v (.returned (.tuple #[.agg #[.int .i64 (newP 0).me, .int .u32 ((newP 0).v.n : Int), .int .i64 (newP 0).v.p, .int .i64 (newP 0).v.b, .int .u32 ((newP 0).base.1 : Int), .int .u32 ((newP 0).base.2 : Int), (.slice none 0 0), .bool (newP 0).known, .bool (newP 0).joined, .bool (newP 0).instep, .int .u32 ((newP 0).acked : Int)], .bool false])) w' := ⟨x, .inl ⟨h, rfl⟩⟩
set_option maxHeartbeats 4000000 in
set_option maxRecDepth 100000 in
theorem rbEnter (w : World) (vl : Value) (p : Pr) (v : Vw) (h : IsLg w vl p.log) (hl : p.log.length ≤ 1000000) :
    Calls Tryd.prog 29 #[.agg #[.int .i64 p.me, .int .u32 (p.v.n : Int), .int .i64 p.v.p, .int .i64 p.v.b, .int .u32 (p.base.1 : Int), .int .u32 (p.base.2 : Int), vl, .bool p.known, .bool p.joined, .bool p.instep, .int .u32 (p.acked : Int)], .agg #[.int .u32 (v.n : Int), .int .i64 v.p, .int .i64 v.b]] w (REntPost w p v) := by
  obtain ⟨ao, cap, rfl, -⟩ := h.opened
  go_enter Tryd.func29, Tryd.ntmps29
  go_upto_region 1 with fail
  refine wp_forget (fun W => IsLg W (.slice ao p.log.length cap) p.log ∧ Ext w W ∧ W.heap[w.heap.size]? = some (.cells #[.int .i64 p.me, .int .u32 (p.v.n : Int), .int .i64 p.v.p, .int .i64 p.v.b, .int .u32 (p.base.1 : Int), .int .u32 (p.base.2 : Int), (.slice ao p.log.length cap), .bool p.known, .bool p.joined, .bool p.instep, .int .u32 (p.acked : Int)] 47 (0, 0)) ∧ W.heap[w.heap.size + 1]? = some (.cells #[.int .u32 (v.n : Int), .int .i64 v.p, .int .i64 v.b] 44 (0, 0)) ∧ W.heap[w.heap.size + 2]? = some (.cells #[.int .i64 (newP 0).me, .int .u32 ((newP 0).v.n : Int), .int .i64 (newP 0).v.p, .int .i64 (newP 0).v.b, .int .u32 ((newP 0).base.1 : Int), .int .u32 ((newP 0).base.2 : Int), (.slice none 0 0), .bool (newP 0).known, .bool (newP 0).joined, .bool (newP 0).instep, .int .u32 ((newP 0).acked : Int)] 47 (0, 0))) ⟨h.ext ((((Ext.refl w).alloc _).alloc _).alloc _), (((Ext.refl w).alloc _).alloc _).alloc _, blk_old (blk_old (heap_alloc_new w _)), blk_old (blk_new (by simp)), blk_new (by simp)⟩ ?_
  rintro W ⟨hl2, X, bP, bV, bZ⟩
  have HX := Lib.hid X
  have HL := Lib.hid hl2
  have hc := block_all bP
  have hd := block_all bV
  clear X hl2 h
  cases hv1 : viewedB v with
  | false =>
    have HV := Lib.hid hv1
    have HE := Lib.hid (show rentOk p v = false by unfold rentOk; rw [hv1]; rfl)
    clear hv1
    go_wp2_with fail
    refine (rbRightView _ v).mono ?_
    rintro e w1 ⟨rfl, y⟩
    rw [HV.out]
    have bZ := y.keeps bZ
    have HX := Lib.hid (HX.out.trans y)
    clear hc hd bP bV y
    go_wp2_with (((with_reducible refine at_store 47 (.tmp 4) (.tmp 17) ?_); go_must (refine wpl_store rfl 47 (.tmp 4) (.tmp 17) rfl (w.heap.size + 2) #[.int .i64 (newP 0).me, .int .u32 ((newP 0).v.n : Int), .int .i64 (newP 0).v.p, .int .i64 (newP 0).v.b, .int .u32 ((newP 0).base.1 : Int), .int .u32 ((newP 0).base.2 : Int), (.slice none 0 0), .bool (newP 0).known, .bool (newP 0).joined, .bool (newP 0).instep, .int .u32 ((newP 0).acked : Int)] (by rfl) (by rfl) 47 _ bZ (by kernel_rfl) rfl (pr_one _ _ _ _) ?_); rw [setRow_self _ (w.heap.size + 2) _ _ _ bZ]))
    exact bodyPost_ret (results_cell_tmp (p := 4) (q := 5) rfl _ _ (w.heap.size + 2) _ _ _ _ (by rfl) bZ Tryd.underlying47 rfl (by kernel_rfl)) rfl (rent_no HE.out HX.out)
  | true =>
    have HV := Lib.hid hv1
    clear hv1
    go_wp2_with fail
    refine (rbRightView _ v).mono ?_
    rintro e w1 ⟨rfl, y⟩
    rw [HV.out]
    have bP := y.keeps bP
    have bV := y.keeps bV
    have bZ := y.keeps bZ
    have HX := Lib.hid (HX.out.trans y)
    have HL := Lib.hid (HL.out.ext y)
    clear hc hd y
    have hc := block_all bP
    have hd := block_all bV
    by_cases hn : v.n ≤ p.v.n
    · have HE := Lib.hid (show rentOk p v = false by unfold rentOk; rw [decide_eq_false (by omega)]; simp)
      have hn' : (v.n : Int) ≤ (p.v.n : Int) := by omega
      have HN := Lib.hid hn
      clear hn
      go_wp2_with (((with_reducible refine at_store 47 (.tmp 4) (.tmp 17) ?_); go_must (refine wpl_store rfl 47 (.tmp 4) (.tmp 17) rfl (w.heap.size + 2) #[.int .i64 (newP 0).me, .int .u32 ((newP 0).v.n : Int), .int .i64 (newP 0).v.p, .int .i64 (newP 0).v.b, .int .u32 ((newP 0).base.1 : Int), .int .u32 ((newP 0).base.2 : Int), (.slice none 0 0), .bool (newP 0).known, .bool (newP 0).joined, .bool (newP 0).instep, .int .u32 ((newP 0).acked : Int)] (by rfl) (by rfl) 47 _ bZ (by kernel_rfl) rfl (pr_one _ _ _ _) ?_); rw [setRow_self _ (w.heap.size + 2) _ _ _ bZ]))
      exact bodyPost_ret (results_cell_tmp (p := 4) (q := 5) rfl _ _ (w.heap.size + 2) _ _ _ _ (by rfl) bZ Tryd.underlying47 rfl (by kernel_rfl)) rfl (rent_no HE.out HX.out)
    · have HE := Lib.hid (show rentOk p v = true by unfold rentOk; rw [HV.out, decide_eq_true (show p.v.n < v.n by omega)]; rfl)
      have hn' : ¬ (v.n : Int) ≤ (p.v.n : Int) := by omega
      have HN := Lib.hid hn
      clear hn
      go_wp2_with fail
      refine (rbCopy _ _ p HL.out hl).mono ?_
      rintro e w3 ⟨v3, u3, rfl, il, y⟩
      obtain ⟨a3, k3, rfl⟩ := own_shape il.own
      have hXz := HX.out.size
      have il := il.base hXz
      have bP := y.keeps bP
      have bV := y.keeps bV
      have bZ := y.keeps bZ
      have HX := Lib.hid (HX.out.trans y)
      clear hc hd y hn'
      go_upto_region 4 with (((with_reducible refine at_store 47 (.tmp 2) (.tmp 19) ?_); go_must (refine wpl_store rfl 47 (.tmp 2) (.tmp 19) rfl w.heap.size #[.int .i64 p.me, .int .u32 (p.v.n : Int), .int .i64 p.v.p, .int .i64 p.v.b, .int .u32 (p.base.1 : Int), .int .u32 (p.base.2 : Int), (.slice a3 p.log.length k3), .bool p.known, .bool p.joined, .bool p.instep, .int .u32 (p.acked : Int)] (by rfl) (by rfl) 47 _ bP (by kernel_rfl) rfl (pr_one _ _ _ _) ?_)))
      have gr := grown_setRow (w := w3) (g := w.heap.size) (c := #[.int .i64 p.me, .int .u32 (p.v.n : Int), .int .i64 p.v.p, .int .i64 p.v.b, .int .u32 (p.base.1 : Int), .int .u32 (p.base.2 : Int), (.slice a3 p.log.length k3), .bool p.known, .bool p.joined, .bool p.instep, .int .u32 (p.acked : Int)])
      have bN := setRow_heap _ w.heap.size _ #[.int .i64 p.me, .int .u32 (p.v.n : Int), .int .i64 p.v.p, .int .i64 p.v.b, .int .u32 (p.base.1 : Int), .int .u32 (p.base.2 : Int), (.slice a3 p.log.length k3), .bool p.known, .bool p.joined, .bool p.instep, .int .u32 (p.acked : Int)] _ _ bP
      have bV := grown_other gr bV (by omega)
      have bZ := grown_other gr bZ (by omega)
      have il := il.grown gr bP (by decide) (by decide)
      have HX := Lib.hid (HX.out.grown gr (fun k hk => by cases hk; exact Nat.le_refl _))
      generalize w3.setRow w.heap.size #[.int .i64 p.me, .int .u32 (p.v.n : Int), .int .i64 p.v.p, .int .i64 p.v.b, .int .u32 (p.base.1 : Int), .int .u32 (p.base.2 : Int), (.slice a3 p.log.length k3), .bool p.known, .bool p.joined, .bool p.instep, .int .u32 (p.acked : Int)] = W3 at *
      clear gr bP
      have hd := block_all bV
      have h6 := block_all bN
      have ff := fun i => block_free bN i
      go_upto_region 5 with fail
      have b7 : ((((((((W3).setCell ⟨w.heap.size, 1, none⟩ (.int .u32 (v.n : Int))).setCell ⟨w.heap.size, 2, none⟩ (.int .i64 v.p)).setCell ⟨w.heap.size, 3, none⟩ (.int .i64 v.b)).setCell ⟨w.heap.size, 7, none⟩ (.bool false)).setCell ⟨w.heap.size, 8, none⟩ (.bool false)).setCell ⟨w.heap.size, 9, none⟩ (.bool false)).setCell ⟨w.heap.size, 10, none⟩ (.int .u32 0)).heap[w.heap.size]? = some (.cells #[.int .i64 (entQ p v).me, .int .u32 ((entQ p v).v.n : Int), .int .i64 (entQ p v).v.p, .int .i64 (entQ p v).v.b, .int .u32 ((entQ p v).base.1 : Int), .int .u32 ((entQ p v).base.2 : Int), (.slice a3 p.log.length k3), .bool (entQ p v).known, .bool (entQ p v).joined, .bool (entQ p v).instep, .int .u32 ((entQ p v).acked : Int)] 47 (0, 0)) := by
        have := block_setCell (block_setCell (block_setCell (block_setCell (block_setCell (block_setCell (block_setCell bN (i := 1) (.int .u32 (v.n : Int))) (i := 2) (.int .i64 v.p)) (i := 3) (.int .i64 v.b)) (i := 7) (.bool false)) (i := 8) (.bool false)) (i := 9) (.bool false)) (i := 10) (.int .u32 0)
        simpa [entQ] using this
      have gr : W3.grownBy ((((((((W3).setCell ⟨w.heap.size, 1, none⟩ (.int .u32 (v.n : Int))).setCell ⟨w.heap.size, 2, none⟩ (.int .i64 v.p)).setCell ⟨w.heap.size, 3, none⟩ (.int .i64 v.b)).setCell ⟨w.heap.size, 7, none⟩ (.bool false)).setCell ⟨w.heap.size, 8, none⟩ (.bool false)).setCell ⟨w.heap.size, 9, none⟩ (.bool false)).setCell ⟨w.heap.size, 10, none⟩ (.int .u32 0)) (some w.heap.size) := grown_trans (grown_trans (grown_trans (grown_trans (grown_trans (grown_trans (grown_setCell _ _ _ _) (grown_setCell _ _ _ _)) (grown_setCell _ _ _ _)) (grown_setCell _ _ _ _)) (grown_setCell _ _ _ _)) (grown_setCell _ _ _ _)) (grown_setCell _ _ _ _)
      generalize (((((((W3).setCell ⟨w.heap.size, 1, none⟩ (.int .u32 (v.n : Int))).setCell ⟨w.heap.size, 2, none⟩ (.int .i64 v.p)).setCell ⟨w.heap.size, 3, none⟩ (.int .i64 v.b)).setCell ⟨w.heap.size, 7, none⟩ (.bool false)).setCell ⟨w.heap.size, 8, none⟩ (.bool false)).setCell ⟨w.heap.size, 9, none⟩ (.bool false)).setCell ⟨w.heap.size, 10, none⟩ (.int .u32 0) = W4 at *
      have il := il.grown gr bN (by decide) (by decide)
      have HX := Lib.hid (HX.out.grown gr (fun k hk => by cases hk; exact Nat.le_refl _))
      have bZ := grown_other gr bZ (by omega)
      have bV := grown_other gr bV (by omega)
      clear h6 ff gr bN hd
      have hd := block_all bV
      have hme := mkEql0
      obtain ⟨Q, hQ⟩ : ∃ Q, entQ p v = Q := ⟨_, rfl⟩
      rw [hQ] at b7
      have h7 := block_all b7
      have HQ := Lib.hid hQ
      clear hQ
      cases hp1 : (Q.me == v.p) with
      | false =>
        have ENT := Lib.hid (show rentP p v = Q by unfold rentP; rw [show p.me = Q.me by rw [← HQ.out]; rfl, hp1, HQ.out]; rfl)
        have b9 := setRow_heap _ (w.heap.size + 2) _ #[.int .i64 Q.me, .int .u32 (Q.v.n : Int), .int .i64 Q.v.p, .int .i64 Q.v.b, .int .u32 (Q.base.1 : Int), .int .u32 (Q.base.2 : Int), (.slice a3 p.log.length k3), .bool Q.known, .bool Q.joined, .bool Q.instep, .int .u32 (Q.acked : Int)] _ _ bZ
        have g9 := grown_setRow (w := W4) (g := w.heap.size + 2) (c := #[.int .i64 Q.me, .int .u32 (Q.v.n : Int), .int .i64 Q.v.p, .int .i64 Q.v.b, .int .u32 (Q.base.1 : Int), .int .u32 (Q.base.2 : Int), (.slice a3 p.log.length k3), .bool Q.known, .bool Q.joined, .bool Q.instep, .int .u32 (Q.acked : Int)])
        have il := il.grown g9 bZ (by decide) (by decide)
        have ix := HX.out.grown g9 (fun k hk => by cases hk; omega)
        clear g9
        go_wp2_with (((with_reducible refine at_store 47 (.tmp 4) (.tmp 41) ?_); go_must (refine wpl_store rfl 47 (.tmp 4) (.tmp 41) rfl (w.heap.size + 2) #[.int .i64 Q.me, .int .u32 (Q.v.n : Int), .int .i64 Q.v.p, .int .i64 Q.v.b, .int .u32 (Q.base.1 : Int), .int .u32 (Q.base.2 : Int), (.slice a3 p.log.length k3), .bool Q.known, .bool Q.joined, .bool Q.instep, .int .u32 (Q.acked : Int)] (by rfl) (by rfl) 47 _ bZ (by kernel_rfl) rfl (pr_one _ _ _ _) ?_)))
        exact bodyPost_ret (results_cell_tmp (p := 4) (q := 5) rfl _ _ (w.heap.size + 2) _ _ _ _ (by rfl) b9 Tryd.underlying47 rfl (by kernel_rfl)) rfl ⟨ix, .inr ⟨HE.out, .slice a3 p.log.length k3, u3, by rw [ENT.out]; rfl, il⟩⟩
      | true =>
        cases hm : meq Q.base m0 with
        | false =>
          have ENT := Lib.hid (show rentP p v = Q by unfold rentP; rw [show p.me = Q.me by rw [← HQ.out]; rfl, show p.base = Q.base by rw [← HQ.out]; rfl, hp1, hm, HQ.out]; rfl)
          have b9 := setRow_heap _ (w.heap.size + 2) _ #[.int .i64 Q.me, .int .u32 (Q.v.n : Int), .int .i64 Q.v.p, .int .i64 Q.v.b, .int .u32 (Q.base.1 : Int), .int .u32 (Q.base.2 : Int), (.slice a3 p.log.length k3), .bool Q.known, .bool Q.joined, .bool Q.instep, .int .u32 (Q.acked : Int)] _ _ bZ
          have g9 := grown_setRow (w := W4) (g := w.heap.size + 2) (c := #[.int .i64 Q.me, .int .u32 (Q.v.n : Int), .int .i64 Q.v.p, .int .i64 Q.v.b, .int .u32 (Q.base.1 : Int), .int .u32 (Q.base.2 : Int), (.slice a3 p.log.length k3), .bool Q.known, .bool Q.joined, .bool Q.instep, .int .u32 (Q.acked : Int)])
          have il := il.grown g9 bZ (by decide) (by decide)
          have ix := HX.out.grown g9 (fun k hk => by cases hk; omega)
          clear g9
          go_wp2_with (((with_reducible refine at_store 47 (.tmp 4) (.tmp 41) ?_); go_must (refine wpl_store rfl 47 (.tmp 4) (.tmp 41) rfl (w.heap.size + 2) #[.int .i64 Q.me, .int .u32 (Q.v.n : Int), .int .i64 Q.v.p, .int .i64 Q.v.b, .int .u32 (Q.base.1 : Int), .int .u32 (Q.base.2 : Int), (.slice a3 p.log.length k3), .bool Q.known, .bool Q.joined, .bool Q.instep, .int .u32 (Q.acked : Int)] (by rfl) (by rfl) 47 _ bZ (by kernel_rfl) rfl (pr_one _ _ _ _) ?_)))
          exact bodyPost_ret (results_cell_tmp (p := 4) (q := 5) rfl _ _ (w.heap.size + 2) _ _ _ _ (by rfl) b9 Tryd.underlying47 rfl (by kernel_rfl)) rfl ⟨ix, .inr ⟨HE.out, .slice a3 p.log.length k3, u3, by rw [ENT.out]; rfl, il⟩⟩
        | true =>
          obtain ⟨K, hK⟩ : ∃ K, ({ Q with base := (v.n, 0) } : Pr) = K := ⟨_, rfl⟩
          have ENT := Lib.hid (show rentP p v = K by unfold rentP; rw [show p.me = Q.me by rw [← HQ.out]; rfl, show p.base = Q.base by rw [← HQ.out]; rfl, hp1, hm, HQ.out, ← hK]; rfl)
          have HK := Lib.hid hK
          clear hK
          have ff := fun i => block_free b7 i
          go_upto_region 7 with fail
          have b8 := block_setCell (block_setCell b7 (i := 4) (.int .u32 (v.n : Int))) (i := 5) (.int .u32 0)
          have b8 : ((W4.setCell ⟨w.heap.size, 4, none⟩ (.int .u32 (v.n : Int))).setCell ⟨w.heap.size, 5, none⟩ (.int .u32 0)).heap[w.heap.size]? = some (.cells #[.int .i64 K.me, .int .u32 (K.v.n : Int), .int .i64 K.v.p, .int .i64 K.v.b, .int .u32 (K.base.1 : Int), .int .u32 (K.base.2 : Int), (.slice a3 p.log.length k3), .bool K.known, .bool K.joined, .bool K.instep, .int .u32 (K.acked : Int)] 47 (0, 0)) := by
            rw [← HK.out]
            simpa using b8
          have gr := grown_trans (grown_setCell W4 w.heap.size 4 (.int .u32 (v.n : Int))) (grown_setCell _ w.heap.size 5 (.int .u32 0))
          have il := il.grown gr b7 (by decide) (by decide)
          have HX := Lib.hid (HX.out.grown gr (fun k hk => by cases hk; exact Nat.le_refl _))
          have bZ := grown_other gr bZ (by omega)
          generalize (W4.setCell ⟨w.heap.size, 4, none⟩ (.int .u32 (v.n : Int))).setCell ⟨w.heap.size, 5, none⟩ (.int .u32 0) = W5 at *
          clear hd h7 ff gr b7
          have h7 := block_all b8
          have b9 := setRow_heap _ (w.heap.size + 2) _ #[.int .i64 K.me, .int .u32 (K.v.n : Int), .int .i64 K.v.p, .int .i64 K.v.b, .int .u32 (K.base.1 : Int), .int .u32 (K.base.2 : Int), (.slice a3 p.log.length k3), .bool K.known, .bool K.joined, .bool K.instep, .int .u32 (K.acked : Int)] _ _ bZ
          have g9 := grown_setRow (w := W5) (g := w.heap.size + 2) (c := #[.int .i64 K.me, .int .u32 (K.v.n : Int), .int .i64 K.v.p, .int .i64 K.v.b, .int .u32 (K.base.1 : Int), .int .u32 (K.base.2 : Int), (.slice a3 p.log.length k3), .bool K.known, .bool K.joined, .bool K.instep, .int .u32 (K.acked : Int)])
          have il := il.grown g9 bZ (by decide) (by decide)
          have ix := HX.out.grown g9 (fun k hk => by cases hk; omega)
          clear g9
          go_wp2_with (((with_reducible refine at_store 47 (.tmp 4) (.tmp 41) ?_); go_must (refine wpl_store rfl 47 (.tmp 4) (.tmp 41) rfl (w.heap.size + 2) #[.int .i64 K.me, .int .u32 (K.v.n : Int), .int .i64 K.v.p, .int .i64 K.v.b, .int .u32 (K.base.1 : Int), .int .u32 (K.base.2 : Int), (.slice a3 p.log.length k3), .bool K.known, .bool K.joined, .bool K.instep, .int .u32 (K.acked : Int)] (by rfl) (by rfl) 47 _ bZ (by kernel_rfl) rfl (pr_one _ _ _ _) ?_)))
          exact bodyPost_ret (results_cell_tmp (p := 4) (q := 5) rfl _ _ (w.heap.size + 2) _ _ _ _ (by rfl) b9 Tryd.underlying47 rfl (by kernel_rfl)) rfl ⟨ix, .inr ⟨HE.out, .slice a3 p.log.length k3, u3, by rw [ENT.out]; rfl, il⟩⟩
end Go.Proofs.YtkcddcomjbihgaaDoor

namespace Go.Proofs.YtkcddcomjbihgaaDoor
open Go.RowKit
set_option linter.unusedVariables false
set_option linter.unusedSimpArgs false

theorem kept_v (p : Pr) (e : LgE) : (keptP p e).v = p.v ∧ (keptP p e).me = p.me ∧ (keptP p e).known = p.known := by
  unfold keptP
  split <;> exact ⟨rfl, rfl, rfl⟩
theorem kept_ok {p : Pr} {e : LgE} (hp : PrOk p) (hok : ∀ e ∈ p.log, lgOk e) (he : mkOk e.m) : PrOk (keptP p e) := by
  unfold keptP
  split
  · refine ⟨hp.me, hp.vn, hp.vp, hp.vb, ?_, hp.acked⟩
    show mkOk (((p.log ++ [e]).head?.map (·.m)).getD p.base)
    cases h : p.log with
    | nil => exact he
    | cons x l => exact (hok x (by rw [h]; exact List.mem_cons_self ..)).1
  · exact ⟨hp.me, hp.vn, hp.vp, hp.vb, hp.base, hp.acked⟩
def rappErr (p : Pr) (b : List UInt8) : Int := if (p.me == p.v.p) = false then 362 else if 40000 < b.length then 3 else if (lastM p).2 = 4294967295 then 6 else 0
/-- What the document's Append gives. -/
def RAppPost (w : World) (p : Pr) (b : List UInt8) (e : Ending) (w' : World) : Prop :=
  Ext w w' ∧ ((rappErr p b ≠ 0 ∧ e = .returned (.tuple #[.agg #[.int .i64 (newP 0).me, .int .u32 ((newP 0).v.n : Int), .int .i64 (newP 0).v.p, .int .i64 (newP 0).v.b, .int .u32 ((newP 0).base.1 : Int), .int .u32 ((newP 0).base.2 : Int), (.slice none 0 0), .bool (newP 0).known, .bool (newP 0).joined, .bool (newP 0).instep, .int .u32 ((newP 0).acked : Int)], .slice none 0 0, .agg #[.int .u32 (m0.1 : Int), .int .u32 (m0.2 : Int)], .int .i64 (rappErr p b)]))
    ∨ (rappErr p b = 0 ∧ ∃ vl ul vo uo, e = .returned (.tuple #[.agg #[.int .i64 (keptP p ⟨nextM p, b⟩).me, .int .u32 ((keptP p ⟨nextM p, b⟩).v.n : Int), .int .i64 (keptP p ⟨nextM p, b⟩).v.p, .int .i64 (keptP p ⟨nextM p, b⟩).v.b, .int .u32 ((keptP p ⟨nextM p, b⟩).base.1 : Int), .int .u32 ((keptP p ⟨nextM p, b⟩).base.2 : Int), vl, .bool (keptP p ⟨nextM p, b⟩).known, .bool (keptP p ⟨nextM p, b⟩).joined, .bool (keptP p ⟨nextM p, b⟩).instep, .int .u32 ((keptP p ⟨nextM p, b⟩).acked : Int)], vo, .agg #[.int .u32 ((nextM p).1 : Int), .int .u32 ((nextM p).2 : Int)], .int .i64 0])
      ∧ LgFr w' w.heap.size vl (keptP p ⟨nextM p, b⟩).log ul ∧ LtOwn w' w.heap.size vo (if p.known = true then [⟨oth p, encN ⟨3, p.v.n, nextM p, lastM p, b⟩⟩] else []) uo))
theorem rapp_err {w : World} {p : Pr} {b : List UInt8} {z : Int} (h : rappErr p b = z) (hz : z ≠ 0) {w' : World} (x : Ext w w') : RAppPost w p b (.returned (.tuple #[.agg #[.int .i64 (newP 0).me, .int .u32 ((newP 0).v.n : Int), .int .i64 (newP 0).v.p, .int .i64 (newP 0).v.b, .int .u32 ((newP 0).base.1 : Int), .int .u32 ((newP 0).base.2 : Int), (.slice none 0 0), .bool (newP 0).known, .bool (newP 0).joined, .bool (newP 0).instep, .int .u32 ((newP 0).acked : Int)], .slice none 0 0, .agg #[.int .u32 (m0.1 : Int), .int .u32 (m0.2 : Int)], .int .i64 z])) w' :=
  ⟨x, .inl ⟨by rw [h]; exact hz, by rw [h]⟩⟩
set_option maxHeartbeats 4000000 in
set_option maxRecDepth 100000 in
theorem rbAppend (w : World) (vl vb : Value) (p : Pr) (b : List UInt8) (h : IsLg w vl p.log) (hp : PrOk p) (hb : IsB w vb b) (hll : p.log.length ≤ 16) :
    Calls Tryd.prog 27 #[.agg #[.int .i64 p.me, .int .u32 (p.v.n : Int), .int .i64 p.v.p, .int .i64 p.v.b, .int .u32 (p.base.1 : Int), .int .u32 (p.base.2 : Int), vl, .bool p.known, .bool p.joined, .bool p.instep, .int .u32 (p.acked : Int)], vb] w (RAppPost w p b) := by
  have hok := h.ok
  obtain ⟨ao, cap, rfl, -⟩ := h.opened
  obtain ⟨ab, cb, rfl, -⟩ := hb.opened
  go_enter Tryd.func27, Tryd.ntmps27
  go_upto_region 1 with fail
  refine wp_forget (fun W => IsLg W (.slice ao p.log.length cap) p.log ∧ IsB W (.slice ab b.length cb) b ∧ Ext w W ∧ W.heap[w.heap.size]? = some (.cells #[.int .i64 p.me, .int .u32 (p.v.n : Int), .int .i64 p.v.p, .int .i64 p.v.b, .int .u32 (p.base.1 : Int), .int .u32 (p.base.2 : Int), (.slice ao p.log.length cap), .bool p.known, .bool p.joined, .bool p.instep, .int .u32 (p.acked : Int)] 47 (0, 0)) ∧ W.heap[w.heap.size + 1]? = some (.cells #[.int .i64 (newP 0).me, .int .u32 ((newP 0).v.n : Int), .int .i64 (newP 0).v.p, .int .i64 (newP 0).v.b, .int .u32 ((newP 0).base.1 : Int), .int .u32 ((newP 0).base.2 : Int), (.slice none 0 0), .bool (newP 0).known, .bool (newP 0).joined, .bool (newP 0).instep, .int .u32 ((newP 0).acked : Int)] 47 (0, 0)) ∧ W.heap[w.heap.size + 2]? = some (.cells #[.int .u32 (m0.1 : Int), .int .u32 (m0.2 : Int)] 27 (0, 0))) ⟨h.ext ((((Ext.refl w).alloc _).alloc _).alloc _), hb.ext ((((Ext.refl w).alloc _).alloc _).alloc _), (((Ext.refl w).alloc _).alloc _).alloc _, blk_old (blk_old (heap_alloc_new w _)), blk_old (blk_new (by simp)), blk_new (by simp)⟩ ?_
  rintro W ⟨hl, hb2, X, bP, bZ, bM0⟩
  have HOK := Lib.hid hok
  have HB0 := Lib.hid hb
  obtain ⟨L, hL⟩ : ∃ M, lastM p = M := ⟨_, rfl⟩
  have HLM := Lib.hid hL
  have hLo := lastM_ok hp hok
  rw [hL] at hLo
  have HLO := Lib.hid hLo
  have hN : nextM p = (p.v.n, (L.2 + 1) % 4294967296) := by unfold nextM; rw [hL]
  have HN := Lib.hid hN
  have hc := block_all bP
  clear hL hLo hN h hb hok
  go_wp2_with fail
  refine (rbLast _ _ p hl).mono ?_
  rintro e w4 ⟨rfl, x4⟩
  rw [HLM.out]
  go_upto_region 2 with (((with_reducible refine at_store 27 (.tmp 8) (.tmp 12) ?_); go_must (refine wpl_store rfl 27 (.tmp 8) (.tmp 12) rfl w4.heap.size #[.int .u32 (L.1 : Int), .int .u32 (L.2 : Int)] (by rfl) (by rfl) 27 _ (heap_alloc_new w4 _) (by kernel_rfl) rfl (by kernel_rfl) ?_)))
  refine wp_forget (fun W => Ext w4 W ∧ W.heap[w4.heap.size]? = some (.cells #[.int .u32 (L.1 : Int), .int .u32 (L.2 : Int)] 27 (0, 0))) ⟨ext_new _ _ _, new_row _ _ _ _⟩ ?_
  rintro W5 ⟨y, b8⟩
  have x := x4.trans y
  have bP := x.keeps bP
  have bZ := x.keeps bZ
  have bM0 := x.keeps bM0
  have HL := Lib.hid (hl.ext x)
  have HB := Lib.hid (hb2.ext x)
  have HX := Lib.hid (X.trans x)
  have h8 : w.heap.size + 2 < w4.heap.size := by have := block_lt ‹W.heap[w.heap.size + 2]? = _›; have := x4.size; omega
  clear hc hl hb2 X x x4 y
  obtain ⟨B8, hB8⟩ : ∃ B, w4.heap.size = B := ⟨_, rfl⟩
  rw [hB8] at b8 h8 ⊢
  clear hB8
  have hc := block_all bP
  have c8 := block_all b8
  cases q1 : (p.me == p.v.p) with
  | false =>
    have HE := Lib.hid (show rappErr p b = 362 by unfold rappErr; rw [if_pos q1])
    have q1' : (p.me != p.v.p) = true := by rw [bne, q1]; rfl
    clear q1
    go_wp2_with (first | ((with_reducible refine at_store 47 (.tmp 4) (.tmp 20) ?_); go_must (refine wpl_store rfl 47 (.tmp 4) (.tmp 20) rfl (w.heap.size + 1) #[.int .i64 (newP 0).me, .int .u32 ((newP 0).v.n : Int), .int .i64 (newP 0).v.p, .int .i64 (newP 0).v.b, .int .u32 ((newP 0).base.1 : Int), .int .u32 ((newP 0).base.2 : Int), (.slice none 0 0), .bool (newP 0).known, .bool (newP 0).joined, .bool (newP 0).instep, .int .u32 ((newP 0).acked : Int)] (by rfl) (by rfl) 47 _ bZ (by kernel_rfl) rfl (pr_one _ _ _ _) ?_); rw [setRow_self _ (w.heap.size + 1) _ _ _ bZ]) | ((with_reducible refine at_store 27 (.tmp 6) (.tmp 21) ?_); go_must (refine wpl_store rfl 27 (.tmp 6) (.tmp 21) rfl (w.heap.size + 2) #[.int .u32 (m0.1 : Int), .int .u32 (m0.2 : Int)] (by rfl) (by rfl) 27 _ bM0 (by kernel_rfl) rfl (by kernel_rfl) ?_); rw [setRow_self _ (w.heap.size + 2) _ _ _ bM0]))
    exact bodyPost_ret (results_4 (p := 4) (q := 5) (r := 6) (s := 7) rfl _ _ (w.heap.size + 1) (w.heap.size + 2) _ _ _ _ _ _ _ _ (by rfl) bZ Tryd.underlying47 rfl (by kernel_rfl) (by rfl) bM0 Tryd.underlying27 rfl (by kernel_rfl)) rfl (rapp_err HE.out (by omega) HX.out)
  | true =>
    have q1' : (p.me != p.v.p) = false := by rw [bne, q1]; rfl
    have r1 : ¬ (p.me == p.v.p) = false := by rw [q1]; decide
    by_cases hlb : 40000 < b.length
    · have HE := Lib.hid (show rappErr p b = 3 by unfold rappErr; rw [if_neg r1, if_pos hlb])
      have hlb' : (40000 : Int) < (b.length : Int) := by omega
      clear q1 r1 hlb
      go_wp2_with (first | ((with_reducible refine at_store 47 (.tmp 4) (.tmp 26) ?_); go_must (refine wpl_store rfl 47 (.tmp 4) (.tmp 26) rfl (w.heap.size + 1) #[.int .i64 (newP 0).me, .int .u32 ((newP 0).v.n : Int), .int .i64 (newP 0).v.p, .int .i64 (newP 0).v.b, .int .u32 ((newP 0).base.1 : Int), .int .u32 ((newP 0).base.2 : Int), (.slice none 0 0), .bool (newP 0).known, .bool (newP 0).joined, .bool (newP 0).instep, .int .u32 ((newP 0).acked : Int)] (by rfl) (by rfl) 47 _ bZ (by kernel_rfl) rfl (pr_one _ _ _ _) ?_); rw [setRow_self _ (w.heap.size + 1) _ _ _ bZ]) | ((with_reducible refine at_store 27 (.tmp 6) (.tmp 27) ?_); go_must (refine wpl_store rfl 27 (.tmp 6) (.tmp 27) rfl (w.heap.size + 2) #[.int .u32 (m0.1 : Int), .int .u32 (m0.2 : Int)] (by rfl) (by rfl) 27 _ bM0 (by kernel_rfl) rfl (by kernel_rfl) ?_); rw [setRow_self _ (w.heap.size + 2) _ _ _ bM0]))
      exact bodyPost_ret (results_4 (p := 4) (q := 5) (r := 6) (s := 7) rfl _ _ (w.heap.size + 1) (w.heap.size + 2) _ _ _ _ _ _ _ _ (by rfl) bZ Tryd.underlying47 rfl (by kernel_rfl) (by rfl) bM0 Tryd.underlying27 rfl (by kernel_rfl)) rfl (rapp_err HE.out (by omega) HX.out)
    · by_cases hm0 : L.2 = 4294967295
      · have HE := Lib.hid (show rappErr p b = 6 by unfold rappErr; rw [if_neg r1, if_neg hlb, HLM.out, if_pos hm0])
        have hm1 : ((L.2 : Int) == 4294967295) = true := by rw [beq_iff_eq]; omega
        have hlb' : ¬ (40000 : Int) < (b.length : Int) := by omega
        clear q1 r1 hlb hm0
        go_wp2_with (first | ((with_reducible refine at_store 47 (.tmp 4) (.tmp 32) ?_); go_must (refine wpl_store rfl 47 (.tmp 4) (.tmp 32) rfl (w.heap.size + 1) #[.int .i64 (newP 0).me, .int .u32 ((newP 0).v.n : Int), .int .i64 (newP 0).v.p, .int .i64 (newP 0).v.b, .int .u32 ((newP 0).base.1 : Int), .int .u32 ((newP 0).base.2 : Int), (.slice none 0 0), .bool (newP 0).known, .bool (newP 0).joined, .bool (newP 0).instep, .int .u32 ((newP 0).acked : Int)] (by rfl) (by rfl) 47 _ bZ (by kernel_rfl) rfl (pr_one _ _ _ _) ?_); rw [setRow_self _ (w.heap.size + 1) _ _ _ bZ]) | ((with_reducible refine at_store 27 (.tmp 6) (.tmp 33) ?_); go_must (refine wpl_store rfl 27 (.tmp 6) (.tmp 33) rfl (w.heap.size + 2) #[.int .u32 (m0.1 : Int), .int .u32 (m0.2 : Int)] (by rfl) (by rfl) 27 _ bM0 (by kernel_rfl) rfl (by kernel_rfl) ?_); rw [setRow_self _ (w.heap.size + 2) _ _ _ bM0]))
        exact bodyPost_ret (results_4 (p := 4) (q := 5) (r := 6) (s := 7) rfl _ _ (w.heap.size + 1) (w.heap.size + 2) _ _ _ _ _ _ _ _ (by rfl) bZ Tryd.underlying47 rfl (by kernel_rfl) (by rfl) bM0 Tryd.underlying27 rfl (by kernel_rfl)) rfl (rapp_err HE.out (by omega) HX.out)
      · have HE := Lib.hid (show rappErr p b = 0 by unfold rappErr; rw [if_neg r1, if_neg hlb, HLM.out, if_neg hm0])
        have hm1 : ((L.2 : Int) == 4294967295) = false := by rw [beq_eq_false_iff_ne]; omega
        have hlb' : ¬ (40000 : Int) < (b.length : Int) := by omega
        have hL2 : (L.2 : Int) + 1 ≤ 4294967295 := by have := HLO.out.2; omega
        have HL2 := Lib.hid (show L.2 + 1 < 4294967296 by have := HLO.out.2; omega)
        have hwr : IntKind.u32.wrap ((L.2 : Int) + 1) = (L.2 : Int) + 1 := by rw [IntKind.wrap_u32]; omega
        obtain ⟨N, hN⟩ : ∃ N, nextM p = N := ⟨_, rfl⟩
        have hN1 : N = (p.v.n, L.2 + 1) := by
          rw [← hN, HN.out, Nat.mod_eq_of_lt (by omega)]
        have HN := Lib.hid hN
        have HNE := Lib.hid hN1
        clear q1 r1 hlb hm0 hN hN1
        go_upto_region 9 with fail
        refine wp_forget (fun V => Ext W5 V ∧ V.heap[W5.heap.size]? = some (.cells #[.int .u32 (N.1 : Int), .int .u32 (N.2 : Int)] 27 (0, 0))) ?_ ?_
        · rw [HNE.out]
          exact ⟨(Ext.refl _).alloc _, by simpa using heap_alloc_new W5 (.cells #[.int .u32 (p.v.n : Int), .int .u32 ((L.2 : Int) + 1)] 27)⟩
        rintro W6 ⟨y, b9⟩
        have bP := y.keeps bP
        have b8 := y.keeps b8
        have bZ := y.keeps bZ
        have bM0 := y.keeps bM0
        have HL := Lib.hid (HL.out.ext y)
        have HB6 := Lib.hid (HB.out.ext y)
        have HX := Lib.hid (HX.out.trans y)
        have h9 : B8 < W5.heap.size := block_lt ‹W5.heap[B8]? = _›
        clear hc c8 y hm1 hL2 hwr
        obtain ⟨B9, hB9⟩ : ∃ B, W5.heap.size = B := ⟨_, rfl⟩
        rw [hB9] at b9 h9 ⊢
        clear hB9
        have hbl : b.length ≤ 40000 := by omega
        go_cut [0] from 41 to 46 (fun t0 wx => ∃ a10 k10 us', wx.heap[w.heap.size]? = some (.cells #[.int .i64 (keptP p ⟨N, b⟩).me, .int .u32 ((keptP p ⟨N, b⟩).v.n : Int), .int .i64 (keptP p ⟨N, b⟩).v.p, .int .i64 (keptP p ⟨N, b⟩).v.b, .int .u32 ((keptP p ⟨N, b⟩).base.1 : Int), .int .u32 ((keptP p ⟨N, b⟩).base.2 : Int), (.slice a10 (keptP p ⟨N, b⟩).log.length k10), .bool (keptP p ⟨N, b⟩).known, .bool (keptP p ⟨N, b⟩).joined, .bool (keptP p ⟨N, b⟩).instep, .int .u32 ((keptP p ⟨N, b⟩).acked : Int)] 47 (0, 0)) ∧ LgFr wx w.heap.size (.slice a10 (keptP p ⟨N, b⟩).log.length k10) (keptP p ⟨N, b⟩).log us' ∧ Ext w wx ∧ wx.heap[w.heap.size + 1]? = some (.cells #[.int .i64 (newP 0).me, .int .u32 ((newP 0).v.n : Int), .int .i64 (newP 0).v.p, .int .i64 (newP 0).v.b, .int .u32 ((newP 0).base.1 : Int), .int .u32 ((newP 0).base.2 : Int), (.slice none 0 0), .bool (newP 0).known, .bool (newP 0).joined, .bool (newP 0).instep, .int .u32 ((newP 0).acked : Int)] 47 (0, 0)) ∧ wx.heap[w.heap.size + 2]? = some (.cells #[.int .u32 (m0.1 : Int), .int .u32 (m0.2 : Int)] 27 (0, 0)) ∧ wx.heap[B8]? = some (.cells #[.int .u32 (L.1 : Int), .int .u32 (L.2 : Int)] 27 (0, 0)) ∧ wx.heap[B9]? = some (.cells #[.int .u32 (N.1 : Int), .int .u32 (N.2 : Int)] 27 (0, 0)))
        case first =>
          have KP := fun v (h : Ext W6 v) => block_all (h.keeps bP)
          have K9 := fun v (h : Ext W6 v) => block_all (h.keeps b9)
          have hXz := HX.out.size
          have BP := Lib.hid bP
          have BZ := Lib.hid bZ
          have BM := Lib.hid bM0
          have BE := Lib.hid b8
          have BN := Lib.hid b9
          clear bP b8 b9 bZ bM0 hlb'
          refine wp_region_G 6 (fun v => Ext W6 v) (by kernel_rfl) fun wd hqd hHeld => ?_
          refine G_take (i := 0) (u := ?vb0) rfl (by kernel_rfl) (by kernel_rfl) (by kernel_rfl) (fun _ _ _ h => h) rfl (by kernel_rfl) (by decide) (by rfl) (Or.inl ⟨by rfl, ?hyb0⟩) hHeld ?_
          case hyb0 => (intro w hSw; have kk := KP _ hSw; go_simp; try with_reducible rfl)
          simp only [Act.put, List.setIfInBounds_toArray, List.set_cons_zero, List.set_cons_succ, List.getElem_toArray, List.getElem_cons_zero, List.getElem_cons_succ]
          refine G_take (i := 2) (u := ?vb2) rfl (by kernel_rfl) (by kernel_rfl) (by kernel_rfl) (fun _ _ _ h => h) rfl (by kernel_rfl) (by decide) (by rfl) (Or.inl ⟨by rfl, ?hyb2⟩) hHeld ?_
          case hyb2 => (intro w hSw; have kk := K9 _ hSw; go_simp; try with_reducible rfl)
          simp only [Act.put, List.setIfInBounds_toArray, List.set_cons_zero, List.set_cons_succ, List.getElem_toArray, List.getElem_cons_zero, List.getElem_cons_succ]
          refine G_pure (i := 3) (u := ?vb3) rfl (by kernel_rfl) (by kernel_rfl) (by kernel_rfl) (fun _ _ _ h => h) (by decide) (Or.inl ⟨by rfl, ?hyb3⟩) hHeld ?_
          case hyb3 => (intro w hSw; go_simp; try with_reducible rfl)
          simp only [Act.put, List.setIfInBounds_toArray, List.set_cons_zero, List.set_cons_succ, List.getElem_toArray, List.getElem_cons_zero, List.getElem_cons_succ]
          refine G_pure (i := 4) (u := ?vb4) rfl (by kernel_rfl) (by kernel_rfl) (by kernel_rfl) (fun _ _ _ h => h) (by decide) (Or.inl ⟨by rfl, ?hyb4⟩) hHeld ?_
          case hyb4 => (intro w hSw; go_simp; try with_reducible rfl)
          simp only [Act.put, List.setIfInBounds_toArray, List.set_cons_zero, List.set_cons_succ, List.getElem_toArray, List.getElem_cons_zero, List.getElem_cons_succ]
          refine G_all (rs := [1]) (by kernel_rfl) (by simp) ?_
          intro i hi; obtain rfl : i = 1 := by simpa using hi
          refine wpOp_run rfl (by rfl) ?_
          go_simp
          refine Calls.mono (rbCopy _ _ p (HL.out.ext hHeld) (by omega)) ?_
          rintro e w4 ⟨v4, u4, rfl, il4, x4⟩
          have il4 := il4.base hHeld.size
          obtain ⟨a4, k4, rfl⟩ := own_shape il4.own
          have hHeld := hHeld.trans x4
          first | refine ⟨fun _ => hHeld, ?_⟩ | refine ⟨hHeld, ?_⟩
          try simp only [Act.put, List.setIfInBounds_toArray, List.set_cons_zero, List.set_cons_succ, List.getElem_toArray, List.getElem_cons_zero, List.getElem_cons_succ]
          refine G_all (rs := [5]) (by kernel_rfl) (by simp) ?_
          intro i hi; obtain rfl : i = 5 := by simpa using hi
          refine wpOp_run rfl (by rfl) ?_
          go_simp
          refine Calls.mono (rbKeep _ W6 W6.heap.size hHeld (Nat.le_refl _) hHeld.size _ _ p u4 il4 N b (HB6.out.ext hHeld) (by omega) (by omega)) ?_
          rintro e w5 ⟨⟨v5, u5, rfl, il5, x5⟩, g5⟩
          obtain ⟨a5, k5, rfl⟩ := il5.shape
          clear il4 g5
          have hHeld := x5
          first | refine ⟨fun _ => hHeld, ?_⟩ | refine ⟨hHeld, ?_⟩
          try simp only [Act.put, List.setIfInBounds_toArray, List.set_cons_zero, List.set_cons_succ, List.getElem_toArray, List.getElem_cons_zero, List.getElem_cons_succ]
          refine G_all (rs := [6]) (by kernel_rfl) (by simp) ?_
          intro i hi; obtain rfl : i = 6 := by simpa using hi
          refine wpOp_run rfl (by rfl) ?_
          refine wp_store_row 47 (.tmp 2) (.tmp 46) rfl w.heap.size #[.int .i64 (keptP p ⟨N, b⟩).me, .int .u32 ((keptP p ⟨N, b⟩).v.n : Int), .int .i64 (keptP p ⟨N, b⟩).v.p, .int .i64 (keptP p ⟨N, b⟩).v.b, .int .u32 ((keptP p ⟨N, b⟩).base.1 : Int), .int .u32 ((keptP p ⟨N, b⟩).base.2 : Int), (.slice a5 (keptP p ⟨N, b⟩).log.length k5), .bool (keptP p ⟨N, b⟩).known, .bool (keptP p ⟨N, b⟩).joined, .bool (keptP p ⟨N, b⟩).instep, .int .u32 ((keptP p ⟨N, b⟩).acked : Int)] (by rfl) (by rfl) 47 _ (hHeld.keeps BP.out) (by kernel_rfl) rfl (pr_one _ _ _ _) ?_
          try refine ⟨fun e => absurd e (by decide), ?_⟩
          refine G_free _ _ _ _ (by kernel_rfl) ?_
          try simp only [Act.put, List.setIfInBounds_toArray, List.set_cons_zero, List.set_cons_succ, List.getElem_toArray, List.getElem_cons_zero, List.getElem_cons_succ]
          refine wpAny_done (by kernel_rfl) ?_ _
          refine NoPanic.normal ?_
          have bP := hHeld.keeps BP.out
          have gr := grown_setRow (w := w5) (g := w.heap.size) (c := #[.int .i64 (keptP p ⟨N, b⟩).me, .int .u32 ((keptP p ⟨N, b⟩).v.n : Int), .int .i64 (keptP p ⟨N, b⟩).v.p, .int .i64 (keptP p ⟨N, b⟩).v.b, .int .u32 ((keptP p ⟨N, b⟩).base.1 : Int), .int .u32 ((keptP p ⟨N, b⟩).base.2 : Int), (.slice a5 (keptP p ⟨N, b⟩).log.length k5), .bool (keptP p ⟨N, b⟩).known, .bool (keptP p ⟨N, b⟩).joined, .bool (keptP p ⟨N, b⟩).instep, .int .u32 ((keptP p ⟨N, b⟩).acked : Int)])
          have bN := setRow_heap _ w.heap.size _ #[.int .i64 (keptP p ⟨N, b⟩).me, .int .u32 ((keptP p ⟨N, b⟩).v.n : Int), .int .i64 (keptP p ⟨N, b⟩).v.p, .int .i64 (keptP p ⟨N, b⟩).v.b, .int .u32 ((keptP p ⟨N, b⟩).base.1 : Int), .int .u32 ((keptP p ⟨N, b⟩).base.2 : Int), (.slice a5 (keptP p ⟨N, b⟩).log.length k5), .bool (keptP p ⟨N, b⟩).known, .bool (keptP p ⟨N, b⟩).joined, .bool (keptP p ⟨N, b⟩).instep, .int .u32 ((keptP p ⟨N, b⟩).acked : Int)] _ _ bP
          have il6 := (il5.base hXz).grown gr bP (by decide) (by decide)
          have xx := (HX.out.trans hHeld).grown gr (fun k hk => by cases hk; exact Nat.le_refl _)
          have bz := grown_other gr (hHeld.keeps BZ.out) (by omega)
          have bm := grown_other gr (hHeld.keeps BM.out) (by omega)
          have b8 := grown_other gr (hHeld.keeps BE.out) (by omega)
          have b9 := grown_other gr (hHeld.keeps BN.out) (by omega)
          clear gr bP KP K9 il5
          go_wp2_with fail
          go_meet
          exact ⟨a5, k5, u5, bN, il6, xx, bz, bm, b8, b9⟩
        case rest =>
          obtain ⟨a10, k10, ulg, bP, il, X, bZ, bM0, b8, b9⟩ := hcut
          obtain ⟨w3, rfl⟩ : ∃ v, v = wc := ⟨_, rfl⟩
          have hkv := kept_v p ⟨N, b⟩
          have hko := kept_ok (e := ⟨N, b⟩) hp HOK.out (by rw [HNE.out]; exact ⟨hp.vn, HL2.out⟩)
          obtain ⟨K, hK⟩ : ∃ K, keptP p ⟨N, b⟩ = K := ⟨_, rfl⟩
          rw [hK] at bP il hkv hko
          have HK := Lib.hid hK
          have HKO := Lib.hid hko
          have HKV := Lib.hid hkv
          have HX := Lib.hid X
          have HB3 := Lib.hid (HB0.out.ext X)
          have hbl' : (b.length : Int) ≤ 40000 := by omega
          clear hK hko hkv X HL HB6 HB hlb'
          have hc := block_all bP
          obtain ⟨O, hO⟩ : ∃ O, (if K.known = true then [(⟨oth K, encN ⟨3, K.v.n, N, L, b⟩⟩ : LtE)] else []) = O := ⟨_, rfl⟩
          have HO := Lib.hid hO
          have hXz := HX.out.size
          clear hO
          go_upto_if 48 with fail
          go_cut [10, 48] from 49 to 57 (fun t10 t48 wx => ∃ uo, LtOwn wx w.heap.size t10 O uo ∧ Ext w3 wx)
          case first =>
            cases hkn : K.known with
            | false =>
              have hO := HO.out
              rw [hkn, if_neg (by decide)] at hO
              subst hO
              go_wp2_with fail
              go_meet
              exact ⟨[], LtOwn.nil _ _, Ext.refl _⟩
            | true =>
              have hO := HO.out
              rw [hkn, if_pos rfl] at hO
              have HO := Lib.hid hO
              have hno : NtOk ⟨3, 0, N, L, b⟩ := ⟨by show i64Ok 3; simp [i64Ok], by show (0 : Nat) < 4294967296; decide, by rw [HNE.out]; exact ⟨hp.vn, HL2.out⟩, HLO.out⟩
              have C2 := fun v (h : Ext w3 v) => rbSend v (.slice a10 K.log.length k10) (.slice ab b.length cb) K ⟨3, 0, N, L, b⟩ (HB3.out.ext h) HKO.out hno (by show b.length ≤ 50000; omega)
              simp only [hkn] at C2
              have C2 := Lib.hid C2
              have c8 := block_all b8
              have c9 := block_all b9
              clear hO hno
              go_wp2_with fail
              refine (C2.out _ (Ext.refl _)).mono ?_
              rintro e w5 ⟨v5, rfl, own5, x5⟩
              have own5 := ownsRow_base own5 hXz
              obtain ⟨a5, c5, rfl⟩ := own_shape own5
              have hsz := Nat.le_trans hXz x5.size
              clear c8 c9 hc
              go_wp2_with (at_builtin; refine wp_app tyLt rfl (.tmp 49) (.tmp 56) rfl w.heap.size (.slice none 0 0) 0 [] (LtOwn.nil _ _).own (by rfl) _ 1 (ltV ⟨oth K, encN ⟨3, K.v.n, N, L, b⟩⟩ (a5, c5)) (sl_one_new (w := w5) (n := 2) (e := 88) rfl rfl) (by rfl) (ltV_one _ _) (by omega) (by omega) (by simp; omega) ?_; intro v10 w10 own10 gr10)
              have xb : Ext w5 (w5.alloc (.cells (ltV ⟨oth K, encN ⟨3, K.v.n, N, L, b⟩⟩ (a5, c5)).toArray 88)) := (Ext.refl w5).alloc _
              have x10 := grown_none gr10
              go_meet
              have hO := HO.out
              subst hO
              refine ⟨[(a5, c5)], ⟨rfl, by simpa [ltCs] using own10, ?_⟩, (x5.trans xb).trans x10⟩
              intro i hi u hu
              obtain rfl : i = 0 := by simp at hi; omega
              simp only [List.getElem?_cons_zero, Option.some.injEq] at hu
              subst hu
              exact ownsRow_ext own5 (xb.trans x10)
          case rest =>
            obtain ⟨uo, lo, x⟩ := hcut
            have bP := x.keeps bP
            have bZ := x.keeps bZ
            have bM0 := x.keeps bM0
            have b9 := x.keeps b9
            have il := il.ext x
            have HX := Lib.hid (HX.out.trans x)
            clear hc HB3 x b8
            obtain ⟨w4, rfl⟩ : ∃ v, v = wc := ⟨_, rfl⟩
            obtain ⟨S, hS⟩ : ∃ S : World → Prop, S = fun v => v.heap[w.heap.size]? = some (.cells #[.int .i64 K.me, .int .u32 (K.v.n : Int), .int .i64 K.v.p, .int .i64 K.v.b, .int .u32 (K.base.1 : Int), .int .u32 (K.base.2 : Int), (.slice a10 K.log.length k10), .bool K.known, .bool K.joined, .bool K.instep, .int .u32 (K.acked : Int)] 47 (0, 0)) ∧ v.heap[B9]? = some (.cells #[.int .u32 (N.1 : Int), .int .u32 (N.2 : Int)] 27 (0, 0)) := ⟨_, rfl⟩
            have K10 := fun v (h : S v) => block_all (show v.heap[w.heap.size]? = _ from by rw [hS] at h; exact h.1)
            have K8 := fun v (h : S v) => block_all (show v.heap[B9]? = _ from by rw [hS] at h; exact h.2)
            have HS := Lib.hid hS
            clear hS
            go_upto_region 13 with fail
            refine wp_region_G 6 (S) (by kernel_rfl) fun wd hqd hHeld => ?_
            have hE : Ext w4 wd := hHeld
            have hHeld : S wd := by rw [HS.out]; exact ⟨hE.keeps bP, hE.keeps b9⟩
            refine G_take (i := 0) (u := ?vd1_0) rfl (by kernel_rfl) (by kernel_rfl) (by kernel_rfl) (fun _ _ _ h => h) rfl (by kernel_rfl) (by decide) (by rfl) (Or.inl ⟨by rfl, ?hyd1_0⟩) hHeld ?_
            case hyd1_0 => (intro w hSw; have kk := K10 _ hSw; go_simp; try with_reducible rfl)
            simp only [Act.put, List.setIfInBounds_toArray, List.set_cons_zero, List.set_cons_succ, List.getElem_toArray, List.getElem_cons_zero, List.getElem_cons_succ]
            refine G_pure (i := 1) (u := ?vd2_1) rfl (by kernel_rfl) (by kernel_rfl) (by kernel_rfl) (fun _ _ _ h => h) (by decide) (Or.inl ⟨by rfl, ?hyd2_1⟩) hHeld ?_
            case hyd2_1 => (intro w hSw; go_simp; try with_reducible rfl)
            simp only [Act.put, List.setIfInBounds_toArray, List.set_cons_zero, List.set_cons_succ, List.getElem_toArray, List.getElem_cons_zero, List.getElem_cons_succ]
            refine G_take (i := 2) (u := ?vd3_2) rfl (by kernel_rfl) (by kernel_rfl) (by kernel_rfl) (fun _ _ _ h => h) rfl (by kernel_rfl) (by decide) (by rfl) (Or.inl ⟨by rfl, ?hyd3_2⟩) hHeld ?_
            case hyd3_2 => (intro w hSw; have kk := K8 _ hSw; go_simp; try with_reducible rfl)
            simp only [Act.put, List.setIfInBounds_toArray, List.set_cons_zero, List.set_cons_succ, List.getElem_toArray, List.getElem_cons_zero, List.getElem_cons_succ]
            refine G_all (rs := [3]) (by kernel_rfl) (by simp) ?_
            intro i hi; obtain rfl : i = 3 := by simpa using hi
            refine wpOp_run rfl (by rfl) ?_
            refine wp_store_row 47 (.tmp 4) (.tmp 58) rfl (w.heap.size + 1) #[.int .i64 K.me, .int .u32 (K.v.n : Int), .int .i64 K.v.p, .int .i64 K.v.b, .int .u32 (K.base.1 : Int), .int .u32 (K.base.2 : Int), (.slice a10 K.log.length k10), .bool K.known, .bool K.joined, .bool K.instep, .int .u32 (K.acked : Int)] (by rfl) (by rfl) 47 _ (hE.keeps bZ) (by kernel_rfl) rfl (pr_one _ _ _ _) ?_
            have h3 := grown_setRow (w := wd) (g := w.heap.size + 1) (c := #[.int .i64 K.me, .int .u32 (K.v.n : Int), .int .i64 K.v.p, .int .i64 K.v.b, .int .u32 (K.base.1 : Int), .int .u32 (K.base.2 : Int), (.slice a10 K.log.length k10), .bool K.known, .bool K.joined, .bool K.instep, .int .u32 (K.acked : Int)])
            have hHeld : S (wd.setRow (w.heap.size + 1) #[.int .i64 K.me, .int .u32 (K.v.n : Int), .int .i64 K.v.p, .int .i64 K.v.b, .int .u32 (K.base.1 : Int), .int .u32 (K.base.2 : Int), (.slice a10 K.log.length k10), .bool K.known, .bool K.joined, .bool K.instep, .int .u32 (K.acked : Int)]) := (by rw [HS.out]; exact ⟨grown_other h3 (hE.keeps bP) (by omega), grown_other h3 (hE.keeps b9) (by omega)⟩)
            first | refine ⟨fun _ => hHeld, ?_⟩ | refine ⟨hHeld, ?_⟩ | skip
            try simp only [Act.put, List.setIfInBounds_toArray, List.set_cons_zero, List.set_cons_succ, List.getElem_toArray, List.getElem_cons_zero, List.getElem_cons_succ]
            refine G_pure (i := 4) (u := ?vd4_4) rfl (by kernel_rfl) (by kernel_rfl) (by kernel_rfl) (fun _ _ _ h => h) (by decide) (Or.inl ⟨by rfl, ?hyd4_4⟩) hHeld ?_
            case hyd4_4 => (intro w hSw; go_simp; try with_reducible rfl)
            simp only [Act.put, List.setIfInBounds_toArray, List.set_cons_zero, List.set_cons_succ, List.getElem_toArray, List.getElem_cons_zero, List.getElem_cons_succ]
            refine G_all (rs := [5]) (by kernel_rfl) (by simp) ?_
            intro i hi; obtain rfl : i = 5 := by simpa using hi
            refine wpOp_run rfl (by rfl) ?_
            have bM3 := grown_other h3 (hE.keeps bM0) (by omega)
            refine wp_store_row 27 (.tmp 6) (.tmp 60) rfl (w.heap.size + 2) #[.int .u32 (N.1 : Int), .int .u32 (N.2 : Int)] (by rfl) (by rfl) 27 _ bM3 (by kernel_rfl) rfl (by kernel_rfl) ?_
            have h5 := grown_setRow (w := wd.setRow (w.heap.size + 1) #[.int .i64 K.me, .int .u32 (K.v.n : Int), .int .i64 K.v.p, .int .i64 K.v.b, .int .u32 (K.base.1 : Int), .int .u32 (K.base.2 : Int), (.slice a10 K.log.length k10), .bool K.known, .bool K.joined, .bool K.instep, .int .u32 (K.acked : Int)]) (g := w.heap.size + 2) (c := #[.int .u32 (N.1 : Int), .int .u32 (N.2 : Int)])
            have hHeld : S ((wd.setRow (w.heap.size + 1) #[.int .i64 K.me, .int .u32 (K.v.n : Int), .int .i64 K.v.p, .int .i64 K.v.b, .int .u32 (K.base.1 : Int), .int .u32 (K.base.2 : Int), (.slice a10 K.log.length k10), .bool K.known, .bool K.joined, .bool K.instep, .int .u32 (K.acked : Int)]).setRow (w.heap.size + 2) #[.int .u32 (N.1 : Int), .int .u32 (N.2 : Int)]) := (by rw [HS.out]; exact ⟨grown_other h5 (grown_other h3 (hE.keeps bP) (by omega)) (by omega), grown_other h5 (grown_other h3 (hE.keeps b9) (by omega)) (by omega)⟩)
            first | refine ⟨fun _ => hHeld, ?_⟩ | refine ⟨hHeld, ?_⟩ | skip
            try simp only [Act.put, List.setIfInBounds_toArray, List.set_cons_zero, List.set_cons_succ, List.getElem_toArray, List.getElem_cons_zero, List.getElem_cons_succ]
            refine G_all (rs := [6]) (by kernel_rfl) (by simp) ?_
            intro i hi; obtain rfl : i = 6 := by simpa using hi
            refine wpOp_run rfl (by rfl) ?_
            go_simp
            try refine ⟨fun e => absurd e (by decide), ?_⟩
            refine G_free _ _ _ _ (by kernel_rfl) ?_
            try simp only [Act.put, List.setIfInBounds_toArray, List.set_cons_zero, List.set_cons_succ, List.getElem_toArray, List.getElem_cons_zero, List.getElem_cons_succ]
            refine wpAny_done (by kernel_rfl) ?_ _
            refine NoPanic.normal ?_
            skip
            have fZ := grown_other h5 (setRow_heap wd (w.heap.size + 1) _ #[.int .i64 K.me, .int .u32 (K.v.n : Int), .int .i64 K.v.p, .int .i64 K.v.b, .int .u32 (K.base.1 : Int), .int .u32 (K.base.2 : Int), (.slice a10 K.log.length k10), .bool K.known, .bool K.joined, .bool K.instep, .int .u32 (K.acked : Int)] _ _ (hE.keeps bZ)) (by omega)
            have fM := setRow_heap _ (w.heap.size + 2) _ #[.int .u32 (N.1 : Int), .int .u32 (N.2 : Int)] _ _ bM3
            have il := ((il.ext hE).grown h3 (hE.keeps bZ) (by decide) (by decide)).grown h5 bM3 (by decide) (by decide)
            have lo := ((lo.ext hE).grownT h3 (hE.keeps bZ) (by decide) (by decide)).grownT h5 bM3 (by decide) (by decide)
            have xx := ((HX.out.trans hE).grown h3 (fun k hk => by cases hk; omega)).grown h5 (fun k hk => by cases hk; omega)
            clear h3 h5 hHeld bM3 K10 K8
            go_wp2_with fail
            have hN := HN.out
            have hO := HO.out
            have hK := HK.out
            have hkv := HKV.out
            have hlm := HLM.out
            subst hN
            subst hK
            subst hlm
            rw [hkv.2.2, show oth (keptP p ⟨nextM p, b⟩) = oth p from by unfold oth; rw [hkv.1, hkv.2.1], hkv.1] at hO
            subst hO
            exact bodyPost_ret (results_4 (p := 4) (q := 5) (r := 6) (s := 7) rfl _ _ (w.heap.size + 1) (w.heap.size + 2) _ _ _ _ _ _ _ _ (by rfl) fZ Tryd.underlying47 rfl (by kernel_rfl) (by rfl) fM Tryd.underlying27 rfl (by kernel_rfl)) rfl ⟨xx, .inr ⟨HE.out, _, ulg, _, uo, rfl, il, lo⟩⟩
end Go.Proofs.YtkcddcomjbihgaaDoor

namespace Go.Proofs.YtkcddcomjbihgaaDoor
open Go.RowKit
set_option linter.unusedVariables false
set_option linter.unusedSimpArgs false

def byRow (xs : List Value) : Prop := ∀ i, i < xs.length → ∃ z, xs[i]? = some (.int .u8 z)
theorem byRow_map (l : List UInt8) : byRow (l.map bc) := fun i hi => ⟨(l[i]'(by simpa using hi)).toNat, by
  rw [List.getElem?_map, List.getElem?_eq_getElem (by simpa using hi)]; rfl⟩
theorem byRow_set {xs : List Value} (h : byRow xs) (j : Nat) (z : Int) : byRow (xs.set j (.int .u8 z)) := fun i hi => by
  rw [List.length_set] at hi
  by_cases e : j = i
  · subst e
    exact ⟨z, by rw [List.getElem?_set_self hi]⟩
  · rw [List.getElem?_set_ne e]
    exact h i hi
/-- Nothing turned but blocks of D. -/
structure Off (D : Nat → Prop) (w w' : World) : Prop where
  os : w'.os = w.os
  tape : w'.tape = w.tape
  output : w'.output = w.output
  size : w.heap.size ≤ w'.heap.size
  block : ∀ g, g < w.heap.size → ¬ D g → w'.heap[g]? = w.heap[g]?
theorem Off.of {D : Nat → Prop} {w w' : World} (x : Ext w w') : Off D w w' := ⟨Below.os x, Below.tape x, Below.output x, x.size, fun g hg _ => x.block hg⟩
theorem Off.ext {D : Nat → Prop} {a w w' : World} (h : Off D a w) (x : Ext w w') : Off D a w' :=
  ⟨(Below.os x).trans h.os, (Below.tape x).trans h.tape, (Below.output x).trans h.output, Nat.le_trans h.size x.size, fun g hg hd => (x.block (Nat.lt_of_lt_of_le hg h.size)).trans (h.block g hg hd)⟩
theorem Off.setCell {D : Nat → Prop} {a w : World} (h : Off D a w) {g : Nat} (hd : D g) (i : Nat) (u : Value) : Off D a (w.setCell ⟨g, i, none⟩ u) :=
  ⟨h.os, h.tape, h.output, by simpa using h.size, fun k hk hn => (Below.heap_setCell _ _ _ _ (fun e => hn (by rw [e]; exact hd))).trans (h.block k hk hn)⟩
theorem Off.toExt {D : Nat → Prop} {b w w' : World} (x : Ext b w) (h : Off D w w') (hd : ∀ g, D g → b.heap.size ≤ g) : Ext b w' :=
  ⟨h.os.trans (Below.os x), h.tape.trans (Below.tape x), h.output.trans (Below.output x), Nat.le_trans x.size h.size, fun k hk => (h.block k (Nat.lt_of_lt_of_le hk x.size) (fun e => by have := hd k e; omega)).trans (x.block hk)⟩
theorem Off.keeps {D : Nat → Prop} {w w' : World} (h : Off D w w') {g : Nat} {x : Obj} (hg : w.heap[g]? = some x) (hd : ¬ D g) : w'.heap[g]? = some x := by rw [h.block g (block_lt hg) hd]; exact hg
/-- A slice of bytes in blocks of D. -/
def ByW (w : World) (D : Nat → Prop) (a : Option Addr) (n c : Nat) : Prop := ∃ xs, w.ownsRow 0 5 1 (.slice a n c) n xs ∧ byRow xs ∧ ∀ g o s, a = some ⟨g, o, s⟩ → D g
theorem ByW.of {w : World} {base : Nat} {D : Nat → Prop} {a : Option Addr} {c : Nat} {l : List UInt8} (h : OwnB w base (.slice a l.length c) l) (hd : ∀ g, base ≤ g → g < w.heap.size → D g) : ByW w D a l.length c :=
  ⟨_, ownsRow_base h (Nat.zero_le _), byRow_map l, fun g o s e => by subst e; have := h.lt g rfl; exact hd g this.1 this.2⟩
theorem ByW.ext {w w' : World} {D : Nat → Prop} {a : Option Addr} {n c : Nat} (h : ByW w D a n c) (x : Ext w w') : ByW w' D a n c := by
  obtain ⟨xs, h1, h2⟩ := h
  exact ⟨xs, ownsRow_ext h1 x, h2⟩
theorem ByW.off {w w' : World} {D E : Nat → Prop} {a : Option Addr} {n c : Nat} (h : ByW w D a n c) (x : Off E w w') (hd : ∀ g, D g → ¬ E g) : ByW w' D a n c := by
  obtain ⟨xs, ⟨hl, h1⟩, h2, h3⟩ := h
  refine ⟨xs, ⟨hl, ?_⟩, h2, h3⟩
  rcases h1 with h1 | ⟨g, cap, cur, hv, hb, hh, r⟩
  · exact .inl h1
  · simp only [Value.slice.injEq] at hv
    exact .inr ⟨g, cap, cur, by rw [hv.1, hv.2.2], hb, x.keeps hh (hd _ (h3 _ _ _ hv.1)), r⟩
theorem ByW.len {w : World} {D : Nat → Prop} {a : Option Addr} {n c : Nat} (h : ByW w D a n c) : (n : Int) ≤ 9223372036854775807 := by
  obtain ⟨xs, h1, _⟩ := h
  obtain ⟨_, ao, cap, e, h2, h3, _⟩ := IsSl.of_owns h1
  omega
theorem ByW.byte {w : World} {D : Nat → Prop} {a : Option Addr} {n c : Nat} (h : ByW w D a n c) {g : Nat} {cs : Array Value} (hg : w.heap[g]? = some (.cells cs 5 (0, 0))) (j : Nat) (z : Int) : ByW (w.setCell ⟨g, j, none⟩ (.int .u8 z)) D a n c := by
  obtain ⟨xs, ⟨hl, h2⟩, hr, hD⟩ := h
  rcases h2 with ⟨h2, rfl⟩ | ⟨g', cap, cur, hv, hb, hh, hn, hc, hs, ht⟩
  · exact ⟨xs, ⟨hl, .inl ⟨h2, rfl⟩⟩, hr, hD⟩
  · by_cases e : g' = g
    · subst e
      have h3 := block_setCell hh (i := j) (.int .u8 z)
      refine ⟨xs.set j (.int .u8 z), ⟨by rw [List.length_set]; exact hl, .inr ⟨g', cap, _, hv, hb, h3, hn, hc, by simpa using hs, ?_⟩⟩, byRow_set hr j z, hD⟩
      rw [Array.toList_setIfInBounds, ← ht, List.take_set]
    · exact ⟨xs, ⟨hl, .inr ⟨g', cap, cur, hv, hb, set_other hh e, hn, hc, hs, ht⟩⟩, hr, hD⟩
theorem ByW.other {w : World} {D : Nat → Prop} {a : Option Addr} {n c : Nat} (h : ByW w D a n c) {g : Nat} {cs : Array Value} {t : TypeId} (hg : w.heap[g]? = some (.cells cs t (0, 0))) (ht : t ≠ 5) (j : Nat) (v : Value) : ByW (w.setCell ⟨g, j, none⟩ v) D a n c := by
  obtain ⟨xs, h1, h2⟩ := h
  exact ⟨xs, ownsRow_grown h1 (grown_setCell _ _ _ _) (own_neT h1 hg ht), h2⟩
def SpLgEl (w : World) (D : Nat → Prop) (cs : Array Value) (o : Nat) : Prop := ∃ (ea : Int) (eb : Int) (u : Hd) (m : Nat), cs[o]? = some (.int .u32 ea) ∧ cs[o + 1]? = some (.int .u32 eb) ∧ cs[o + 2]? = some (.slice u.1 m u.2) ∧ ByW w D u.1 m u.2
/-- A row of api.Logged in memory from a block on, the bytes of each too. -/
structure SpLg (w : World) (D : Nat → Prop) (a : Option Addr) (n c : Nat) : Prop where
  le : n ≤ c ∧ c ≤ 9223372036854775807
  row : 0 < n → ∃ g off cs, a = some ⟨g, off, none⟩ ∧ D g ∧ w.heap[g]? = some (.cells cs 108 (0, 0)) ∧ ∀ i, i < n → SpLgEl w D cs (off + i * 3)
theorem SpLg.ext {w w' : World} {D : Nat → Prop} {a : Option Addr} {n c : Nat} (h : SpLg w D a n c) (x : Ext w w') : SpLg w' D a n c := by
  refine ⟨h.le, fun hn => ?_⟩
  obtain ⟨g, off, cs, e, hb, hg, hel⟩ := h.row hn
  refine ⟨g, off, cs, e, hb, x.keeps hg, fun i hi => ?_⟩
  obtain ⟨ea, eb, u, m, d0, d1, d2, by_⟩ := hel i hi
  exact ⟨ea, eb, u, m, d0, d1, d2, by_.ext x⟩
theorem SpLg.off {w w' : World} {D E : Nat → Prop} {a : Option Addr} {n c : Nat} (h : SpLg w D a n c) (x : Off E w w') (hd : ∀ g, D g → ¬ E g) : SpLg w' D a n c := by
  refine ⟨h.le, fun hn => ?_⟩
  obtain ⟨g, off, cs, e, hb, hg, hel⟩ := h.row hn
  refine ⟨g, off, cs, e, hb, x.keeps hg (hd _ hb), fun i hi => ?_⟩
  obtain ⟨ea, eb, u, m, d0, d1, d2, by_⟩ := hel i hi
  exact ⟨ea, eb, u, m, d0, d1, d2, by_.off x hd⟩
theorem SpLg.byte {w : World} {D : Nat → Prop} {a : Option Addr} {n c : Nat} (h : SpLg w D a n c) {g : Nat} {cs : Array Value} (hg : w.heap[g]? = some (.cells cs 5 (0, 0))) (j : Nat) (z : Int) : SpLg (w.setCell ⟨g, j, none⟩ (.int .u8 z)) D a n c := by
  refine ⟨h.le, fun hn => ?_⟩
  obtain ⟨g2, off, cs2, e, hb, hg2, hel⟩ := h.row hn
  have hne : g2 ≠ g := fun q => by rw [q, hg] at hg2; simp at hg2
  refine ⟨g2, off, cs2, e, hb, set_other hg2 hne, fun i hi => ?_⟩
  obtain ⟨ea, eb, u, m, d0, d1, d2, by_⟩ := hel i hi
  exact ⟨ea, eb, u, m, d0, d1, d2, by_.byte hg j z⟩
def SpLtEl (w : World) (D : Nat → Prop) (cs : Array Value) (o : Nat) : Prop := ∃ (ea : Int) (u : Hd) (m : Nat), cs[o]? = some (.int .i64 ea) ∧ cs[o + 1]? = some (.slice u.1 m u.2) ∧ ByW w D u.1 m u.2
/-- A row of api.Letter in memory from a block on, the bytes of each too. -/
structure SpLt (w : World) (D : Nat → Prop) (a : Option Addr) (n c : Nat) : Prop where
  le : n ≤ c ∧ c ≤ 9223372036854775807
  row : 0 < n → ∃ g off cs, a = some ⟨g, off, none⟩ ∧ D g ∧ w.heap[g]? = some (.cells cs 88 (0, 0)) ∧ ∀ i, i < n → SpLtEl w D cs (off + i * 2)
theorem SpLt.ext {w w' : World} {D : Nat → Prop} {a : Option Addr} {n c : Nat} (h : SpLt w D a n c) (x : Ext w w') : SpLt w' D a n c := by
  refine ⟨h.le, fun hn => ?_⟩
  obtain ⟨g, off, cs, e, hb, hg, hel⟩ := h.row hn
  refine ⟨g, off, cs, e, hb, x.keeps hg, fun i hi => ?_⟩
  obtain ⟨ea, u, m, d0, d1, by_⟩ := hel i hi
  exact ⟨ea, u, m, d0, d1, by_.ext x⟩
theorem SpLt.off {w w' : World} {D E : Nat → Prop} {a : Option Addr} {n c : Nat} (h : SpLt w D a n c) (x : Off E w w') (hd : ∀ g, D g → ¬ E g) : SpLt w' D a n c := by
  refine ⟨h.le, fun hn => ?_⟩
  obtain ⟨g, off, cs, e, hb, hg, hel⟩ := h.row hn
  refine ⟨g, off, cs, e, hb, x.keeps hg (hd _ hb), fun i hi => ?_⟩
  obtain ⟨ea, u, m, d0, d1, by_⟩ := hel i hi
  exact ⟨ea, u, m, d0, d1, by_.off x hd⟩
theorem SpLt.byte {w : World} {D : Nat → Prop} {a : Option Addr} {n c : Nat} (h : SpLt w D a n c) {g : Nat} {cs : Array Value} (hg : w.heap[g]? = some (.cells cs 5 (0, 0))) (j : Nat) (z : Int) : SpLt (w.setCell ⟨g, j, none⟩ (.int .u8 z)) D a n c := by
  refine ⟨h.le, fun hn => ?_⟩
  obtain ⟨g2, off, cs2, e, hb, hg2, hel⟩ := h.row hn
  have hne : g2 ≠ g := fun q => by rw [q, hg] at hg2; simp at hg2
  refine ⟨g2, off, cs2, e, hb, set_other hg2 hne, fun i hi => ?_⟩
  obtain ⟨ea, u, m, d0, d1, by_⟩ := hel i hi
  exact ⟨ea, u, m, d0, d1, by_.byte hg j z⟩
theorem ltCs_len : ∀ (l : List LtE) (us : List Hd), us.length = l.length → (ltCs l us).length = l.length * 2
  | [], [], _ => rfl
  | e :: l, u :: us, h => by
    rw [ltCs, List.length_append, ltCs_len l us (by simpa using h), List.length_cons]
    simp [ltV]
    omega
theorem ltCs_get : ∀ (l : List LtE) (us : List Hd) (i : Nat) (hi : i < l.length) (hu : i < us.length), (ltCs l us)[i * 2]? = some (.int .i64 l[i].who) ∧ (ltCs l us)[i * 2 + 1]? = some (.slice us[i].1 l[i].b.length us[i].2)
  | e :: l, u :: us, 0, _, _ => by simp [ltCs, ltV]
  | e :: l, u :: us, i + 1, hi, hu => by
    have h := ltCs_get l us i (by simpa using hi) (by simpa using hu)
    rw [show (i + 1) * 2 = i * 2 + 2 from by omega]
    simpa [ltCs, ltV] using h
theorem SpLg.mark {w : World} {D : Nat → Prop} {g off n c : Nat} {cs : Array Value} (h : SpLg w D (some ⟨g, off, none⟩) n c) (hg : w.heap[g]? = some (.cells cs 108 (0, 0))) (k : Nat) (hk : k < n) (z : Int) : SpLg (w.setCell ⟨g, off + k * 3 + 1, none⟩ (.int .u32 z)) D (some ⟨g, off, none⟩) n c := by
  refine ⟨h.le, fun hn => ?_⟩
  obtain ⟨g2, off2, cs2, e, hb, hg2, hel⟩ := h.row hn
  simp only [Option.some.injEq, Addr.mk.injEq, and_true] at e
  obtain ⟨rfl, rfl⟩ := e
  rw [hg] at hg2
  simp only [Option.some.injEq, Obj.cells.injEq, and_true, true_and] at hg2
  subst hg2
  refine ⟨g, off, _, rfl, hb, block_setCell hg (i := off + k * 3 + 1) (.int .u32 z), fun i hi => ?_⟩
  obtain ⟨ea, eb, u, m, d0, d1, d2, by_⟩ := hel i hi
  have hsz : off + i * 3 + 2 < cs.size := (Array.getElem?_eq_some_iff.1 d2).1
  by_cases hik : i = k
  · subst hik
    exact ⟨ea, z, u, m, by rw [Array.getElem?_setIfInBounds_ne (by omega)]; exact d0, by rw [Array.getElem?_setIfInBounds_self_of_lt (by omega)], by rw [Array.getElem?_setIfInBounds_ne (by omega)]; exact d2, by_.other hg (by decide) _ _⟩
  · exact ⟨ea, eb, u, m, by rw [Array.getElem?_setIfInBounds_ne (by omega)]; exact d0, by rw [Array.getElem?_setIfInBounds_ne (by omega)]; exact d1, by rw [Array.getElem?_setIfInBounds_ne (by omega)]; exact d2, by_.other hg (by decide) _ _⟩
theorem SpLt.mark {w : World} {D : Nat → Prop} {g i n c : Nat} {a : Option Addr} {cs : Array Value} (h : SpLt w D a n c) (hg : w.heap[g]? = some (.cells cs 108 (0, 0))) (v : Value) : SpLt (w.setCell ⟨g, i, none⟩ v) D a n c := by
  refine ⟨h.le, fun hn => ?_⟩
  obtain ⟨g2, off, cs2, e, hb, hg2, hel⟩ := h.row hn
  have hne : g2 ≠ g := fun q => by rw [q, hg] at hg2; simp at hg2
  refine ⟨g2, off, cs2, e, hb, set_other hg2 hne, fun j hj => ?_⟩
  obtain ⟨ea, u, m, d0, d1, by_⟩ := hel j hj
  exact ⟨ea, u, m, d0, d1, by_.other hg (by decide) _ _⟩
theorem SpLg.of {w : World} {base : Nat} {D : Nat → Prop} {a : Option Addr} {c : Nat} {l : List LgE} {us : List Hd} (h : LgFr w base (.slice a l.length c) l us) (hd : ∀ g, base ≤ g → g < w.heap.size → D g) : SpLg w D a l.length c := by
  obtain ⟨ao, cap, e, h1, h2, h3, h4⟩ := h.u.opened
  simp only [Value.slice.injEq, true_and] at e
  obtain ⟨rfl, rfl⟩ := e
  refine ⟨⟨h1, h2⟩, fun hn => ?_⟩
  have hlen := h.len
  obtain ⟨b, off, e0, -⟩ := h4 0 hn (by omega)
  subst e0
  obtain ⟨hb, cs, hg⟩ := h.ge _ _ _ _ _ rfl
  refine ⟨b, off, cs, rfl, hd b hb (block_lt hg), hg, fun i hi => ?_⟩
  obtain ⟨b1, off1, e1, c0, c1, c2⟩ := h4 i hi (by omega)
  simp only [Option.some.injEq, Addr.mk.injEq, and_true] at e1
  obtain ⟨rfl, rfl⟩ := e1
  rw [block_cell hg] at c0 c1 c2
  exact ⟨_, _, us[i], _, c0, c1, c2, ByW.of (h.bs i hi _ (List.getElem?_eq_getElem _)) hd⟩
theorem SpLt.of {w : World} {base : Nat} {D : Nat → Prop} {a : Option Addr} {c : Nat} {l : List LtE} {us : List Hd} (h : LtOwn w base (.slice a l.length c) l us) (hd : ∀ g, base ≤ g → g < w.heap.size → D g) : SpLt w D a l.length c := by
  obtain ⟨_, ao, cap, e, h1, h2, h3, h4⟩ := IsSl.of_owns h.own
  simp only [Value.slice.injEq, true_and] at e
  obtain ⟨rfl, rfl⟩ := e
  refine ⟨⟨h1, h2⟩, fun hn => ?_⟩
  have hlen := h.len
  obtain ⟨g, cap2, e0, hb, hgl⟩ := own_row h.own hn
  simp only [Value.slice.injEq, true_and] at e0
  obtain ⟨rfl, rfl⟩ := e0
  obtain ⟨cs, hg⟩ := own_block h.own rfl
  refine ⟨g, 0, cs, rfl, hd g hb hgl, hg, fun i hi => ?_⟩
  obtain ⟨g0, g1⟩ := ltCs_get l us i hi (by omega)
  have hL := ltCs_len l us hlen
  have c0 := h.own.cellAt (i * 2) (by omega)
  have c1 := h.own.cellAt (i * 2 + 1) (by omega)
  rw [block_cell hg, g0] at c0
  rw [block_cell hg, g1] at c1
  exact ⟨_, us[i], _, by rw [Nat.zero_add]; exact c0, by rw [Nat.zero_add]; exact c1, ByW.of (h.bs i hi _ (List.getElem?_eq_getElem _)) hd⟩
def SpoilPost (w : World) (D : Nat → Prop) (e : Ending) (w' : World) : Prop := (∃ v, e = .returned v) ∧ Off D w w'
set_option maxHeartbeats 4000000 in
set_option maxRecDepth 100000 in
theorem lawSpoil (w : World) (D : Nat → Prop) (p : Pr) (al at_ : Option Addr) (n cl m ct : Nat) (hl : SpLg w D al n cl) (ht : SpLt w D at_ m ct) :
    Calls Tryd.prog 34 #[.agg #[.int .i64 p.me, .int .u32 (p.v.n : Int), .int .i64 p.v.p, .int .i64 p.v.b, .int .u32 (p.base.1 : Int), .int .u32 (p.base.2 : Int), .slice al n cl, .bool p.known, .bool p.joined, .bool p.instep, .int .u32 (p.acked : Int)], .slice at_ m ct, .slice none 0 0] w (SpoilPost w D) := by
  have hle := hl.le
  have hle2 := ht.le
  have hn : (n : Int) ≤ 9223372036854775807 := by omega
  have hm : (m : Int) ≤ 9223372036854775807 := by omega
  go_enter Tryd.func34, Tryd.ntmps34
  go_upto_region 1 with fail
  refine wp_forget (fun W => Ext w W ∧ W.heap[w.heap.size]? = some (.cells #[.int .i64 p.me, .int .u32 (p.v.n : Int), .int .i64 p.v.p, .int .i64 p.v.b, .int .u32 (p.base.1 : Int), .int .u32 (p.base.2 : Int), .slice al n cl, .bool p.known, .bool p.joined, .bool p.instep, .int .u32 (p.acked : Int)] 47 (0, 0))) ⟨(Ext.refl w).alloc _, heap_alloc_new w _⟩ ?_
  rintro W ⟨X, bP⟩
  have xb : Off D w W := Off.of X
  have hl := hl.ext X
  have ht := ht.ext X
  have cP := block_all bP
  clear X
  go_wp2_with fail
  go_loopg [7, 8, 19] n (fun g s7 s8 s19 wr => ∃ k : Nat, k ≤ n ∧ n - k ≤ g ∧ s19 = .int .i64 (k : Int) ∧ Off D w wr ∧ wr.heap[w.heap.size]? = some (.cells #[.int .i64 p.me, .int .u32 (p.v.n : Int), .int .i64 p.v.p, .int .i64 p.v.b, .int .u32 (p.base.1 : Int), .int .u32 (p.base.2 : Int), .slice al n cl, .bool p.known, .bool p.joined, .bool p.instep, .int .u32 (p.acked : Int)] 47 (0, 0)) ∧ SpLg wr D al n cl ∧ SpLt wr D at_ m ct)
  case atStart => exact ⟨0, by omega, by omega, rfl, xb, bP, hl, ht⟩
  case round =>
    clear xb bP hl ht cP
    obtain ⟨k, hk, hg, rfl, xb, bP, hl, ht⟩ := hrel
    by_cases hlt : k < n
    · skip
      obtain ⟨wL, rfl⟩ : ∃ x, x = wr := ⟨_, rfl⟩
      obtain ⟨g0, off, cs, rfl, hgb, hgh, hel⟩ := hl.row (by omega)
      obtain ⟨ea, eb, ⟨ua, uc⟩, mm, d0, d1, d2, hby⟩ := hel k hlt
      have hcap := hl.le
      have e0 := (block_cell hgh (off + k * 3)).trans d0
      have e1 := (block_cell hgh (off + k * 3 + 1)).trans d1
      have e2 := (block_cell hgh (off + k * 3 + 2)).trans d2
      have HEL := Lib.hid hel
      have HLG := Lib.hid hl
      have HLT := Lib.hid ht
      have HBY := Lib.hid hby
      have cP := block_all bP
      have hkm : (k : Int) < (n : Int) := by omega
      clear hel hl ht hby d0 d1 d2
      go_upto_region 4 with (((with_reducible refine at_store 108 (.tmp 7) (.tmp 22) ?_); go_must (refine wpl_store rfl 108 (.tmp 7) (.tmp 22) rfl wL.heap.size #[.int .u32 ea, .int .u32 eb, .slice ua mm uc] (by rfl) (by rfl) 108 _ (heap_alloc_new wL _) (by kernel_rfl) rfl (by simp [Value.oneCell']) ?_)))
      refine wp_forget (fun W => Ext wL W ∧ W.heap[wL.heap.size]? = some (.cells #[.int .u32 ea, .int .u32 eb, .slice ua mm uc] 108 (0, 0))) ⟨ext_new _ _ _, new_row _ _ _ _⟩ ?_
      rintro W2 ⟨y, bE⟩
      have xb := xb.ext y
      have bP := y.keeps bP
      have hl := HLG.out.ext y
      have ht := HLT.out.ext y
      have hby := HBY.out.ext y
      have hE0 : w.heap.size < wL.heap.size := block_lt ‹wL.heap[w.heap.size]? = _›
      clear cP HLG HLT HBY HEL hgh y e0 e1 e2
      obtain ⟨BE, hBE⟩ : ∃ B, wL.heap.size = B := ⟨_, rfl⟩
      rw [hBE] at bE hE0 ⊢
      clear hBE
      have cE := block_all bE
      have hml := hby.len
      go_wp2_with fail
      go_loopg [8, 26] mm (fun g s8 s26 wr => ∃ j : Nat, j ≤ mm ∧ mm - j ≤ g ∧ s26 = .int .i64 (j : Int) ∧ wr.heap[BE]? = some (.cells #[.int .u32 ea, .int .u32 eb, .slice ua mm uc] 108 (0, 0)) ∧ ByW wr D ua mm uc ∧ Off D w wr ∧ wr.heap[w.heap.size]? = some (.cells #[.int .i64 p.me, .int .u32 (p.v.n : Int), .int .i64 p.v.p, .int .i64 p.v.b, .int .u32 (p.base.1 : Int), .int .u32 (p.base.2 : Int), .slice (some ⟨g0, off, none⟩) n cl, .bool p.known, .bool p.joined, .bool p.instep, .int .u32 (p.acked : Int)] 47 (0, 0)) ∧ SpLg wr D (some ⟨g0, off, none⟩) n cl ∧ SpLt wr D at_ m ct)
      case atStart => exact ⟨0, by omega, by omega, rfl, bE, hby, xb, bP, hl, ht⟩
      case round =>
        clear bE hby xb bP hl ht cE
        obtain ⟨j, hj, hgj, rfl, bE, hby, xb, bP, hl, ht⟩ := hrel
        by_cases hjl : j < mm
        · obtain ⟨xs, own, hrow, hD⟩ := hby
          obtain ⟨gq, cq, e, hgb2, hgl⟩ := own_row own (by omega)
          simp only [Value.slice.injEq, true_and] at e
          obtain ⟨rfl, rfl⟩ := e
          obtain ⟨cq0, hgq⟩ := own_block own rfl
          have hxl : xs.length = mm := by have := own.1; omega
          obtain ⟨z, hz⟩ := hrow j (by omega)
          have hc := own.cellAt j (by omega)
          rw [hz] at hc
          have hf := own.frozenAt j
          have cE := block_all bE
          have hjm : (j : Int) < (mm : Int) := by omega
          have HXL := Lib.hid hxl
          have HZ := Lib.hid hz
          have HLG := Lib.hid hl
          have HLT := Lib.hid ht
          have HGQ := Lib.hid hgq
          clear hxl hz hl ht hgq
          go_wp2_with fail
          go_roundg (mm - (j + 1))
          case measure => omega
          case rel =>
            have nE : BE ≠ gq := fun q => by have h1 := HGQ.out; rw [← q, bE] at h1; simp at h1
            have nP : w.heap.size ≠ gq := fun q => by have h1 := HGQ.out; rw [← q, bP] at h1; simp at h1
            exact ⟨j + 1, by omega, by omega, by go_num, set_other bE nE, ByW.byte ⟨xs, own, hrow, hD⟩ HGQ.out j _, xb.setCell (hD _ _ _ rfl) _ _, set_other bP nP, HLG.out.byte HGQ.out j _, HLT.out.byte HGQ.out j _⟩
        · obtain rfl : j = mm := by omega
          have cE := block_all bE
          have HLG := Lib.hid hl
          have HLT := Lib.hid ht
          have HBY := Lib.hid hby
          clear hl ht hby
          go_wp2_with fail
          go_roundg (n - (k + 1))
          case measure => omega
          case rel => exact ⟨k + 1, by omega, by omega, by go_num, xb, bP, HLG.out, HLT.out⟩
    · obtain rfl : k = n := by omega
      have cP := block_all bP
      have HLG := Lib.hid hl
      have HLT := Lib.hid ht
      clear hl ht
      go_wp2_with fail
      go_loopg [9, 41] k (fun g s9 s41 wr => ∃ i : Nat, i ≤ k ∧ k - i ≤ g ∧ s41 = .int .i64 (i : Int) ∧ Off D w wr ∧ wr.heap[w.heap.size]? = some (.cells #[.int .i64 p.me, .int .u32 (p.v.n : Int), .int .i64 p.v.p, .int .i64 p.v.b, .int .u32 (p.base.1 : Int), .int .u32 (p.base.2 : Int), .slice al k cl, .bool p.known, .bool p.joined, .bool p.instep, .int .u32 (p.acked : Int)] 47 (0, 0)) ∧ SpLg wr D al k cl ∧ SpLt wr D at_ m ct)
      case atStart => exact ⟨0, by omega, by omega, rfl, xb, bP, HLG.out, HLT.out⟩
      case round =>
        clear xb bP HLG HLT cP
        obtain ⟨i, hi, hgi, rfl, xb, bP, hl, ht⟩ := hrel
        have cP := block_all bP
        by_cases hlt : i < k
        · obtain ⟨g0, off, cs, rfl, hgb, hgh, hel⟩ := hl.row (by omega)
          obtain ⟨ea, eb, u, mm, d0, d1, d2, hby⟩ := hel i hlt
          have e1 := (block_cell hgh (off + i * 3 + 1)).trans d1
          have f1 := block_free hgh (off + i * 3 + 1)
          have hik : (i : Int) < (k : Int) := by omega
          have HLG := Lib.hid hl
          have HLT := Lib.hid ht
          have HGH := Lib.hid hgh
          clear hl ht hel hgh hby d0 d1 d2
          go_wp2_with fail
          go_roundg (k - (i + 1))
          case measure => omega
          case rel =>
            have nP : w.heap.size ≠ g0 := fun q => by have h1 := HGH.out; rw [← q, bP] at h1; simp at h1
            exact ⟨i + 1, by omega, by omega, by go_num, xb.setCell hgb _ _, set_other bP nP, HLG.out.mark HGH.out i hlt 99, HLT.out.mark HGH.out _⟩
        · obtain rfl : i = k := by omega
          have HLG := Lib.hid hl
          have HLT := Lib.hid ht
          clear hl ht
          go_wp2_with fail
          go_loopg [11, 12, 53] m (fun g s11 s12 s53 wr => ∃ k : Nat, k ≤ m ∧ m - k ≤ g ∧ s53 = .int .i64 (k : Int) ∧ Off D w wr ∧ wr.heap[w.heap.size]? = some (.cells #[.int .i64 p.me, .int .u32 (p.v.n : Int), .int .i64 p.v.p, .int .i64 p.v.b, .int .u32 (p.base.1 : Int), .int .u32 (p.base.2 : Int), .slice al i cl, .bool p.known, .bool p.joined, .bool p.instep, .int .u32 (p.acked : Int)] 47 (0, 0)) ∧ SpLg wr D al i cl ∧ SpLt wr D at_ m ct)
          case atStart => exact ⟨0, by omega, by omega, rfl, xb, bP, HLG.out, HLT.out⟩
          case round =>
            clear xb bP HLG HLT cP
            obtain ⟨k, hk, hg, rfl, xb, bP, hl, ht⟩ := hrel
            by_cases hlt : k < m
            · skip
              obtain ⟨wL, rfl⟩ : ∃ x, x = wr := ⟨_, rfl⟩
              obtain ⟨g0, off, cs, rfl, hgb, hgh, hel⟩ := ht.row (by omega)
              obtain ⟨ea, ⟨ua, uc⟩, mm, d0, d1, hby⟩ := hel k hlt
              have hcap := ht.le
              have e0 := (block_cell hgh (off + k * 2)).trans d0
              have e1 := (block_cell hgh (off + k * 2 + 1)).trans d1
              have HEL := Lib.hid hel
              have HLG := Lib.hid hl
              have HLT := Lib.hid ht
              have HBY := Lib.hid hby
              have cP := block_all bP
              have hkm : (k : Int) < (m : Int) := by omega
              clear hel hl ht hby d0 d1
              go_upto_region 18 with (((with_reducible refine at_store 88 (.tmp 11) (.tmp 56) ?_); go_must (refine wpl_store rfl 88 (.tmp 11) (.tmp 56) rfl wL.heap.size #[.int .i64 ea, .slice ua mm uc] (by rfl) (by rfl) 88 _ (heap_alloc_new wL _) (by kernel_rfl) rfl (by simp [Value.oneCell']) ?_)))
              refine wp_forget (fun W => Ext wL W ∧ W.heap[wL.heap.size]? = some (.cells #[.int .i64 ea, .slice ua mm uc] 88 (0, 0))) ⟨ext_new _ _ _, new_row _ _ _ _⟩ ?_
              rintro W2 ⟨y, bE⟩
              have xb := xb.ext y
              have bP := y.keeps bP
              have hl := HLG.out.ext y
              have ht := HLT.out.ext y
              have hby := HBY.out.ext y
              have hE0 : w.heap.size < wL.heap.size := block_lt ‹wL.heap[w.heap.size]? = _›
              clear cP HLG HLT HBY HEL hgh y e0 e1
              obtain ⟨BE, hBE⟩ : ∃ B, wL.heap.size = B := ⟨_, rfl⟩
              rw [hBE] at bE hE0 ⊢
              clear hBE
              have cE := block_all bE
              have hml := hby.len
              go_wp2_with fail
              go_loopg [12, 60] mm (fun g s12 s60 wr => ∃ j : Nat, j ≤ mm ∧ mm - j ≤ g ∧ s60 = .int .i64 (j : Int) ∧ wr.heap[BE]? = some (.cells #[.int .i64 ea, .slice ua mm uc] 88 (0, 0)) ∧ ByW wr D ua mm uc ∧ Off D w wr ∧ wr.heap[w.heap.size]? = some (.cells #[.int .i64 p.me, .int .u32 (p.v.n : Int), .int .i64 p.v.p, .int .i64 p.v.b, .int .u32 (p.base.1 : Int), .int .u32 (p.base.2 : Int), .slice al i cl, .bool p.known, .bool p.joined, .bool p.instep, .int .u32 (p.acked : Int)] 47 (0, 0)) ∧ SpLg wr D al i cl ∧ SpLt wr D (some ⟨g0, off, none⟩) m ct)
              case atStart => exact ⟨0, by omega, by omega, rfl, bE, hby, xb, bP, hl, ht⟩
              case round =>
                clear bE hby xb bP hl ht cE
                obtain ⟨j, hj, hgj, rfl, bE, hby, xb, bP, hl, ht⟩ := hrel
                by_cases hjl : j < mm
                · obtain ⟨xs, own, hrow, hD⟩ := hby
                  obtain ⟨gq, cq, e, hgb2, hgl⟩ := own_row own (by omega)
                  simp only [Value.slice.injEq, true_and] at e
                  obtain ⟨rfl, rfl⟩ := e
                  obtain ⟨cq0, hgq⟩ := own_block own rfl
                  have hxl : xs.length = mm := by have := own.1; omega
                  obtain ⟨z, hz⟩ := hrow j (by omega)
                  have hc := own.cellAt j (by omega)
                  rw [hz] at hc
                  have hf := own.frozenAt j
                  have cE := block_all bE
                  have hjm : (j : Int) < (mm : Int) := by omega
                  have HXL := Lib.hid hxl
                  have HZ := Lib.hid hz
                  have HLG := Lib.hid hl
                  have HLT := Lib.hid ht
                  have HGQ := Lib.hid hgq
                  clear hxl hz hl ht hgq
                  go_wp2_with fail
                  go_roundg (mm - (j + 1))
                  case measure => omega
                  case rel =>
                    have nE : BE ≠ gq := fun q => by have h1 := HGQ.out; rw [← q, bE] at h1; simp at h1
                    have nP : w.heap.size ≠ gq := fun q => by have h1 := HGQ.out; rw [← q, bP] at h1; simp at h1
                    exact ⟨j + 1, by omega, by omega, by go_num, set_other bE nE, ByW.byte ⟨xs, own, hrow, hD⟩ HGQ.out j _, xb.setCell (hD _ _ _ rfl) _ _, set_other bP nP, HLG.out.byte HGQ.out j _, HLT.out.byte HGQ.out j _⟩
                · obtain rfl : j = mm := by omega
                  have cE := block_all bE
                  have HLG := Lib.hid hl
                  have HLT := Lib.hid ht
                  have HBY := Lib.hid hby
                  clear hl ht hby
                  go_wp2_with fail
                  go_roundg (m - (k + 1))
                  case measure => omega
                  case rel => exact ⟨k + 1, by omega, by omega, by go_num, xb, bP, HLG.out, HLT.out⟩
            · obtain rfl : k = m := by omega
              go_wp2_with fail
              go_loopg [14, 15, 74] 0 (fun g s14 s15 s74 wr => s74 = .int .i64 0 ∧ Off D w wr)
              case atStart => exact ⟨rfl, xb⟩
              case round =>
                obtain ⟨rfl, xb⟩ := hrel
                go_wp2_with fail
                go_end0
                exact ⟨⟨_, rfl⟩, xb⟩
end Go.Proofs.YtkcddcomjbihgaaDoor

namespace Go.Proofs.YtkcddcomjbihgaaDoor
open Go.RowKit
set_option linter.unusedVariables false
set_option linter.unusedSimpArgs false

/-- A row of letters to be read. -/
def LtAt (w : World) (v : Value) (l : List LtE) : Prop := ∃ ao c, v = .slice ao l.length c ∧ l.length ≤ c ∧ c ≤ 9223372036854775807 ∧ ∀ i (hi : i < l.length), ∃ (g off : Nat) (u : Hd), ao = some ⟨g, off, none⟩ ∧ w.cell? ⟨g, off + i * 2, none⟩ = some (.int .i64 l[i].who) ∧ w.cell? ⟨g, off + i * 2 + 1, none⟩ = some (.slice u.1 l[i].b.length u.2) ∧ IsB w (.slice u.1 l[i].b.length u.2) l[i].b
theorem LtOwn.at {w : World} {base : Nat} {v : Value} {l : List LtE} {us : List Hd} (h : LtOwn w base v l us) : LtAt w v l := by
  obtain ⟨_, ao, cap, e, h1, h2, h3, h4⟩ := IsSl.of_owns h.own
  subst e
  refine ⟨ao, cap, rfl, h1, h2, fun i hi => ?_⟩
  have hlen := h.len
  obtain ⟨g, cap2, e0, hb, hgl⟩ := own_row h.own (by omega)
  simp only [Value.slice.injEq, true_and] at e0
  obtain ⟨rfl, rfl⟩ := e0
  obtain ⟨g0, g1⟩ := ltCs_get l us i hi (by omega)
  have hL := ltCs_len l us hlen
  have c0 := h.own.cellAt (i * 2) (by omega)
  have c1 := h.own.cellAt (i * 2 + 1) (by omega)
  rw [g0] at c0
  rw [g1] at c1
  exact ⟨g, 0, us[i], rfl, by rw [Nat.zero_add]; exact c0, by rw [Nat.zero_add]; exact c1, IsB.of_owns (h.bs i hi _ (List.getElem?_eq_getElem _))⟩
set_option maxHeartbeats 4000000 in
set_option maxRecDepth 100000 in
theorem lawSameLetters (w : World) (va vb : Value) (l : List LtE) (ha : LtAt w va l) (hb : LtAt w vb l) :
    Calls Tryd.prog 28 #[va, vb] w fun e w' => e = .returned (.bool true) ∧ Ext w w' := by
  obtain ⟨aa, ca, rfl, a1, a2, ga⟩ := ha
  obtain ⟨ab, cb, rfl, b1, b2, gb⟩ := hb
  have GA := Lib.hid ga
  have GB := Lib.hid gb
  have hl' : (l.length : Int) ≤ 9223372036854775807 := by omega
  clear ga gb
  go_enter Tryd.func28, Tryd.ntmps28
  go_wp2_with fail
  go_loopg [5, 13] l.length (fun g s5 s13 wr => ∃ k : Nat, k ≤ l.length ∧ l.length - k ≤ g ∧ s13 = .int .i64 (k : Int) ∧ Ext w wr)
  case atStart => exact ⟨0, by omega, by omega, rfl, Ext.refl _⟩
  case round =>
    obtain ⟨k, hk, hg, rfl, xr⟩ := hrel
    by_cases hlt : k < l.length
    · obtain ⟨pa, oa, ⟨ua, uc⟩, rfl, e0, e1, eb⟩ := GA.out k hlt
      obtain ⟨pb, ob, ⟨va, vc⟩, rfl, f0, f1, fb⟩ := GB.out k hlt
      have e0 := xr.cell e0
      have e1 := xr.cell e1
      have eb := eb.ext xr
      have f0 := xr.cell f0
      have f1 := xr.cell f1
      have fb := fb.ext xr
      obtain ⟨x, hx⟩ : ∃ x, l[k] = x := ⟨_, rfl⟩
      rw [hx] at e0 e1 eb f0 f1 fb
      have hkl : (k : Int) < (l.length : Int) := by omega
      have E0 := fun v (h : Ext wr v) => h.cell e0
      have E1 := fun v (h : Ext wr v) => h.cell e1
      have F0 := fun v (h : Ext wr v) => h.cell f0
      have F1 := fun v (h : Ext wr v) => h.cell f1
      clear hx e0 e1 f0 f1
      go_upto_region 6 with fail
      refine wp_region_S (fun v => Ext wr v) (by kernel_rfl) (fun w' h => h) fun wd hqd xd hHeld => ?_
      refine wpAnyH_take (i := 0) (v := ?va0) rfl (by kernel_rfl) (by kernel_rfl) (by kernel_rfl) (fun _ _ _ h => h) (Or.inl ⟨by rfl, ?hya0⟩) hHeld ?_
      case hya0 => (intro w hSw; go_simp; try with_reducible rfl)
      simp only [Act.put, List.setIfInBounds_toArray, List.set_cons_zero, List.set_cons_succ, List.getElem_toArray, List.getElem_cons_zero, List.getElem_cons_succ]
      refine wpAnyH_take (i := 1) (v := ?va1) rfl (by kernel_rfl) (by kernel_rfl) (by kernel_rfl) (fun _ _ _ h => h) (Or.inl ⟨by rfl, ?hya1⟩) hHeld ?_
      case hya1 => (intro w hSw; go_simp; try with_reducible rfl)
      simp only [Act.put, List.setIfInBounds_toArray, List.set_cons_zero, List.set_cons_succ, List.getElem_toArray, List.getElem_cons_zero, List.getElem_cons_succ]
      refine wpAnyH_take (i := 2) (v := ?va2) rfl (by kernel_rfl) (by kernel_rfl) (by kernel_rfl) (fun _ _ _ h => h) (Or.inl ⟨by rfl, ?hya2⟩) hHeld ?_
      case hya2 => (intro w hSw; go_simp; try with_reducible rfl)
      simp only [Act.put, List.setIfInBounds_toArray, List.set_cons_zero, List.set_cons_succ, List.getElem_toArray, List.getElem_cons_zero, List.getElem_cons_succ]
      refine wpAnyH_take (i := 3) (v := ?va3) rfl (by kernel_rfl) (by kernel_rfl) (by kernel_rfl) (fun _ _ _ h => h) (Or.inl ⟨by rfl, ?hya3⟩) hHeld ?_
      case hya3 => (intro w hSw; go_simp; try with_reducible rfl)
      simp only [Act.put, List.setIfInBounds_toArray, List.set_cons_zero, List.set_cons_succ, List.getElem_toArray, List.getElem_cons_zero, List.getElem_cons_succ]
      refine wpAnyH_take (i := 4) (v := ?va4) rfl (by kernel_rfl) (by kernel_rfl) (by kernel_rfl) (fun _ _ _ h => h) (Or.inl ⟨by rfl, ?hya4⟩) hHeld ?_
      case hya4 => (intro w hSw; have kk := E0 _ hSw; go_simp; try with_reducible rfl)
      simp only [Act.put, List.setIfInBounds_toArray, List.set_cons_zero, List.set_cons_succ, List.getElem_toArray, List.getElem_cons_zero, List.getElem_cons_succ]
      refine wpAnyH_take (i := 5) (v := ?va5) rfl (by kernel_rfl) (by kernel_rfl) (by kernel_rfl) (fun _ _ _ h => h) (Or.inl ⟨by rfl, ?hya5⟩) hHeld ?_
      case hya5 => (intro w hSw; go_simp; try with_reducible rfl)
      simp only [Act.put, List.setIfInBounds_toArray, List.set_cons_zero, List.set_cons_succ, List.getElem_toArray, List.getElem_cons_zero, List.getElem_cons_succ]
      refine wpAnyH_take (i := 6) (v := ?va6) rfl (by kernel_rfl) (by kernel_rfl) (by kernel_rfl) (fun _ _ _ h => h) (Or.inl ⟨by rfl, ?hya6⟩) hHeld ?_
      case hya6 => (intro w hSw; go_simp; try with_reducible rfl)
      simp only [Act.put, List.setIfInBounds_toArray, List.set_cons_zero, List.set_cons_succ, List.getElem_toArray, List.getElem_cons_zero, List.getElem_cons_succ]
      refine wpAnyH_take (i := 7) (v := ?va7) rfl (by kernel_rfl) (by kernel_rfl) (by kernel_rfl) (fun _ _ _ h => h) (Or.inl ⟨by rfl, ?hya7⟩) hHeld ?_
      case hya7 => (intro w hSw; go_simp; try with_reducible rfl)
      simp only [Act.put, List.setIfInBounds_toArray, List.set_cons_zero, List.set_cons_succ, List.getElem_toArray, List.getElem_cons_zero, List.getElem_cons_succ]
      refine wpAnyH_take (i := 8) (v := ?va8) rfl (by kernel_rfl) (by kernel_rfl) (by kernel_rfl) (fun _ _ _ h => h) (Or.inl ⟨by rfl, ?hya8⟩) hHeld ?_
      case hya8 => (intro w hSw; go_simp; try with_reducible rfl)
      simp only [Act.put, List.setIfInBounds_toArray, List.set_cons_zero, List.set_cons_succ, List.getElem_toArray, List.getElem_cons_zero, List.getElem_cons_succ]
      refine wpAnyH_take (i := 9) (v := ?va9) rfl (by kernel_rfl) (by kernel_rfl) (by kernel_rfl) (fun _ _ _ h => h) (Or.inl ⟨by rfl, ?hya9⟩) hHeld ?_
      case hya9 => (intro w hSw; have kk := F0 _ hSw; go_simp; try with_reducible rfl)
      simp only [Act.put, List.setIfInBounds_toArray, List.set_cons_zero, List.set_cons_succ, List.getElem_toArray, List.getElem_cons_zero, List.getElem_cons_succ]
      refine wpAnyH_take (i := 10) (v := ?va10) rfl (by kernel_rfl) (by kernel_rfl) (by kernel_rfl) (fun _ _ _ h => h) (Or.inl ⟨by rfl, ?hya10⟩) hHeld ?_
      case hya10 => (intro w hSw; go_simp; try with_reducible rfl)
      simp only [Act.put, List.setIfInBounds_toArray, List.set_cons_zero, List.set_cons_succ, List.getElem_toArray, List.getElem_cons_zero, List.getElem_cons_succ]
      refine wpAnyH_take (i := 11) (v := ?va11) rfl (by kernel_rfl) (by kernel_rfl) (by kernel_rfl) (fun _ _ _ h => h) (Or.inl ⟨by rfl, ?hya11⟩) hHeld ?_
      case hya11 => (intro w hSw; go_simp; try with_reducible rfl)
      simp only [Act.put, List.setIfInBounds_toArray, List.set_cons_zero, List.set_cons_succ, List.getElem_toArray, List.getElem_cons_zero, List.getElem_cons_succ]
      refine wpAnyH_take (i := 12) (v := ?va12) rfl (by kernel_rfl) (by kernel_rfl) (by kernel_rfl) (fun _ _ _ h => h) (Or.inl ⟨by rfl, ?hya12⟩) hHeld ?_
      case hya12 => (intro w hSw; go_simp; try with_reducible rfl)
      simp only [Act.put, List.setIfInBounds_toArray, List.set_cons_zero, List.set_cons_succ, List.getElem_toArray, List.getElem_cons_zero, List.getElem_cons_succ]
      refine wpAnyH_take (i := 13) (v := ?va13) rfl (by kernel_rfl) (by kernel_rfl) (by kernel_rfl) (fun _ _ _ h => h) (Or.inl ⟨by rfl, ?hya13⟩) hHeld ?_
      case hya13 => (intro w hSw; go_simp; try with_reducible rfl)
      simp only [Act.put, List.setIfInBounds_toArray, List.set_cons_zero, List.set_cons_succ, List.getElem_toArray, List.getElem_cons_zero, List.getElem_cons_succ]
      refine wpAnyH_take (i := 14) (v := ?va14) rfl (by kernel_rfl) (by kernel_rfl) (by kernel_rfl) (fun _ _ _ h => h) (Or.inl ⟨by rfl, ?hya14⟩) hHeld ?_
      case hya14 => (intro w hSw; go_simp; try with_reducible rfl)
      simp only [Act.put, List.setIfInBounds_toArray, List.set_cons_zero, List.set_cons_succ, List.getElem_toArray, List.getElem_cons_zero, List.getElem_cons_succ]
      refine wpAnyH_take (i := 15) (v := ?va15) rfl (by kernel_rfl) (by kernel_rfl) (by kernel_rfl) (fun _ _ _ h => h) (Or.inl ⟨by rfl, ?hya15⟩) hHeld ?_
      case hya15 => (intro w hSw; go_simp; try with_reducible rfl)
      simp only [Act.put, List.setIfInBounds_toArray, List.set_cons_zero, List.set_cons_succ, List.getElem_toArray, List.getElem_cons_zero, List.getElem_cons_succ]
      refine wpAnyH_take (i := 16) (v := ?va16) rfl (by kernel_rfl) (by kernel_rfl) (by kernel_rfl) (fun _ _ _ h => h) (Or.inl ⟨by rfl, ?hya16⟩) hHeld ?_
      case hya16 => (intro w hSw; have kk := E1 _ hSw; go_simp; try with_reducible rfl)
      simp only [Act.put, List.setIfInBounds_toArray, List.set_cons_zero, List.set_cons_succ, List.getElem_toArray, List.getElem_cons_zero, List.getElem_cons_succ]
      refine wpAnyH_take (i := 17) (v := ?va17) rfl (by kernel_rfl) (by kernel_rfl) (by kernel_rfl) (fun _ _ _ h => h) (Or.inl ⟨by rfl, ?hya17⟩) hHeld ?_
      case hya17 => (intro w hSw; go_simp; try with_reducible rfl)
      simp only [Act.put, List.setIfInBounds_toArray, List.set_cons_zero, List.set_cons_succ, List.getElem_toArray, List.getElem_cons_zero, List.getElem_cons_succ]
      refine wpAnyH_take (i := 18) (v := ?va18) rfl (by kernel_rfl) (by kernel_rfl) (by kernel_rfl) (fun _ _ _ h => h) (Or.inl ⟨by rfl, ?hya18⟩) hHeld ?_
      case hya18 => (intro w hSw; go_simp; try with_reducible rfl)
      simp only [Act.put, List.setIfInBounds_toArray, List.set_cons_zero, List.set_cons_succ, List.getElem_toArray, List.getElem_cons_zero, List.getElem_cons_succ]
      refine wpAnyH_take (i := 19) (v := ?va19) rfl (by kernel_rfl) (by kernel_rfl) (by kernel_rfl) (fun _ _ _ h => h) (Or.inl ⟨by rfl, ?hya19⟩) hHeld ?_
      case hya19 => (intro w hSw; go_simp; try with_reducible rfl)
      simp only [Act.put, List.setIfInBounds_toArray, List.set_cons_zero, List.set_cons_succ, List.getElem_toArray, List.getElem_cons_zero, List.getElem_cons_succ]
      refine wpAnyH_take (i := 20) (v := ?va20) rfl (by kernel_rfl) (by kernel_rfl) (by kernel_rfl) (fun _ _ _ h => h) (Or.inl ⟨by rfl, ?hya20⟩) hHeld ?_
      case hya20 => (intro w hSw; go_simp; try with_reducible rfl)
      simp only [Act.put, List.setIfInBounds_toArray, List.set_cons_zero, List.set_cons_succ, List.getElem_toArray, List.getElem_cons_zero, List.getElem_cons_succ]
      refine wpAnyH_take (i := 21) (v := ?va21) rfl (by kernel_rfl) (by kernel_rfl) (by kernel_rfl) (fun _ _ _ h => h) (Or.inl ⟨by rfl, ?hya21⟩) hHeld ?_
      case hya21 => (intro w hSw; have kk := F1 _ hSw; go_simp; try with_reducible rfl)
      simp only [Act.put, List.setIfInBounds_toArray, List.set_cons_zero, List.set_cons_succ, List.getElem_toArray, List.getElem_cons_zero, List.getElem_cons_succ]
      refine wpAnyH_all (rs := [22]) (by kernel_rfl) (by simp) ?_
      intro i hi; obtain rfl : i = 22 := by simpa using hi
      refine wpOp_run rfl (by rfl) ?_
      go_simp
      refine Calls.mono (bytesEqual _ _ _ x.b x.b (eb.ext hHeld) (fb.ext hHeld)) ?_
      rintro e w4 ⟨rfl, rfl⟩
      rw [show (x.b == x.b) = true from by simp]
      have hHeld := hHeld.trans (Ext.refl _)
      first | refine ⟨fun _ => hHeld, ?_⟩ | refine ⟨hHeld, ?_⟩
      try simp only [Act.put, List.setIfInBounds_toArray, List.set_cons_zero, List.set_cons_succ, List.getElem_toArray, List.getElem_cons_zero, List.getElem_cons_succ]
      refine wpAnyH_take (i := 23) (v := ?va23) rfl (by kernel_rfl) (by kernel_rfl) (by kernel_rfl) (fun _ _ _ h => h) (Or.inl ⟨by rfl, ?hya23⟩) hHeld ?_
      case hya23 => (intro w hSw; go_simp; try with_reducible rfl)
      simp only [Act.put, List.setIfInBounds_toArray, List.set_cons_zero, List.set_cons_succ, List.getElem_toArray, List.getElem_cons_zero, List.getElem_cons_succ]
      refine wpAnyH_take (i := 24) (v := ?va24) rfl (by kernel_rfl) (by kernel_rfl) (by kernel_rfl) (fun _ _ _ h => h) (Or.inl ⟨by rfl, ?hya24⟩) hHeld ?_
      case hya24 => (intro w hSw; go_simp; try with_reducible rfl)
      simp only [Act.put, List.setIfInBounds_toArray, List.set_cons_zero, List.set_cons_succ, List.getElem_toArray, List.getElem_cons_zero, List.getElem_cons_succ]
      refine wpAnyH_done (by kernel_rfl) ?_ _
      refine NoPanic.normal ?_
      have xh := xr.trans hHeld
      clear E0 E1 F0 F1
      go_wp2_with fail
      go_roundg (l.length - (k + 1))
      case measure => omega
      case rel => exact ⟨k + 1, by omega, by omega, by go_num, xh⟩
    · obtain rfl : k = l.length := by omega
      go_wp2_with fail
      go_ret
      exact ⟨rfl, xr⟩
end Go.Proofs.YtkcddcomjbihgaaDoor

namespace Go.Proofs.YtkcddcomjbihgaaDoor
open Go.RowKit
set_option linter.unusedVariables false
set_option linter.unusedSimpArgs false

def appP (p : Pr) (b : List UInt8) : Pr := if appErr p b = 0 then keptP p ⟨nextM p, b⟩ else newP 0
def appM (p : Pr) (b : List UInt8) : Mk := if appErr p b = 0 then nextM p else m0
def appL (p : Pr) (b : List UInt8) : List LtE := if appErr p b = 0 then (if p.known = true then [⟨otherI p, encN ⟨3, p.v.n, nextM p, lastM p, b⟩⟩] else []) else []
def U3 (w : World) (K : Pr) (M : Mk) (L : List LtE) (z : Int) (e : Ending) (w' : World) : Prop :=
  Ext w w' ∧ ∃ al cl ul ao co uo, e = .returned (.tuple #[.agg #[.int .i64 K.me, .int .u32 (K.v.n : Int), .int .i64 K.v.p, .int .i64 K.v.b, .int .u32 (K.base.1 : Int), .int .u32 (K.base.2 : Int), (.slice al K.log.length cl), .bool K.known, .bool K.joined, .bool K.instep, .int .u32 (K.acked : Int)], .slice ao L.length co, .agg #[.int .u32 (M.1 : Int), .int .u32 (M.2 : Int)], .int .i64 z]) ∧ LgFr w' w.heap.size (.slice al K.log.length cl) K.log ul ∧ LtOwn w' w.heap.size (.slice ao L.length co) L uo
theorem app_u {w : World} {p : Pr} {b : List UInt8} {e : Ending} {w' : World} (h : AppPost w p b e w') : U3 w (appP p b) (appM p b) (appL p b) (appErr p b) e w' := by
  obtain ⟨x, h⟩ := h
  refine ⟨x, ?_⟩
  unfold appP appM appL
  rcases h with ⟨hz, rfl⟩ | ⟨hz, vl, ul, vo, uo, rfl, hl, ho⟩
  · rw [if_neg hz, if_neg hz, if_neg hz]
    exact ⟨none, 0, [], none, 0, [], rfl, LgFr.nil w' _, LtOwn.nil _ _⟩
  · rw [if_pos hz, if_pos hz, if_pos hz, hz]
    obtain ⟨a, c, rfl⟩ := hl.shape
    obtain ⟨a2, c2, rfl⟩ := own_shape ho.own
    exact ⟨a, c, ul, a2, c2, uo, rfl, hl, ho⟩
theorem rerr_eq {p : Pr} {b : List UInt8} (hr : rightB p = true) (hm : mkOk (lastM p)) : rappErr p b = appErr p b := by
  unfold rappErr appErr
  rw [if_neg (show ¬ rightB p = false by rw [hr]; decide), prim_eq hr]
  have h2 : ((nextM p).2 = 0) ↔ ((lastM p).2 = 4294967295) := by
    show ((lastM p).2 + 1) % 4294967296 = 0 ↔ _
    have := hm.2
    constructor
    · intro h; omega
    · intro h; rw [h]
  simp only [h2]
theorem rapp_u {w : World} {p : Pr} {b : List UInt8} {e : Ending} {w' : World} (hr : rightB p = true) (hm : mkOk (lastM p)) (h : RAppPost w p b e w') : U3 w (appP p b) (appM p b) (appL p b) (appErr p b) e w' := by
  obtain ⟨x, h⟩ := h
  rw [rerr_eq hr hm] at h
  refine ⟨x, ?_⟩
  unfold appP appM appL
  rcases h with ⟨hz, rfl⟩ | ⟨hz, vl, ul, vo, uo, rfl, hl, ho⟩
  · rw [if_neg hz, if_neg hz, if_neg hz]
    exact ⟨none, 0, [], none, 0, [], rfl, LgFr.nil w' _, LtOwn.nil _ _⟩
  · rw [if_pos hz, if_pos hz, if_pos hz, hz, oth_eq hr]
    obtain ⟨a, c, rfl⟩ := hl.shape
    obtain ⟨a2, c2, rfl⟩ := own_shape ho.own
    exact ⟨a, c, ul, a2, c2, uo, rfl, hl, ho⟩
def entX (p : Pr) (v : Vw) : Pr := if entErr p v = 0 then enterP p v else newP 0
theorem enterP_log (p : Pr) (v : Vw) : (enterP p v).log = p.log := by unfold enterP; split <;> rfl
def U2 (w : World) (K : Pr) (z : Value) (e : Ending) (w' : World) : Prop :=
  Ext w w' ∧ ∃ al cl ul, e = .returned (.tuple #[.agg #[.int .i64 K.me, .int .u32 (K.v.n : Int), .int .i64 K.v.p, .int .i64 K.v.b, .int .u32 (K.base.1 : Int), .int .u32 (K.base.2 : Int), (.slice al K.log.length cl), .bool K.known, .bool K.joined, .bool K.instep, .int .u32 (K.acked : Int)], z]) ∧ LgFr w' w.heap.size (.slice al K.log.length cl) K.log ul
theorem ent_u {w : World} {p : Pr} {v : Vw} {e : Ending} {w' : World} (h : EntPost w p v e w') : U2 w (entX p v) (.int .i64 (entErr p v)) e w' := by
  obtain ⟨x, h⟩ := h
  refine ⟨x, ?_⟩
  unfold entX
  rcases h with ⟨hz, rfl⟩ | ⟨hz, vl, ul, rfl, hl⟩
  · rw [if_neg hz]
    exact ⟨none, 0, [], rfl, LgFr.nil w' _⟩
  · rw [if_pos hz, hz, enterP_log]
    obtain ⟨a, c, rfl⟩ := hl.shape
    exact ⟨a, c, ul, rfl, hl⟩
theorem ent_ok {p : Pr} {v : Vw} (hr : rightB p = true) : rentOk p v = decide (entErr p v = 0) := by
  unfold rentOk entErr
  rw [if_neg (show ¬ rightB p = false by rw [hr]; decide)]
  cases viewedB v
  · simp
  · by_cases h : v.n ≤ p.v.n
    · simp [h]
      try omega
    · simp [h]
      try omega
theorem ent_361 {p : Pr} {v : Vw} (hr : rightB p = true) (h : entErr p v ≠ 0) : entErr p v = 361 := by
  unfold entErr at h ⊢
  rw [if_neg (show ¬ rightB p = false by rw [hr]; decide)] at h ⊢
  split
  · rfl
  · rename_i h2
    rw [if_neg h2] at h
    exact absurd rfl h
theorem ent_p {p : Pr} {v : Vw} (h : entErr p v = 0) : rentP p v = enterP p v := by
  have hn : p.v.n < v.n := by
    unfold entErr at h
    split at h
    · cases h
    · split at h
      · cases h
      · rename_i h2
        simp at h2
        omega
  have hp : primB (entQ p v) = (p.me == v.p) := by
    unfold primB
    rw [show (entQ p v).v = v from rfl, show (entQ p v).me = p.me from rfl, decide_eq_true (show 0 < v.n by omega), Bool.true_and]
  unfold rentP enterP
  rw [hp]
  split
  · rename_i h2
    simp only [Bool.and_eq_true] at h2
    have : p.base = m0 := meq_iff.1 h2.2
    rw [this]
    rfl
  · rfl
theorem rent_u {w : World} {p : Pr} {v : Vw} {e : Ending} {w' : World} (hr : rightB p = true) (h : REntPost w p v e w') : U2 w (entX p v) (.bool (decide (entErr p v = 0))) e w' := by
  obtain ⟨x, h⟩ := h
  rw [ent_ok hr] at h
  refine ⟨x, ?_⟩
  unfold entX
  rcases h with ⟨hz, rfl⟩ | ⟨hz, vl, ul, rfl, hl⟩
  · have hz' := of_decide_eq_false hz
    rw [if_neg hz', hz]
    exact ⟨none, 0, [], rfl, LgFr.nil w' _⟩
  · have hz' := of_decide_eq_true hz
    rw [if_pos hz', hz, enterP_log, ent_p hz']
    obtain ⟨a, c, rfl⟩ := hl.fr.shape
    exact ⟨a, c, ul, rfl, hl.fr⟩
def U1 (w : World) (L : List LtE) (e : Ending) (w' : World) (f : Value → Value) : Prop := Ext w w' ∧ ∃ ao co uo, e = .returned (f (.slice ao L.length co)) ∧ LtOwn w' w.heap.size (.slice ao L.length co) L uo
theorem tick_u {w : World} {p : Pr} {us : List Hd} {e : Ending} {w' : World} (h : TickPost w p us e w') : U1 w (tickL p us) e w' (fun v => .tuple #[v, .int .i64 (tickErr p)]) := by
  obtain ⟨v, uo, rfl, ho, x⟩ := h
  obtain ⟨a2, c2, rfl⟩ := own_shape ho.own
  exact ⟨x, a2, c2, uo, rfl, ho⟩
theorem tick_eq {p : Pr} (hr : rightB p = true) {us : List Hd} (hu : us.length = p.log.length) : tickR p = tickL p us := by
  obtain ⟨h1, h2, h3, h4, h5, h6, h7, h8, h9⟩ := right_all hr
  unfold tickL
  rw [if_neg (show ¬ rightB p = false by rw [hr]; decide), sec_eq hr, oth_eq hr]
  by_cases hs : (p.me == p.v.b) = true
  · rw [if_pos hs]
    have hme : 1 ≤ p.me := by unfold serverB at h1; simp at h1; omega
    have hb : p.me = p.v.b := by simpa using hs
    have hv : viewedB p.v = true := by
      cases hv : viewedB p.v with
      | true => rfl
      | false =>
        rw [hv, Bool.false_or] at h2
        unfold veq v0 at h2
        simp at h2
        omega
    unfold viewedB serverB at hv
    simp at hv
    have hne : (p.me == p.v.p) = false := by
      rw [beq_eq_false_iff_ne]
      intro e
      obtain ⟨_, _, hv⟩ := hv
      rcases hv with hv | hv
      · omega
      · omega
    have ho : oth p = p.v.p := by unfold oth; rw [hne, if_neg (by decide), if_pos hs]
    unfold tickR
    rw [if_neg (by rw [ho]; simp; omega), if_pos hs]
  · rw [if_neg hs]
    unfold tickR
    cases hk : p.known with
    | false =>
      rw [if_neg (show ¬ false = true by decide)]
      split
      · rfl
      · simp
    | true =>
      obtain ⟨hp, hb⟩ := h6 hk
      have ho : oth p = p.v.b := by unfold oth; rw [if_pos hp]
      rw [if_neg (by rw [ho]; simpa using hb), if_neg hs, if_neg (by decide), if_pos rfl]
      by_cases hq : p.base.2 = p.acked
      · rw [if_pos hq, beh_eq hr hu (by omega)]
        rw [← hq, Nat.sub_self, Nat.sub_self, Nat.sub_zero]
      · rw [if_neg hq]
        by_cases hlt : p.acked < p.base.2
        · rw [tick_none fun j hj => by rw [num_log hr j hj]; omega]
          unfold behL
          rw [if_pos hlt]
        · have hl := num_last hr
          obtain ⟨i, hi⟩ : ∃ i, p.acked = p.base.2 + 1 + i := ⟨p.acked - p.base.2 - 1, by omega⟩
          have hil : i < p.log.length := by omega
          rw [tick_find hil (fun j hj hji => by rw [num_log hr j hj]; omega) (by rw [num_log hr i hil, hi]), beh_eq hr hu (by omega)]
          unfold tickFrom
          rw [show p.acked - p.base.2 = i + 1 by omega, show p.log.length - (p.log.length - 1 - i) = i + 1 by omega, show p.log.length - (i + 1) = p.log.length - 1 - i by omega]
theorem rtick_u {w : World} {p : Pr} {e : Ending} {w' : World} (hr : rightB p = true) {us : List Hd} (hu : us.length = p.log.length) (h : LtPost w (tickR p) e w') : U1 w (tickL p us) e w' (fun v => v) := by
  obtain ⟨v, uo, rfl, ho, x⟩ := h
  rw [tick_eq hr hu] at ho
  obtain ⟨a2, c2, rfl⟩ := own_shape ho.own
  exact ⟨x, a2, c2, uo, rfl, ho⟩
theorem appP_lg {p : Pr} {b : List UInt8} (hp : PrOk p) (hok : ∀ e ∈ p.log, lgOk e) (hb : b.length ≤ 50000) : ∀ e ∈ (appP p b).log, lgOk e := by
  unfold appP
  split
  · have hm : mkOk (nextM p) := ⟨hp.vn, Nat.mod_lt _ (by decide)⟩
    have h2 : ∀ e ∈ p.log ++ [(⟨nextM p, b⟩ : LgE)], lgOk e := by
      intro e he
      rcases List.mem_append.1 he with h | h
      · exact hok e h
      · simp only [List.mem_singleton] at h
        subst h
        exact ⟨hm, by show b.length ≤ _; omega⟩
    unfold keptP
    split
    · intro e he
      exact h2 e (List.mem_of_mem_tail he)
    · exact h2
  · intro e he
    cases he
theorem entX_lg {p : Pr} {v : Vw} (hok : ∀ e ∈ p.log, lgOk e) : ∀ e ∈ (entX p v).log, lgOk e := by
  unfold entX
  split
  · rw [enterP_log]
    exact hok
  · intro e he
    cases he
theorem LgFr.lg {w : World} {base : Nat} {v : Value} {l : List LgE} {us : List Hd} (h : LgFr w base v l us) (ok : ∀ e ∈ l, lgOk e) : IsLg w v l := ⟨ok, us, h.u⟩
theorem shortP_idem (p : Pr) : shortP (shortP p) = shortP p := by
  unfold shortP
  congr 1
  rw [List.take_of_length_le (by rw [List.length_map, List.length_take]; omega), List.map_map]
  apply List.map_congr_left
  intro e _
  show cutE (cutE e) = cutE e
  unfold cutE
  simp [List.take_take]
theorem shortP_bl (p : Pr) : ∀ e ∈ (shortP p).log, e.b.length ≤ 50000 := by
  intro e he
  obtain ⟨x, _, rfl⟩ := List.mem_map.1 he
  show (x.b.take 100).length ≤ _
  rw [List.length_take]
  omega
end Go.Proofs.YtkcddcomjbihgaaDoor
