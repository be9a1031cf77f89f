/- Backup: rows of notes and of bytes as arguments; Decode and the document's told alike. -/
import Derived.Test.YtkcddcomjbihgaaDoorBkZa
import Derived.Test.YtkcddcomjbihgaaDoorBkX
import Derived.Test.YtkcddcomjbihgaaDoorBkAf
import Derived.Test.YtkcddcomjbihgaaDoorBkAi
import Derived.Deep.CutBlock
namespace Go.Proofs.YtkcddcomjbihgaaDoor
open Go.RowKit Go.Deep Go.ChangeShapes Go.WideShapes
set_option linter.unusedVariables false
set_option linter.unusedSimpArgs false

abbrev NtX := Nt × Hd
def ntxC (x : NtX) : List Value := [.int .i64 x.1.kind, .int .u32 (x.1.view : Int), .int .u32 (x.1.mark.1 : Int), .int .u32 (x.1.mark.2 : Int), .int .u32 (x.1.prev.1 : Int), .int .u32 (x.1.prev.2 : Int), .slice x.2.1 x.1.bytes.length x.2.2]
def ntxOk (w : World) (x : NtX) : Prop := NtOk x.1 ∧ IsB w (.slice x.2.1 x.1.bytes.length x.2.2) x.1.bytes ∧ x.1.bytes.length ≤ 140737488351232
abbrev BsX := List UInt8 × Hd
def bsxC (x : BsX) : List Value := [.slice x.2.1 x.1.length x.2.2]
def bsxOk (w : World) (x : BsX) : Prop := IsB w (.slice x.2.1 x.1.length x.2.2) x.1 ∧ x.1.length ≤ 140737488351232
def ArgNotes (w : World) (v : Value) (xs : List NtX) : Prop := IsSl w v 7 xs.length (xs.flatMap ntxC) ∧ (∀ x ∈ xs, ntxOk w x) ∧ xs.length ≤ 140737488351232
def ArgRows (w : World) (v : Value) (xs : List BsX) : Prop := IsSl w v 1 xs.length (xs.flatMap bsxC) ∧ (∀ x ∈ xs, bsxOk w x) ∧ xs.length ≤ 140737488351232
set_option maxRecDepth 100000 in
theorem open_notes {H : Type} {enc : TypeId × Value → H} {w : World} {v : Value} {d : DataW H} {p : List MemPlace} {r : Reach} {b0 : Nat}
    (hv : Value.okWide Tryd.prog w r b0 22 v) (h : DataW.Trod enc Tryd.prog w 0 (fun _ => true) true 22 v d p) (hL : Light Tryd.prog 22 d) : ∃ l, ArgNotes w v l := by
  obtain ⟨a, len, cap, rfl⟩ := okWide_slice Tryd.underlying22 hv
  obtain ⟨u, l, e, h1, h2, h3⟩ := arg_of (opens_slice 7 56 ntxC (ntxOk w) Tryd.underlying22 (by kernel_rfl) (by omega) (by kernel_rfl) (opens_note.mono fun cs ⟨vb, n, e, h1, h2, h3⟩ => by
    obtain ⟨ao, cap, rfl, -⟩ := h2.opened
    exact ⟨(n, (ao, cap)), e, rfl, h1, h2, h3⟩)) h hL
  have e : (.slice a len cap : Value) = u := by simpa [Value.cells] using e
  subst e
  exact ⟨l, h1, h2, by omega⟩
set_option maxRecDepth 100000 in
theorem open_rows {H : Type} {enc : TypeId × Value → H} {w : World} {v : Value} {d : DataW H} {p : List MemPlace} {r : Reach} {b0 : Nat}
    (hv : Value.okWide Tryd.prog w r b0 23 v) (h : DataW.Trod enc Tryd.prog w 0 (fun _ => true) true 23 v d p) (hL : Light Tryd.prog 23 d) : ∃ l, ArgRows w v l := by
  obtain ⟨a, len, cap, rfl⟩ := okWide_slice Tryd.underlying23 hv
  obtain ⟨u, l, e, h1, h2, h3⟩ := arg_of (opens_slice 1 24 bsxC (bsxOk w) Tryd.underlying23 (by kernel_rfl) (by omega) (by kernel_rfl) ((opens_bytes Tryd.underlying28 Tryd.underlying5 (by kernel_rfl) (by kernel_rfl)).mono fun cs ⟨vb, n, e, h2, h3⟩ => by
    obtain ⟨ao, cap, rfl, -⟩ := h2.opened
    exact ⟨(n, (ao, cap)), e, rfl, h2, h3⟩)) h hL
  have e : (.slice a len cap : Value) = u := by simpa [Value.cells] using e
  subst e
  exact ⟨l, h1, h2, by omega⟩
/-- The cells of one element. -/
theorem sl_elem {α : Type} {w : World} {v : Value} {k : Nat} (c : α → List Value) {xs : List α} (h : IsSl w v k xs.length (xs.flatMap c)) (hc : ∀ x, (c x).length = k) (hk : 0 < k) (i : Nat) (hi : i < xs.length) :
    ∃ b off cap, v = .slice (some ⟨b, off, none⟩) xs.length cap ∧ xs.length ≤ cap ∧ cap ≤ 9223372036854775807 ∧ ∀ j, j < k → w.cell? ⟨b, off + i * k + j, none⟩ = (c xs[i])[j]? := by
  obtain ⟨hl, ao, cap, rfl, h2, h3, h4, h5⟩ := h
  have hfl : (xs.flatMap c).length = xs.length * k := hl
  have hik : i * k + k ≤ xs.length * k := by rw [← Nat.succ_mul]; exact Nat.mul_le_mul_right _ hi
  obtain ⟨b, off, rfl, -⟩ := h5 (i * k) (by rw [hfl]; omega)
  refine ⟨b, off, cap, rfl, h2, h3, fun j hj => ?_⟩
  obtain ⟨b2, off2, e2, c2⟩ := h5 (i * k + j) (by rw [hfl]; omega)
  simp only [Option.some.injEq, Addr.mk.injEq, and_true] at e2
  obtain ⟨rfl, rfl⟩ := e2
  rw [Nat.add_assoc, c2]
  exact flat_get c k xs (fun x _ => hc x) i hi j hj
/-- What Decode gives, error or not. -/
def decA (b : List UInt8) : Nt := if decErr b = 0 then decN b else n0
def DecA (w : World) (b : List UInt8) (e : Ending) (w' : World) : Prop := Ext w w' ∧ ∃ vb, e = .returned (.tuple #[.agg #[.int .i64 (decA b).kind, .int .u32 ((decA b).view : Int), .int .u32 ((decA b).mark.1 : Int), .int .u32 ((decA b).mark.2 : Int), .int .u32 ((decA b).prev.1 : Int), .int .u32 ((decA b).prev.2 : Int), vb], .int .i64 (decErr b)]) ∧ OwnB w' w.heap.size vb (decA b).bytes
theorem decA_of {w : World} {b : List UInt8} {e : Ending} {w' : World} (h : DecPost w b e w') : DecA w b e w' := by
  obtain ⟨x, ⟨hz, rfl⟩ | ⟨hz, vb, rfl, own⟩⟩ := h
  · have : decA b = n0 := by unfold decA; rw [if_neg hz]
    refine ⟨x, .slice none 0 0, ?_, ?_⟩
    · rw [this]
    · rw [this]
      exact World.ownsRow_nil _ _ _ _
  · have : decA b = decN b := by unfold decA; rw [if_pos hz]
    refine ⟨x, vb, ?_, ?_⟩
    · rw [this, hz]
    · rw [this]
      exact own
theorem bkDecodeA (w : World) (v : Value) (b : List UInt8) (h : IsB w v b) (hb : b.length ≤ 1000000) (hK : Tabs w) :
    Calls Tryd.prog 14 #[v] w (DecA w b) := (bkDecode w v b h hb hK).mono fun _ _ h => decA_of h
theorem rbDecodeA (w : World) (v : Value) (b : List UInt8) (h : IsB w v b) (hb : b.length ≤ 1000000) :
    Calls Tryd.prog 15 #[v] w (DecA w b) := (rbDecode w v b h hb).mono fun _ _ h => decA_of h
theorem decA_len (b : List UInt8) : (decA b).bytes.length ≤ 40000 := by
  unfold decA
  split
  · rename_i h
    exact noted_len (noted_dec h)
  · simp [n0]
theorem sameN_self (n : Nt) : sameN n n = true := by
  unfold sameN
  simp [meq]
end Go.Proofs.YtkcddcomjbihgaaDoor

namespace Go.Proofs.YtkcddcomjbihgaaDoor
open Go.RowKit Go.Deep Go.ChangeShapes Go.WideShapes
set_option linter.unusedVariables false
set_option linter.unusedSimpArgs false

abbrev PrX := Pr × Hd
def prxC (x : PrX) : List Value := [.int .i64 x.1.me, .int .u32 (x.1.v.n : Int), .int .i64 x.1.v.p, .int .i64 x.1.v.b, .int .u32 (x.1.base.1 : Int), .int .u32 (x.1.base.2 : Int), .slice x.2.1 x.1.log.length x.2.2, .bool x.1.known, .bool x.1.joined, .bool x.1.instep, .int .u32 (x.1.acked : Int)]
def prxOk (w : World) (x : PrX) : Prop := IsPr w (.slice x.2.1 x.1.log.length x.2.2) x.1
def ArgPeers (w : World) (v : Value) (xs : List PrX) : Prop := IsSl w v 11 xs.length (xs.flatMap prxC) ∧ (∀ x ∈ xs, prxOk w x) ∧ xs.length ≤ 140737488351232
set_option maxRecDepth 100000 in
theorem open_peers {H : Type} {enc : TypeId × Value → H} {w : World} {v : Value} {d : DataW H} {p : List MemPlace} {r : Reach} {b0 : Nat}
    (hv : Value.okWide Tryd.prog w r b0 84 v) (h : DataW.Trod enc Tryd.prog w 0 (fun _ => true) true 84 v d p) (hL : Light Tryd.prog 84 d) : ∃ l, ArgPeers w v l := by
  obtain ⟨a, len, cap, rfl⟩ := okWide_slice Tryd.underlying84 hv
  obtain ⟨u, l, e, h1, h2, h3⟩ := arg_of (opens_slice 11 72 prxC (prxOk w) Tryd.underlying84 (by kernel_rfl) (by omega) (by kernel_rfl) (opens_peer.mono fun cs ⟨vl, n, e, h2⟩ => by
    obtain ⟨us, hus⟩ := h2.2.2.2
    obtain ⟨ao, cap, rfl, -⟩ := hus.opened
    exact ⟨(n, (ao, cap)), e, rfl, h2⟩)) h hL
  have e : (.slice a len cap : Value) = u := by simpa [Value.cells] using e
  subst e
  exact ⟨l, h1, h2, by omega⟩
theorem IsPr.lg {w : World} {vl : Value} {p : Pr} (h : IsPr w vl p) : IsLg w vl p.log := ⟨h.2.1, h.2.2.2⟩
theorem shortP_ok {p : Pr} (h : PrOk p) : PrOk (shortP p) := ⟨h.me, h.vn, h.vp, h.vb, h.base, h.acked⟩
theorem shortP_lg {p : Pr} (h : ∀ e ∈ p.log, lgOk e) : ∀ e ∈ (shortP p).log, lgOk e := by
  intro e he
  obtain ⟨x, hx, rfl⟩ := List.mem_map.1 he
  have := h x (List.mem_of_mem_take hx)
  refine ⟨this.1, ?_⟩
  show (x.b.take 100).length ≤ _
  rw [List.length_take]
  omega
theorem shortP_len (p : Pr) : (shortP p).log.length ≤ 17 := by
  show ((p.log.take 17).map cutE).length ≤ 17
  rw [List.length_map, List.length_take]
  omega
theorem LgOwn.lg {w : World} {base : Nat} {v : Value} {l : List LgE} {us : List Hd} (h : LgOwn w base v l us) (ok : ∀ e ∈ l, lgOk e) : IsLg w v l := ⟨ok, us, h.fr.u⟩
theorem i64_0 : i64Ok 0 := ⟨by decide, by decide⟩
theorem newP_ok {me : Int} (h : i64Ok me) : PrOk (newP me) := ⟨h, (by decide : (0 : Nat) < 4294967296), i64_0, i64_0, m0Ok, (by decide : (0 : Nat) < 4294967296)⟩
theorem lgNil (w : World) (l : List LgE) (h : l = []) : IsLg w (.slice none 0 0) l := by subst h; exact IsLg.nil w
end Go.Proofs.YtkcddcomjbihgaaDoor

namespace Go.Proofs.YtkcddcomjbihgaaDoor
open Go.RowKit
set_option linter.unusedVariables false
set_option linter.unusedSimpArgs false

def newQ (me : Int) : Pr := if serverB me = true then newP me else newP 0
def newE (me : Int) : Int := if serverB me = true then 0 else 2
theorem bkNewQ (w : World) (me : Int) :
    Calls Tryd.prog 39 #[.int .i64 me] w fun e w' => e = .returned (.tuple #[.agg #[.int .i64 (newQ me).me, .int .u32 ((newQ me).v.n : Int), .int .i64 (newQ me).v.p, .int .i64 (newQ me).v.b, .int .u32 ((newQ me).base.1 : Int), .int .u32 ((newQ me).base.2 : Int), (.slice none 0 0), .bool (newQ me).known, .bool (newQ me).joined, .bool (newQ me).instep, .int .u32 ((newQ me).acked : Int)], .int .i64 (newE me)]) ∧ Ext w w' := by
  unfold newQ newE
  cases h : serverB me with
  | true =>
    rw [if_pos rfl, if_pos rfl]
    exact bkNewT w me h
  | false =>
    rw [if_neg (by decide), if_neg (by decide)]
    exact bkNewF w me h
set_option maxHeartbeats 4000000 in
set_option maxRecDepth 100000 in
theorem walkBackupPeers (w : World) (v1 : Value) (l : List PrX) (h1 : ArgPeers w v1 l) (me : Int) (hm1 : -9223372036854775808 ≤ me) (hm2 : me ≤ 9223372036854775807) (hK : Tabs w) :
    Calls Tryd.prog 7 #[v1, .int .i64 me] w fun e w' => e = .returned (.bool true) ∧ Ext w w' := by
  have H1 := Lib.hid h1
  have HK := Lib.hid hK
  obtain ⟨⟨_, a1, c1, rfl, hc1, hmm, _, _⟩, _, hl1⟩ := h1
  clear hK hc1 hmm
  go_enter Tryd.func7, Tryd.ntmps7
  go_wp2_with fail
  refine (lawWakes _ HK.out).mono ?_
  rintro e W1 ⟨rfl, x1⟩
  have HX := Lib.hid x1
  clear x1
  go_wp2_with fail
  refine (bkNewQ _ me).mono ?_
  rintro e w2 ⟨rfl, y⟩
  have HX := Lib.hid (HX.out.trans y)
  clear y
  go_upto_region 4 with (((with_reducible refine at_store 47 (.tmp 5) (.tmp 18) ?_); go_must (refine wpl_store rfl 47 (.tmp 5) (.tmp 18) rfl w2.heap.size #[.int .i64 (newQ me).me, .int .u32 ((newQ me).v.n : Int), .int .i64 (newQ me).v.p, .int .i64 (newQ me).v.b, .int .u32 ((newQ me).base.1 : Int), .int .u32 ((newQ me).base.2 : Int), (.slice none 0 0), .bool (newQ me).known, .bool (newQ me).joined, .bool (newQ me).instep, .int .u32 ((newQ me).acked : Int)] (by rfl) (by rfl) 47 _ (heap_alloc_new w2 _) (by kernel_rfl) rfl (pr_one _ _ _ _) ?_)))
  refine wp_forget (fun W => Ext w2 W ∧ W.heap[w2.heap.size]? = some (.cells #[.int .i64 (newQ me).me, .int .u32 ((newQ me).v.n : Int), .int .i64 (newQ me).v.p, .int .i64 (newQ me).v.b, .int .u32 ((newQ me).base.1 : Int), .int .u32 ((newQ me).base.2 : Int), (.slice none 0 0), .bool (newQ me).known, .bool (newQ me).joined, .bool (newQ me).instep, .int .u32 ((newQ me).acked : Int)] 47 (0, 0))) ⟨ext_new _ _ _, new_row _ _ _ _⟩ ?_
  rintro W3 ⟨y, bN⟩
  have HX := Lib.hid (HX.out.trans y)
  clear y
  obtain ⟨V, hV⟩ : ∃ V, serverB me = V := ⟨_, rfl⟩
  have HV := Lib.hid hV
  clear hV
  go_cut [1, 25] from 20 to 25 (fun t1 t25 wx => t1 = .int .i64 me ∧ t25 = .bool (!V) ∧ Ext W3 wx)
  case first =>
    clear bN
    go_wp2_with fail
    all_goals
      go_meet
      refine ⟨rfl, congrArg Value.bool ?_, Ext.refl _⟩
      rw [← HV.out]
      first
        | (simp [serverB, *]; done)
        | (simp [serverB, *]; omega)
        | (rw [Bool.eq_iff_iff]; simp [serverB]; omega)
  case rest =>
    obtain ⟨rfl, rfl, y⟩ := hcut
    obtain ⟨W4, rfl⟩ : ∃ x, x = wc := ⟨_, rfl⟩
    have bN := y.keeps bN
    have HX := Lib.hid (HX.out.trans y)
    clear y
    have cN := block_all bN
    go_upto_if 25 with fail
    go_cut [4, 6, 15, 17, 18, 19] from 26 to 42 (fun t4 t6 t15 t17 t18 t19 wx => Ext w wx)
    case first =>
      cases hV : V with
      | true =>
        subst hV
        have hq : newQ me = newP me ∧ newE me = 0 := by unfold newQ newE; rw [if_pos HV.out, if_pos HV.out]; exact ⟨rfl, rfl⟩
        rw [hq.1] at cN
        rw [hq.1, hq.2]
        go_wp2_with fail
        refine (rbSame _ _ _ (newP me) (newP me) (lgNil _ _ rfl) (lgNil _ _ rfl)).mono ?_
        rintro e w3 ⟨rfl, y⟩
        rw [sameP_self]
        have HX := Lib.hid (HX.out.trans y)
        clear cN y
        go_wp2_with fail
        go_meet
        exact HX.out
      | false =>
        subst hV
        have hq : newQ me = newP 0 ∧ newE me = 2 := by unfold newQ newE; rw [if_neg (by rw [HV.out]; decide), if_neg (by rw [HV.out]; decide)]; exact ⟨rfl, rfl⟩
        rw [hq.1] at cN
        rw [hq.1, hq.2]
        go_wp2_with fail
        refine (rbSame _ _ _ (newP 0) (newP 0) (lgNil _ _ rfl) (lgNil _ _ rfl)).mono ?_
        rintro e w3 ⟨rfl, y⟩
        rw [sameP_self]
        have HX := Lib.hid (HX.out.trans y)
        clear cN y
        go_wp2_with fail
        go_meet
        exact HX.out
    case rest =>
      obtain ⟨W5, rfl⟩ : ∃ x, x = wc := ⟨_, rfl⟩
      have x5 := hcut
      clear hcut cN bN
      go_upto_block 0 with fail
      go_cut [7, 8, 9, 10, 11, 12] from 45 to 90 (fun t7 t8 t9 t10 t11 t12 wx => Ext w wx)
      case first =>
        go_wp2_with fail
        go_loopg [7, 8, 9, 10, 11, 12, 45] l.length (fun g s7 s8 s9 s10 s11 s12 s45 wr => ∃ k : Nat, k ≤ l.length ∧ l.length - k ≤ g ∧ s45 = .int .i64 (k : Int) ∧ Ext w wr)
        case atStart => exact ⟨0, by omega, by omega, rfl, x5⟩
        case round =>
          obtain ⟨k, hk, hg, rfl, xr⟩ := hrel
          by_cases hlt : k < l.length
          · skip
            have h0lt : 0 < l.length := by omega
            obtain ⟨⟨pb, off, cap, e, hlc, hcm, g⟩, hok⟩ : (∃ b off cap, (.slice a1 l.length c1 : Value) = .slice (some ⟨b, off, none⟩) l.length cap ∧ l.length ≤ cap ∧ cap ≤ 9223372036854775807 ∧ ∀ j, j < 11 → w.cell? ⟨b, off + k * 11 + j, none⟩ = (prxC l[k])[j]?) ∧ prxOk w l[k] := ⟨sl_elem prxC H1.out.1 (fun x => rfl) (by decide) k hlt, H1.out.2.1 _ (List.getElem_mem hlt)⟩
            obtain ⟨⟨pb2, off2, cap2, e2, -, -, g0⟩, hok0⟩ : (∃ b off cap, (.slice a1 l.length c1 : Value) = .slice (some ⟨b, off, none⟩) l.length cap ∧ l.length ≤ cap ∧ cap ≤ 9223372036854775807 ∧ ∀ j, j < 11 → w.cell? ⟨b, off + 0 * 11 + j, none⟩ = (prxC l[0])[j]?) ∧ prxOk w l[0] := ⟨sl_elem prxC H1.out.1 (fun x => rfl) (by decide) 0 h0lt, H1.out.2.1 _ (List.getElem_mem h0lt)⟩
            simp only [Value.slice.injEq, true_and] at e
            obtain ⟨rfl, rfl⟩ := e
            simp only [Value.slice.injEq, true_and, Option.some.injEq, Addr.mk.injEq, and_true] at e2
            obtain ⟨⟨rfl, rfl⟩, rfl⟩ := e2
            obtain ⟨⟨x, ⟨xa, xc⟩⟩, hx⟩ : ∃ x, l[k] = x := ⟨_, rfl⟩
            rw [hx] at g hok
            obtain ⟨⟨y, ⟨ya, yc⟩⟩, hy⟩ : ∃ x, l[0] = x := ⟨_, rfl⟩
            rw [hy] at g0 hok0
            clear hx hy
            rw [Nat.zero_mul, Nat.add_zero] at g0
            have e0 : wr.cell? ⟨pb, off + k * 11, none⟩ = some (.int .i64 x.me) := xr.cell (g 0 (by decide))
            have e1 : wr.cell? ⟨pb, off + k * 11 + 1, none⟩ = some (.int .u32 (x.v.n : Int)) := xr.cell (g 1 (by decide))
            have e2 : wr.cell? ⟨pb, off + k * 11 + 2, none⟩ = some (.int .i64 x.v.p) := xr.cell (g 2 (by decide))
            have e3 : wr.cell? ⟨pb, off + k * 11 + 3, none⟩ = some (.int .i64 x.v.b) := xr.cell (g 3 (by decide))
            have e4 : wr.cell? ⟨pb, off + k * 11 + 4, none⟩ = some (.int .u32 (x.base.1 : Int)) := xr.cell (g 4 (by decide))
            have e5 : wr.cell? ⟨pb, off + k * 11 + 5, none⟩ = some (.int .u32 (x.base.2 : Int)) := xr.cell (g 5 (by decide))
            have e6 : wr.cell? ⟨pb, off + k * 11 + 6, none⟩ = some (.slice xa x.log.length xc) := xr.cell (g 6 (by decide))
            have e7 : wr.cell? ⟨pb, off + k * 11 + 7, none⟩ = some (.bool x.known) := xr.cell (g 7 (by decide))
            have e8 : wr.cell? ⟨pb, off + k * 11 + 8, none⟩ = some (.bool x.joined) := xr.cell (g 8 (by decide))
            have e9 : wr.cell? ⟨pb, off + k * 11 + 9, none⟩ = some (.bool x.instep) := xr.cell (g 9 (by decide))
            have e10 : wr.cell? ⟨pb, off + k * 11 + 10, none⟩ = some (.int .u32 (x.acked : Int)) := xr.cell (g 10 (by decide))
            have hlp : pb < wr.heap.size := World.block_lt_of_cell? _ _ e0
            have GH := Lib.hid g0
            have HX := Lib.hid xr
            have OX := Lib.hid hok
            have OY := Lib.hid hok0
            clear g g0 xr hok hok0
            go_upto_region 12 with (((with_reducible refine at_store 47 (.tmp 8) (.tmp 49) ?_); go_must (refine wpl_store rfl 47 (.tmp 8) (.tmp 49) rfl wr.heap.size #[.int .i64 x.me, .int .u32 (x.v.n : Int), .int .i64 x.v.p, .int .i64 x.v.b, .int .u32 (x.base.1 : Int), .int .u32 (x.base.2 : Int), (.slice xa x.log.length xc), .bool x.known, .bool x.joined, .bool x.instep, .int .u32 (x.acked : Int)] (by rfl) (by rfl) 47 _ (heap_alloc_new wr _) (by kernel_rfl) rfl (pr_one _ _ _ _) ?_)))
            have hsX := HX.out.size
            refine wp_forget (fun W => Ext wr W ∧ W.heap[wr.heap.size]? = some (.cells #[.int .i64 x.me, .int .u32 (x.v.n : Int), .int .i64 x.v.p, .int .i64 x.v.b, .int .u32 (x.base.1 : Int), .int .u32 (x.base.2 : Int), (.slice xa x.log.length xc), .bool x.known, .bool x.joined, .bool x.instep, .int .u32 (x.acked : Int)] 47 (0, 0))) ⟨ext_new _ _ _, new_row _ _ _ _⟩ ?_
            rintro W1 ⟨y, bX⟩
            obtain ⟨BX, hB⟩ : ∃ x, x = wr.heap.size := ⟨_, rfl⟩
            rw [← hB] at bX hsX
            rw [← hB]
            clear hB
            have HX := Lib.hid (HX.out.trans y)
            clear y
            clear e0 e1 e2 e3 e4 e5 e6 e7 e8 e9 e10 hlp
            by_cases h16 : k = 16
            ·
              subst h16
              go_wp2_with fail
              go_meet
              exact HX.out
            ·
              have h16' : ((k : Int) == 16) = false := by rw [beq_eq_false_iff_ne]; omega
              clear h16
              have h0i : (0 : Int) < (l.length : Int) := by omega
              go_upto_region 13 with fail
              go_cut [9, 10] from 52 to 57 (fun t9 t10 wx => ∃ B9 B10 a1s c1s u1 a5s c5s u5, t9 = .pointer (some ⟨B9, 0, none⟩) ∧ t10 = .pointer (some ⟨B10, 0, none⟩) ∧ wx.heap[B9]? = some (.cells #[.int .i64 (shortP x).me, .int .u32 ((shortP x).v.n : Int), .int .i64 (shortP x).v.p, .int .i64 (shortP x).v.b, .int .u32 ((shortP x).base.1 : Int), .int .u32 ((shortP x).base.2 : Int), (.slice a1s (shortP x).log.length c1s), .bool (shortP x).known, .bool (shortP x).joined, .bool (shortP x).instep, .int .u32 ((shortP x).acked : Int)] 47 (0, 0)) ∧ wx.heap[B10]? = some (.cells #[.int .i64 (shortP y).me, .int .u32 ((shortP y).v.n : Int), .int .i64 (shortP y).v.p, .int .i64 (shortP y).v.b, .int .u32 ((shortP y).base.1 : Int), .int .u32 ((shortP y).base.2 : Int), (.slice a5s (shortP y).log.length c5s), .bool (shortP y).known, .bool (shortP y).joined, .bool (shortP y).instep, .int .u32 ((shortP y).acked : Int)] 47 (0, 0)) ∧ LgOwn wx W1.heap.size (.slice a1s (shortP x).log.length c1s) (shortP x).log u1 ∧ LgOwn wx W1.heap.size (.slice a5s (shortP y).log.length c5s) (shortP y).log u5 ∧ Ext W1 wx)
              case first =>
                have KX := fun v (h : Ext W1 v) => block_all (h.keeps bX)
                have G0 : ∀ v, Ext W1 v → v.cell? ⟨pb, off, none⟩ = some (.int .i64 y.me) := fun v h => (HX.out.trans h).cell (GH.out 0 (by decide))
                have G1 : ∀ v, Ext W1 v → v.cell? ⟨pb, off + 1, none⟩ = some (.int .u32 (y.v.n : Int)) := fun v h => (HX.out.trans h).cell (GH.out 1 (by decide))
                have G2 : ∀ v, Ext W1 v → v.cell? ⟨pb, off + 2, none⟩ = some (.int .i64 y.v.p) := fun v h => (HX.out.trans h).cell (GH.out 2 (by decide))
                have G3 : ∀ v, Ext W1 v → v.cell? ⟨pb, off + 3, none⟩ = some (.int .i64 y.v.b) := fun v h => (HX.out.trans h).cell (GH.out 3 (by decide))
                have G4 : ∀ v, Ext W1 v → v.cell? ⟨pb, off + 4, none⟩ = some (.int .u32 (y.base.1 : Int)) := fun v h => (HX.out.trans h).cell (GH.out 4 (by decide))
                have G5 : ∀ v, Ext W1 v → v.cell? ⟨pb, off + 5, none⟩ = some (.int .u32 (y.base.2 : Int)) := fun v h => (HX.out.trans h).cell (GH.out 5 (by decide))
                have G6 : ∀ v, Ext W1 v → v.cell? ⟨pb, off + 6, none⟩ = some (.slice ya y.log.length yc) := fun v h => (HX.out.trans h).cell (GH.out 6 (by decide))
                have G7 : ∀ v, Ext W1 v → v.cell? ⟨pb, off + 7, none⟩ = some (.bool y.known) := fun v h => (HX.out.trans h).cell (GH.out 7 (by decide))
                have G8 : ∀ v, Ext W1 v → v.cell? ⟨pb, off + 8, none⟩ = some (.bool y.joined) := fun v h => (HX.out.trans h).cell (GH.out 8 (by decide))
                have G9 : ∀ v, Ext W1 v → v.cell? ⟨pb, off + 9, none⟩ = some (.bool y.instep) := fun v h => (HX.out.trans h).cell (GH.out 9 (by decide))
                have G10 : ∀ v, Ext W1 v → v.cell? ⟨pb, off + 10, none⟩ = some (.int .u32 (y.acked : Int)) := fun v h => (HX.out.trans h).cell (GH.out 10 (by decide))
                clear bX h16'
                have h0n : 0 < l.length := by omega
                refine wp_region_G 9 (fun v => Ext W1 v) (by kernel_rfl) fun wd hqd hHeld => ?_
                refine G_take (i := 0) (u := ?va1_0) rfl (by kernel_rfl) (by kernel_rfl) (by kernel_rfl) (fun _ _ _ h => h) rfl (by kernel_rfl) (by decide) (by rfl) (Or.inl ⟨by rfl, ?hya1_0⟩) hHeld ?_
                case hya1_0 => (intro w hSw; have kk := KX _ hSw; go_simp; try with_reducible rfl)
                simp only [Act.put, List.setIfInBounds_toArray, List.set_cons_zero, List.set_cons_succ, List.getElem_toArray, List.getElem_cons_zero, List.getElem_cons_succ]
                refine G_pure (i := 2) (u := ?va2_2) rfl (by kernel_rfl) (by kernel_rfl) (by kernel_rfl) (fun _ _ _ h => h) (by decide) (Or.inl ⟨by rfl, ?hya2_2⟩) hHeld ?_
                case hya2_2 => (intro w hSw; go_simp; try with_reducible rfl)
                simp only [Act.put, List.setIfInBounds_toArray, List.set_cons_zero, List.set_cons_succ, List.getElem_toArray, List.getElem_cons_zero, List.getElem_cons_succ]
                refine G_pure (i := 3) (u := ?va3_3) rfl (by kernel_rfl) (by kernel_rfl) (by kernel_rfl) (fun _ _ _ h => h) (by decide) (Or.inl ⟨by rfl, ?hya3_3⟩) hHeld ?_
                case hya3_3 => (intro w hSw; go_simp; try with_reducible rfl)
                simp only [Act.put, List.setIfInBounds_toArray, List.set_cons_zero, List.set_cons_succ, List.getElem_toArray, List.getElem_cons_zero, List.getElem_cons_succ]
                refine G_take (i := 4) (u := ?va4_4) rfl (by kernel_rfl) (by kernel_rfl) (by kernel_rfl) (fun _ _ _ h => h) rfl (by kernel_rfl) (by decide) (by rfl) (Or.inl ⟨by rfl, ?hya4_4⟩) hHeld ?_
                case hya4_4 => (intro w hSw; have g0 := G0 _ hSw; have g1 := G1 _ hSw; have g2 := G2 _ hSw; have g3 := G3 _ hSw; have g4 := G4 _ hSw; have g5 := G5 _ hSw; have g6 := G6 _ hSw; have g7 := G7 _ hSw; have g8 := G8 _ hSw; have g9 := G9 _ hSw; have g10 := G10 _ hSw; go_simp; try with_reducible rfl)
                simp only [Act.put, List.setIfInBounds_toArray, List.set_cons_zero, List.set_cons_succ, List.getElem_toArray, List.getElem_cons_zero, List.getElem_cons_succ]
                refine G_all (rs := [1, 6, 7]) (by kernel_rfl) (by simp) ?_
                intro i hi; have hi' : i = 1 ∨ i = 6 ∨ i = 7 := by simpa using hi
                clear hi; rcases hi' with rfl | rfl | rfl
                · refine wpOp_run rfl (by rfl) ?_
                  go_simp
                  refine Calls.mono (lawShort _ _ x ((OX.out.lg.ext HX.out).ext hHeld)) ?_
                  rintro e w1 ⟨v1, u1, rfl, i1, x1⟩
                  have i1 := i1.base hHeld.size
                  obtain ⟨a1s, c1s, rfl⟩ := own_shape i1.own
                  have hHeld := hHeld.trans x1
                  first | refine ⟨fun _ => hHeld, ?_⟩ | refine ⟨hHeld, ?_⟩
                  try simp only [Act.put, List.setIfInBounds_toArray, List.set_cons_zero, List.set_cons_succ, List.getElem_toArray, List.getElem_cons_zero, List.getElem_cons_succ]
                  try have b6 := x1.keeps b6
                  try have b7 := x1.keeps b7
                  try have i1 := i1.ext x1
                  try have i5 := i5.ext x1
                  skip
                  obtain ⟨wd, rfl⟩ : ∃ x, x = w1 := ⟨_, rfl⟩
                  refine G_all (rs := [5, 6, 7]) (by kernel_rfl) (by simp) ?_
                  intro i hi; have hi' : i = 5 ∨ i = 6 ∨ i = 7 := by simpa using hi
                  clear hi; rcases hi' with rfl | rfl | rfl
                  · refine wpOp_run rfl (by rfl) ?_
                    go_simp
                    refine Calls.mono (lawShort _ _ y ((OY.out.lg.ext HX.out).ext hHeld)) ?_
                    rintro e w5 ⟨v5, u5, rfl, i5, x5⟩
                    have i5 := i5.base hHeld.size
                    obtain ⟨a5s, c5s, rfl⟩ := own_shape i5.own
                    have hHeld := hHeld.trans x5
                    first | refine ⟨fun _ => hHeld, ?_⟩ | refine ⟨hHeld, ?_⟩
                    try simp only [Act.put, List.setIfInBounds_toArray, List.set_cons_zero, List.set_cons_succ, List.getElem_toArray, List.getElem_cons_zero, List.getElem_cons_succ]
                    try have b6 := x5.keeps b6
                    try have b7 := x5.keeps b7
                    try have i1 := i1.ext x5
                    try have i5 := i5.ext x5
                    skip
                    obtain ⟨wd, rfl⟩ : ∃ x, x = w5 := ⟨_, rfl⟩
                    refine G_all (rs := [6, 7]) (by kernel_rfl) (by simp) ?_
                    intro i hi; have hi' : i = 6 ∨ i = 7 := by simpa using hi
                    clear hi; rcases hi' with rfl | rfl
                    · refine wpOp_run rfl (by rfl) ?_
                      go_simp
                      try have lb76 := block_lt b7
                      have b6 := heap_alloc_new wd (.cells #[.int .i64 0, .int .u32 0, .int .i64 0, .int .i64 0, .int .u32 0, .int .u32 0, .slice none 0 0, .bool false, .bool false, .bool false, .int .u32 0] 47)
                      have xa : Ext wd (wd.alloc (.cells #[.int .i64 0, .int .u32 0, .int .i64 0, .int .i64 0, .int .u32 0, .int .u32 0, .slice none 0 0, .bool false, .bool false, .bool false, .int .u32 0] 47)) := (Ext.refl wd).alloc _
                      have nw6 : _ ≤ wd.heap.size := hHeld.size
                      have hHeld := hHeld.trans xa
                      first | refine ⟨fun _ => hHeld, ?_⟩ | refine ⟨hHeld, ?_⟩
                      try simp only [Act.put, List.setIfInBounds_toArray, List.set_cons_zero, List.set_cons_succ, List.getElem_toArray, List.getElem_cons_zero, List.getElem_cons_succ]
                      try have b7 := xa.keeps b7
                      try have i1 := i1.ext xa
                      try have i5 := i5.ext xa
                      clear xa
                      generalize wd.heap.size = B6 at *
                      generalize wd.alloc (.cells #[.int .i64 0, .int .u32 0, .int .i64 0, .int .i64 0, .int .u32 0, .int .u32 0, .slice none 0 0, .bool false, .bool false, .bool false, .int .u32 0] 47) = wn at *
                      obtain ⟨wd, rfl⟩ : ∃ x, x = wn := ⟨_, rfl⟩
                      refine G_all (rs := [7]) (by kernel_rfl) (by simp) ?_
                      intro i hi; obtain rfl : i = 7 := by simpa using hi
                      refine wpOp_run rfl (by rfl) ?_
                      go_simp
                      try have lb67 := block_lt b6
                      have b7 := heap_alloc_new wd (.cells #[.int .i64 0, .int .u32 0, .int .i64 0, .int .i64 0, .int .u32 0, .int .u32 0, .slice none 0 0, .bool false, .bool false, .bool false, .int .u32 0] 47)
                      have xa : Ext wd (wd.alloc (.cells #[.int .i64 0, .int .u32 0, .int .i64 0, .int .i64 0, .int .u32 0, .int .u32 0, .slice none 0 0, .bool false, .bool false, .bool false, .int .u32 0] 47)) := (Ext.refl wd).alloc _
                      have nw7 : _ ≤ wd.heap.size := hHeld.size
                      have hHeld := hHeld.trans xa
                      first | refine ⟨fun _ => hHeld, ?_⟩ | refine ⟨hHeld, ?_⟩
                      try simp only [Act.put, List.setIfInBounds_toArray, List.set_cons_zero, List.set_cons_succ, List.getElem_toArray, List.getElem_cons_zero, List.getElem_cons_succ]
                      try have b6 := xa.keeps b6
                      try have i1 := i1.ext xa
                      try have i5 := i5.ext xa
                      clear xa
                      generalize wd.heap.size = B7 at *
                      generalize wd.alloc (.cells #[.int .i64 0, .int .u32 0, .int .i64 0, .int .i64 0, .int .u32 0, .int .u32 0, .slice none 0 0, .bool false, .bool false, .bool false, .int .u32 0] 47) = wn at *
                      obtain ⟨wd, rfl⟩ : ∃ x, x = wn := ⟨_, rfl⟩
                      refine G_all (rs := [8]) (by kernel_rfl) (by simp) ?_
                      intro i hi; obtain rfl : i = 8 := by simpa using hi
                      refine wpOp_run rfl (by rfl) ?_
                      refine wp_store_row 47 (.tmp 9) (.tmp 53) rfl B6 #[.int .i64 (shortP x).me, .int .u32 ((shortP x).v.n : Int), .int .i64 (shortP x).v.p, .int .i64 (shortP x).v.b, .int .u32 ((shortP x).base.1 : Int), .int .u32 ((shortP x).base.2 : Int), (.slice a1s (shortP x).log.length c1s), .bool (shortP x).known, .bool (shortP x).joined, .bool (shortP x).instep, .int .u32 ((shortP x).acked : Int)] (by rfl) (by rfl) 47 _ b6 (by kernel_rfl) rfl (pr_one _ _ _ _) ?_
                      have g8 := grown_setRow (w := wd) (g := B6) (c := #[.int .i64 (shortP x).me, .int .u32 ((shortP x).v.n : Int), .int .i64 (shortP x).v.p, .int .i64 (shortP x).v.b, .int .u32 ((shortP x).base.1 : Int), .int .u32 ((shortP x).base.2 : Int), (.slice a1s (shortP x).log.length c1s), .bool (shortP x).known, .bool (shortP x).joined, .bool (shortP x).instep, .int .u32 ((shortP x).acked : Int)])
                      have n6 := setRow_heap _ B6 _ #[.int .i64 (shortP x).me, .int .u32 ((shortP x).v.n : Int), .int .i64 (shortP x).v.p, .int .i64 (shortP x).v.b, .int .u32 ((shortP x).base.1 : Int), .int .u32 ((shortP x).base.2 : Int), (.slice a1s (shortP x).log.length c1s), .bool (shortP x).known, .bool (shortP x).joined, .bool (shortP x).instep, .int .u32 ((shortP x).acked : Int)] _ _ b6
                      have b7 := grown_other g8 b7 (by omega)
                      have i1 := i1.grown g8 b6 (by decide) (by decide)
                      have i5 := i5.grown g8 b6 (by decide) (by decide)
                      have hHeld := hHeld.grown g8 (fun q hq => by cases hq; exact nw6)
                      clear g8 b6
                      generalize wd.setRow B6 #[.int .i64 (shortP x).me, .int .u32 ((shortP x).v.n : Int), .int .i64 (shortP x).v.p, .int .i64 (shortP x).v.b, .int .u32 ((shortP x).base.1 : Int), .int .u32 ((shortP x).base.2 : Int), (.slice a1s (shortP x).log.length c1s), .bool (shortP x).known, .bool (shortP x).joined, .bool (shortP x).instep, .int .u32 ((shortP x).acked : Int)] = wn at *
                      have b6 := n6
                      clear n6
                      obtain ⟨wd, rfl⟩ : ∃ x, x = wn := ⟨_, rfl⟩
                      first | refine ⟨fun _ => hHeld, ?_⟩ | refine ⟨hHeld, ?_⟩ | skip
                      try simp only [Act.put, List.setIfInBounds_toArray, List.set_cons_zero, List.set_cons_succ, List.getElem_toArray, List.getElem_cons_zero, List.getElem_cons_succ]
                      refine G_all (rs := [9]) (by kernel_rfl) (by simp) ?_
                      intro i hi; obtain rfl : i = 9 := by simpa using hi
                      refine wpOp_run rfl (by rfl) ?_
                      refine wp_store_row 47 (.tmp 10) (.tmp 57) rfl B7 #[.int .i64 (shortP y).me, .int .u32 ((shortP y).v.n : Int), .int .i64 (shortP y).v.p, .int .i64 (shortP y).v.b, .int .u32 ((shortP y).base.1 : Int), .int .u32 ((shortP y).base.2 : Int), (.slice a5s (shortP y).log.length c5s), .bool (shortP y).known, .bool (shortP y).joined, .bool (shortP y).instep, .int .u32 ((shortP y).acked : Int)] (by rfl) (by rfl) 47 _ b7 (by kernel_rfl) rfl (pr_one _ _ _ _) ?_
                      try refine ⟨fun e => absurd e (by decide), ?_⟩
                      refine G_free _ _ _ _ (by kernel_rfl) ?_
                      try simp only [Act.put, List.setIfInBounds_toArray, List.set_cons_zero, List.set_cons_succ, List.getElem_toArray, List.getElem_cons_zero, List.getElem_cons_succ]
                      refine wpAny_done (by kernel_rfl) ?_ _
                      refine NoPanic.normal ?_
                      have g9 := grown_setRow (w := wd) (g := B7) (c := #[.int .i64 (shortP y).me, .int .u32 ((shortP y).v.n : Int), .int .i64 (shortP y).v.p, .int .i64 (shortP y).v.b, .int .u32 ((shortP y).base.1 : Int), .int .u32 ((shortP y).base.2 : Int), (.slice a5s (shortP y).log.length c5s), .bool (shortP y).known, .bool (shortP y).joined, .bool (shortP y).instep, .int .u32 ((shortP y).acked : Int)])
                      have n7 := setRow_heap _ B7 _ #[.int .i64 (shortP y).me, .int .u32 ((shortP y).v.n : Int), .int .i64 (shortP y).v.p, .int .i64 (shortP y).v.b, .int .u32 ((shortP y).base.1 : Int), .int .u32 ((shortP y).base.2 : Int), (.slice a5s (shortP y).log.length c5s), .bool (shortP y).known, .bool (shortP y).joined, .bool (shortP y).instep, .int .u32 ((shortP y).acked : Int)] _ _ b7
                      have n6 := grown_other g9 b6 (by omega)
                      have j1 := i1.grown g9 b7 (by decide) (by decide)
                      have j5 := i5.grown g9 b7 (by decide) (by decide)
                      have hh := hHeld.grown g9 (fun q hq => by cases hq; exact nw7)
                      go_wp2_with fail
                      go_meet
                      exact ⟨B6, B7, a1s, c1s, u1, a5s, c5s, u5, rfl, rfl, n6, n7, j1, j5, hh⟩
                    · refine wpOp_run rfl (by rfl) ?_
                      go_simp
                      try have lb67 := block_lt b6
                      have b7 := heap_alloc_new wd (.cells #[.int .i64 0, .int .u32 0, .int .i64 0, .int .i64 0, .int .u32 0, .int .u32 0, .slice none 0 0, .bool false, .bool false, .bool false, .int .u32 0] 47)
                      have xa : Ext wd (wd.alloc (.cells #[.int .i64 0, .int .u32 0, .int .i64 0, .int .i64 0, .int .u32 0, .int .u32 0, .slice none 0 0, .bool false, .bool false, .bool false, .int .u32 0] 47)) := (Ext.refl wd).alloc _
                      have nw7 : _ ≤ wd.heap.size := hHeld.size
                      have hHeld := hHeld.trans xa
                      first | refine ⟨fun _ => hHeld, ?_⟩ | refine ⟨hHeld, ?_⟩
                      try simp only [Act.put, List.setIfInBounds_toArray, List.set_cons_zero, List.set_cons_succ, List.getElem_toArray, List.getElem_cons_zero, List.getElem_cons_succ]
                      try have b6 := xa.keeps b6
                      try have i1 := i1.ext xa
                      try have i5 := i5.ext xa
                      clear xa
                      generalize wd.heap.size = B7 at *
                      generalize wd.alloc (.cells #[.int .i64 0, .int .u32 0, .int .i64 0, .int .i64 0, .int .u32 0, .int .u32 0, .slice none 0 0, .bool false, .bool false, .bool false, .int .u32 0] 47) = wn at *
                      obtain ⟨wd, rfl⟩ : ∃ x, x = wn := ⟨_, rfl⟩
                      refine G_all (rs := [6]) (by kernel_rfl) (by simp) ?_
                      intro i hi; obtain rfl : i = 6 := by simpa using hi
                      refine wpOp_run rfl (by rfl) ?_
                      go_simp
                      try have lb76 := block_lt b7
                      have b6 := heap_alloc_new wd (.cells #[.int .i64 0, .int .u32 0, .int .i64 0, .int .i64 0, .int .u32 0, .int .u32 0, .slice none 0 0, .bool false, .bool false, .bool false, .int .u32 0] 47)
                      have xa : Ext wd (wd.alloc (.cells #[.int .i64 0, .int .u32 0, .int .i64 0, .int .i64 0, .int .u32 0, .int .u32 0, .slice none 0 0, .bool false, .bool false, .bool false, .int .u32 0] 47)) := (Ext.refl wd).alloc _
                      have nw6 : _ ≤ wd.heap.size := hHeld.size
                      have hHeld := hHeld.trans xa
                      first | refine ⟨fun _ => hHeld, ?_⟩ | refine ⟨hHeld, ?_⟩
                      try simp only [Act.put, List.setIfInBounds_toArray, List.set_cons_zero, List.set_cons_succ, List.getElem_toArray, List.getElem_cons_zero, List.getElem_cons_succ]
                      try have b7 := xa.keeps b7
                      try have i1 := i1.ext xa
                      try have i5 := i5.ext xa
                      clear xa
                      generalize wd.heap.size = B6 at *
                      generalize wd.alloc (.cells #[.int .i64 0, .int .u32 0, .int .i64 0, .int .i64 0, .int .u32 0, .int .u32 0, .slice none 0 0, .bool false, .bool false, .bool false, .int .u32 0] 47) = wn at *
                      obtain ⟨wd, rfl⟩ : ∃ x, x = wn := ⟨_, rfl⟩
                      refine G_all (rs := [8]) (by kernel_rfl) (by simp) ?_
                      intro i hi; obtain rfl : i = 8 := by simpa using hi
                      refine wpOp_run rfl (by rfl) ?_
                      refine wp_store_row 47 (.tmp 9) (.tmp 53) rfl B6 #[.int .i64 (shortP x).me, .int .u32 ((shortP x).v.n : Int), .int .i64 (shortP x).v.p, .int .i64 (shortP x).v.b, .int .u32 ((shortP x).base.1 : Int), .int .u32 ((shortP x).base.2 : Int), (.slice a1s (shortP x).log.length c1s), .bool (shortP x).known, .bool (shortP x).joined, .bool (shortP x).instep, .int .u32 ((shortP x).acked : Int)] (by rfl) (by rfl) 47 _ b6 (by kernel_rfl) rfl (pr_one _ _ _ _) ?_
                      have g8 := grown_setRow (w := wd) (g := B6) (c := #[.int .i64 (shortP x).me, .int .u32 ((shortP x).v.n : Int), .int .i64 (shortP x).v.p, .int .i64 (shortP x).v.b, .int .u32 ((shortP x).base.1 : Int), .int .u32 ((shortP x).base.2 : Int), (.slice a1s (shortP x).log.length c1s), .bool (shortP x).known, .bool (shortP x).joined, .bool (shortP x).instep, .int .u32 ((shortP x).acked : Int)])
                      have n6 := setRow_heap _ B6 _ #[.int .i64 (shortP x).me, .int .u32 ((shortP x).v.n : Int), .int .i64 (shortP x).v.p, .int .i64 (shortP x).v.b, .int .u32 ((shortP x).base.1 : Int), .int .u32 ((shortP x).base.2 : Int), (.slice a1s (shortP x).log.length c1s), .bool (shortP x).known, .bool (shortP x).joined, .bool (shortP x).instep, .int .u32 ((shortP x).acked : Int)] _ _ b6
                      have b7 := grown_other g8 b7 (by omega)
                      have i1 := i1.grown g8 b6 (by decide) (by decide)
                      have i5 := i5.grown g8 b6 (by decide) (by decide)
                      have hHeld := hHeld.grown g8 (fun q hq => by cases hq; exact nw6)
                      clear g8 b6
                      generalize wd.setRow B6 #[.int .i64 (shortP x).me, .int .u32 ((shortP x).v.n : Int), .int .i64 (shortP x).v.p, .int .i64 (shortP x).v.b, .int .u32 ((shortP x).base.1 : Int), .int .u32 ((shortP x).base.2 : Int), (.slice a1s (shortP x).log.length c1s), .bool (shortP x).known, .bool (shortP x).joined, .bool (shortP x).instep, .int .u32 ((shortP x).acked : Int)] = wn at *
                      have b6 := n6
                      clear n6
                      obtain ⟨wd, rfl⟩ : ∃ x, x = wn := ⟨_, rfl⟩
                      first | refine ⟨fun _ => hHeld, ?_⟩ | refine ⟨hHeld, ?_⟩ | skip
                      try simp only [Act.put, List.setIfInBounds_toArray, List.set_cons_zero, List.set_cons_succ, List.getElem_toArray, List.getElem_cons_zero, List.getElem_cons_succ]
                      refine G_all (rs := [9]) (by kernel_rfl) (by simp) ?_
                      intro i hi; obtain rfl : i = 9 := by simpa using hi
                      refine wpOp_run rfl (by rfl) ?_
                      refine wp_store_row 47 (.tmp 10) (.tmp 57) rfl B7 #[.int .i64 (shortP y).me, .int .u32 ((shortP y).v.n : Int), .int .i64 (shortP y).v.p, .int .i64 (shortP y).v.b, .int .u32 ((shortP y).base.1 : Int), .int .u32 ((shortP y).base.2 : Int), (.slice a5s (shortP y).log.length c5s), .bool (shortP y).known, .bool (shortP y).joined, .bool (shortP y).instep, .int .u32 ((shortP y).acked : Int)] (by rfl) (by rfl) 47 _ b7 (by kernel_rfl) rfl (pr_one _ _ _ _) ?_
                      try refine ⟨fun e => absurd e (by decide), ?_⟩
                      refine G_free _ _ _ _ (by kernel_rfl) ?_
                      try simp only [Act.put, List.setIfInBounds_toArray, List.set_cons_zero, List.set_cons_succ, List.getElem_toArray, List.getElem_cons_zero, List.getElem_cons_succ]
                      refine wpAny_done (by kernel_rfl) ?_ _
                      refine NoPanic.normal ?_
                      have g9 := grown_setRow (w := wd) (g := B7) (c := #[.int .i64 (shortP y).me, .int .u32 ((shortP y).v.n : Int), .int .i64 (shortP y).v.p, .int .i64 (shortP y).v.b, .int .u32 ((shortP y).base.1 : Int), .int .u32 ((shortP y).base.2 : Int), (.slice a5s (shortP y).log.length c5s), .bool (shortP y).known, .bool (shortP y).joined, .bool (shortP y).instep, .int .u32 ((shortP y).acked : Int)])
                      have n7 := setRow_heap _ B7 _ #[.int .i64 (shortP y).me, .int .u32 ((shortP y).v.n : Int), .int .i64 (shortP y).v.p, .int .i64 (shortP y).v.b, .int .u32 ((shortP y).base.1 : Int), .int .u32 ((shortP y).base.2 : Int), (.slice a5s (shortP y).log.length c5s), .bool (shortP y).known, .bool (shortP y).joined, .bool (shortP y).instep, .int .u32 ((shortP y).acked : Int)] _ _ b7
                      have n6 := grown_other g9 b6 (by omega)
                      have j1 := i1.grown g9 b7 (by decide) (by decide)
                      have j5 := i5.grown g9 b7 (by decide) (by decide)
                      have hh := hHeld.grown g9 (fun q hq => by cases hq; exact nw7)
                      go_wp2_with fail
                      go_meet
                      exact ⟨B6, B7, a1s, c1s, u1, a5s, c5s, u5, rfl, rfl, n6, n7, j1, j5, hh⟩
                  · refine wpOp_run rfl (by rfl) ?_
                    go_simp
                    try have lb76 := block_lt b7
                    have b6 := heap_alloc_new wd (.cells #[.int .i64 0, .int .u32 0, .int .i64 0, .int .i64 0, .int .u32 0, .int .u32 0, .slice none 0 0, .bool false, .bool false, .bool false, .int .u32 0] 47)
                    have xa : Ext wd (wd.alloc (.cells #[.int .i64 0, .int .u32 0, .int .i64 0, .int .i64 0, .int .u32 0, .int .u32 0, .slice none 0 0, .bool false, .bool false, .bool false, .int .u32 0] 47)) := (Ext.refl wd).alloc _
                    have nw6 : _ ≤ wd.heap.size := hHeld.size
                    have hHeld := hHeld.trans xa
                    first | refine ⟨fun _ => hHeld, ?_⟩ | refine ⟨hHeld, ?_⟩
                    try simp only [Act.put, List.setIfInBounds_toArray, List.set_cons_zero, List.set_cons_succ, List.getElem_toArray, List.getElem_cons_zero, List.getElem_cons_succ]
                    try have b7 := xa.keeps b7
                    try have i1 := i1.ext xa
                    try have i5 := i5.ext xa
                    clear xa
                    generalize wd.heap.size = B6 at *
                    generalize wd.alloc (.cells #[.int .i64 0, .int .u32 0, .int .i64 0, .int .i64 0, .int .u32 0, .int .u32 0, .slice none 0 0, .bool false, .bool false, .bool false, .int .u32 0] 47) = wn at *
                    obtain ⟨wd, rfl⟩ : ∃ x, x = wn := ⟨_, rfl⟩
                    refine G_all (rs := [5, 7]) (by kernel_rfl) (by simp) ?_
                    intro i hi; have hi' : i = 5 ∨ i = 7 := by simpa using hi
                    clear hi; rcases hi' with rfl | rfl
                    · refine wpOp_run rfl (by rfl) ?_
                      go_simp
                      refine Calls.mono (lawShort _ _ y ((OY.out.lg.ext HX.out).ext hHeld)) ?_
                      rintro e w5 ⟨v5, u5, rfl, i5, x5⟩
                      have i5 := i5.base hHeld.size
                      obtain ⟨a5s, c5s, rfl⟩ := own_shape i5.own
                      have hHeld := hHeld.trans x5
                      first | refine ⟨fun _ => hHeld, ?_⟩ | refine ⟨hHeld, ?_⟩
                      try simp only [Act.put, List.setIfInBounds_toArray, List.set_cons_zero, List.set_cons_succ, List.getElem_toArray, List.getElem_cons_zero, List.getElem_cons_succ]
                      try have b6 := x5.keeps b6
                      try have b7 := x5.keeps b7
                      try have i1 := i1.ext x5
                      try have i5 := i5.ext x5
                      skip
                      obtain ⟨wd, rfl⟩ : ∃ x, x = w5 := ⟨_, rfl⟩
                      refine G_all (rs := [7]) (by kernel_rfl) (by simp) ?_
                      intro i hi; obtain rfl : i = 7 := by simpa using hi
                      refine wpOp_run rfl (by rfl) ?_
                      go_simp
                      try have lb67 := block_lt b6
                      have b7 := heap_alloc_new wd (.cells #[.int .i64 0, .int .u32 0, .int .i64 0, .int .i64 0, .int .u32 0, .int .u32 0, .slice none 0 0, .bool false, .bool false, .bool false, .int .u32 0] 47)
                      have xa : Ext wd (wd.alloc (.cells #[.int .i64 0, .int .u32 0, .int .i64 0, .int .i64 0, .int .u32 0, .int .u32 0, .slice none 0 0, .bool false, .bool false, .bool false, .int .u32 0] 47)) := (Ext.refl wd).alloc _
                      have nw7 : _ ≤ wd.heap.size := hHeld.size
                      have hHeld := hHeld.trans xa
                      first | refine ⟨fun _ => hHeld, ?_⟩ | refine ⟨hHeld, ?_⟩
                      try simp only [Act.put, List.setIfInBounds_toArray, List.set_cons_zero, List.set_cons_succ, List.getElem_toArray, List.getElem_cons_zero, List.getElem_cons_succ]
                      try have b6 := xa.keeps b6
                      try have i1 := i1.ext xa
                      try have i5 := i5.ext xa
                      clear xa
                      generalize wd.heap.size = B7 at *
                      generalize wd.alloc (.cells #[.int .i64 0, .int .u32 0, .int .i64 0, .int .i64 0, .int .u32 0, .int .u32 0, .slice none 0 0, .bool false, .bool false, .bool false, .int .u32 0] 47) = wn at *
                      obtain ⟨wd, rfl⟩ : ∃ x, x = wn := ⟨_, rfl⟩
                      refine G_all (rs := [8]) (by kernel_rfl) (by simp) ?_
                      intro i hi; obtain rfl : i = 8 := by simpa using hi
                      refine wpOp_run rfl (by rfl) ?_
                      refine wp_store_row 47 (.tmp 9) (.tmp 53) rfl B6 #[.int .i64 (shortP x).me, .int .u32 ((shortP x).v.n : Int), .int .i64 (shortP x).v.p, .int .i64 (shortP x).v.b, .int .u32 ((shortP x).base.1 : Int), .int .u32 ((shortP x).base.2 : Int), (.slice a1s (shortP x).log.length c1s), .bool (shortP x).known, .bool (shortP x).joined, .bool (shortP x).instep, .int .u32 ((shortP x).acked : Int)] (by rfl) (by rfl) 47 _ b6 (by kernel_rfl) rfl (pr_one _ _ _ _) ?_
                      have g8 := grown_setRow (w := wd) (g := B6) (c := #[.int .i64 (shortP x).me, .int .u32 ((shortP x).v.n : Int), .int .i64 (shortP x).v.p, .int .i64 (shortP x).v.b, .int .u32 ((shortP x).base.1 : Int), .int .u32 ((shortP x).base.2 : Int), (.slice a1s (shortP x).log.length c1s), .bool (shortP x).known, .bool (shortP x).joined, .bool (shortP x).instep, .int .u32 ((shortP x).acked : Int)])
                      have n6 := setRow_heap _ B6 _ #[.int .i64 (shortP x).me, .int .u32 ((shortP x).v.n : Int), .int .i64 (shortP x).v.p, .int .i64 (shortP x).v.b, .int .u32 ((shortP x).base.1 : Int), .int .u32 ((shortP x).base.2 : Int), (.slice a1s (shortP x).log.length c1s), .bool (shortP x).known, .bool (shortP x).joined, .bool (shortP x).instep, .int .u32 ((shortP x).acked : Int)] _ _ b6
                      have b7 := grown_other g8 b7 (by omega)
                      have i1 := i1.grown g8 b6 (by decide) (by decide)
                      have i5 := i5.grown g8 b6 (by decide) (by decide)
                      have hHeld := hHeld.grown g8 (fun q hq => by cases hq; exact nw6)
                      clear g8 b6
                      generalize wd.setRow B6 #[.int .i64 (shortP x).me, .int .u32 ((shortP x).v.n : Int), .int .i64 (shortP x).v.p, .int .i64 (shortP x).v.b, .int .u32 ((shortP x).base.1 : Int), .int .u32 ((shortP x).base.2 : Int), (.slice a1s (shortP x).log.length c1s), .bool (shortP x).known, .bool (shortP x).joined, .bool (shortP x).instep, .int .u32 ((shortP x).acked : Int)] = wn at *
                      have b6 := n6
                      clear n6
                      obtain ⟨wd, rfl⟩ : ∃ x, x = wn := ⟨_, rfl⟩
                      first | refine ⟨fun _ => hHeld, ?_⟩ | refine ⟨hHeld, ?_⟩ | skip
                      try simp only [Act.put, List.setIfInBounds_toArray, List.set_cons_zero, List.set_cons_succ, List.getElem_toArray, List.getElem_cons_zero, List.getElem_cons_succ]
                      refine G_all (rs := [9]) (by kernel_rfl) (by simp) ?_
                      intro i hi; obtain rfl : i = 9 := by simpa using hi
                      refine wpOp_run rfl (by rfl) ?_
                      refine wp_store_row 47 (.tmp 10) (.tmp 57) rfl B7 #[.int .i64 (shortP y).me, .int .u32 ((shortP y).v.n : Int), .int .i64 (shortP y).v.p, .int .i64 (shortP y).v.b, .int .u32 ((shortP y).base.1 : Int), .int .u32 ((shortP y).base.2 : Int), (.slice a5s (shortP y).log.length c5s), .bool (shortP y).known, .bool (shortP y).joined, .bool (shortP y).instep, .int .u32 ((shortP y).acked : Int)] (by rfl) (by rfl) 47 _ b7 (by kernel_rfl) rfl (pr_one _ _ _ _) ?_
                      try refine ⟨fun e => absurd e (by decide), ?_⟩
                      refine G_free _ _ _ _ (by kernel_rfl) ?_
                      try simp only [Act.put, List.setIfInBounds_toArray, List.set_cons_zero, List.set_cons_succ, List.getElem_toArray, List.getElem_cons_zero, List.getElem_cons_succ]
                      refine wpAny_done (by kernel_rfl) ?_ _
                      refine NoPanic.normal ?_
                      have g9 := grown_setRow (w := wd) (g := B7) (c := #[.int .i64 (shortP y).me, .int .u32 ((shortP y).v.n : Int), .int .i64 (shortP y).v.p, .int .i64 (shortP y).v.b, .int .u32 ((shortP y).base.1 : Int), .int .u32 ((shortP y).base.2 : Int), (.slice a5s (shortP y).log.length c5s), .bool (shortP y).known, .bool (shortP y).joined, .bool (shortP y).instep, .int .u32 ((shortP y).acked : Int)])
                      have n7 := setRow_heap _ B7 _ #[.int .i64 (shortP y).me, .int .u32 ((shortP y).v.n : Int), .int .i64 (shortP y).v.p, .int .i64 (shortP y).v.b, .int .u32 ((shortP y).base.1 : Int), .int .u32 ((shortP y).base.2 : Int), (.slice a5s (shortP y).log.length c5s), .bool (shortP y).known, .bool (shortP y).joined, .bool (shortP y).instep, .int .u32 ((shortP y).acked : Int)] _ _ b7
                      have n6 := grown_other g9 b6 (by omega)
                      have j1 := i1.grown g9 b7 (by decide) (by decide)
                      have j5 := i5.grown g9 b7 (by decide) (by decide)
                      have hh := hHeld.grown g9 (fun q hq => by cases hq; exact nw7)
                      go_wp2_with fail
                      go_meet
                      exact ⟨B6, B7, a1s, c1s, u1, a5s, c5s, u5, rfl, rfl, n6, n7, j1, j5, hh⟩
                    · refine wpOp_run rfl (by rfl) ?_
                      go_simp
                      try have lb67 := block_lt b6
                      have b7 := heap_alloc_new wd (.cells #[.int .i64 0, .int .u32 0, .int .i64 0, .int .i64 0, .int .u32 0, .int .u32 0, .slice none 0 0, .bool false, .bool false, .bool false, .int .u32 0] 47)
                      have xa : Ext wd (wd.alloc (.cells #[.int .i64 0, .int .u32 0, .int .i64 0, .int .i64 0, .int .u32 0, .int .u32 0, .slice none 0 0, .bool false, .bool false, .bool false, .int .u32 0] 47)) := (Ext.refl wd).alloc _
                      have nw7 : _ ≤ wd.heap.size := hHeld.size
                      have hHeld := hHeld.trans xa
                      first | refine ⟨fun _ => hHeld, ?_⟩ | refine ⟨hHeld, ?_⟩
                      try simp only [Act.put, List.setIfInBounds_toArray, List.set_cons_zero, List.set_cons_succ, List.getElem_toArray, List.getElem_cons_zero, List.getElem_cons_succ]
                      try have b6 := xa.keeps b6
                      try have i1 := i1.ext xa
                      try have i5 := i5.ext xa
                      clear xa
                      generalize wd.heap.size = B7 at *
                      generalize wd.alloc (.cells #[.int .i64 0, .int .u32 0, .int .i64 0, .int .i64 0, .int .u32 0, .int .u32 0, .slice none 0 0, .bool false, .bool false, .bool false, .int .u32 0] 47) = wn at *
                      obtain ⟨wd, rfl⟩ : ∃ x, x = wn := ⟨_, rfl⟩
                      refine G_all (rs := [5]) (by kernel_rfl) (by simp) ?_
                      intro i hi; obtain rfl : i = 5 := by simpa using hi
                      refine wpOp_run rfl (by rfl) ?_
                      go_simp
                      refine Calls.mono (lawShort _ _ y ((OY.out.lg.ext HX.out).ext hHeld)) ?_
                      rintro e w5 ⟨v5, u5, rfl, i5, x5⟩
                      have i5 := i5.base hHeld.size
                      obtain ⟨a5s, c5s, rfl⟩ := own_shape i5.own
                      have hHeld := hHeld.trans x5
                      first | refine ⟨fun _ => hHeld, ?_⟩ | refine ⟨hHeld, ?_⟩
                      try simp only [Act.put, List.setIfInBounds_toArray, List.set_cons_zero, List.set_cons_succ, List.getElem_toArray, List.getElem_cons_zero, List.getElem_cons_succ]
                      try have b6 := x5.keeps b6
                      try have b7 := x5.keeps b7
                      try have i1 := i1.ext x5
                      try have i5 := i5.ext x5
                      skip
                      obtain ⟨wd, rfl⟩ : ∃ x, x = w5 := ⟨_, rfl⟩
                      refine G_all (rs := [8]) (by kernel_rfl) (by simp) ?_
                      intro i hi; obtain rfl : i = 8 := by simpa using hi
                      refine wpOp_run rfl (by rfl) ?_
                      refine wp_store_row 47 (.tmp 9) (.tmp 53) rfl B6 #[.int .i64 (shortP x).me, .int .u32 ((shortP x).v.n : Int), .int .i64 (shortP x).v.p, .int .i64 (shortP x).v.b, .int .u32 ((shortP x).base.1 : Int), .int .u32 ((shortP x).base.2 : Int), (.slice a1s (shortP x).log.length c1s), .bool (shortP x).known, .bool (shortP x).joined, .bool (shortP x).instep, .int .u32 ((shortP x).acked : Int)] (by rfl) (by rfl) 47 _ b6 (by kernel_rfl) rfl (pr_one _ _ _ _) ?_
                      have g8 := grown_setRow (w := wd) (g := B6) (c := #[.int .i64 (shortP x).me, .int .u32 ((shortP x).v.n : Int), .int .i64 (shortP x).v.p, .int .i64 (shortP x).v.b, .int .u32 ((shortP x).base.1 : Int), .int .u32 ((shortP x).base.2 : Int), (.slice a1s (shortP x).log.length c1s), .bool (shortP x).known, .bool (shortP x).joined, .bool (shortP x).instep, .int .u32 ((shortP x).acked : Int)])
                      have n6 := setRow_heap _ B6 _ #[.int .i64 (shortP x).me, .int .u32 ((shortP x).v.n : Int), .int .i64 (shortP x).v.p, .int .i64 (shortP x).v.b, .int .u32 ((shortP x).base.1 : Int), .int .u32 ((shortP x).base.2 : Int), (.slice a1s (shortP x).log.length c1s), .bool (shortP x).known, .bool (shortP x).joined, .bool (shortP x).instep, .int .u32 ((shortP x).acked : Int)] _ _ b6
                      have b7 := grown_other g8 b7 (by omega)
                      have i1 := i1.grown g8 b6 (by decide) (by decide)
                      have i5 := i5.grown g8 b6 (by decide) (by decide)
                      have hHeld := hHeld.grown g8 (fun q hq => by cases hq; exact nw6)
                      clear g8 b6
                      generalize wd.setRow B6 #[.int .i64 (shortP x).me, .int .u32 ((shortP x).v.n : Int), .int .i64 (shortP x).v.p, .int .i64 (shortP x).v.b, .int .u32 ((shortP x).base.1 : Int), .int .u32 ((shortP x).base.2 : Int), (.slice a1s (shortP x).log.length c1s), .bool (shortP x).known, .bool (shortP x).joined, .bool (shortP x).instep, .int .u32 ((shortP x).acked : Int)] = wn at *
                      have b6 := n6
                      clear n6
                      obtain ⟨wd, rfl⟩ : ∃ x, x = wn := ⟨_, rfl⟩
                      first | refine ⟨fun _ => hHeld, ?_⟩ | refine ⟨hHeld, ?_⟩ | skip
                      try simp only [Act.put, List.setIfInBounds_toArray, List.set_cons_zero, List.set_cons_succ, List.getElem_toArray, List.getElem_cons_zero, List.getElem_cons_succ]
                      refine G_all (rs := [9]) (by kernel_rfl) (by simp) ?_
                      intro i hi; obtain rfl : i = 9 := by simpa using hi
                      refine wpOp_run rfl (by rfl) ?_
                      refine wp_store_row 47 (.tmp 10) (.tmp 57) rfl B7 #[.int .i64 (shortP y).me, .int .u32 ((shortP y).v.n : Int), .int .i64 (shortP y).v.p, .int .i64 (shortP y).v.b, .int .u32 ((shortP y).base.1 : Int), .int .u32 ((shortP y).base.2 : Int), (.slice a5s (shortP y).log.length c5s), .bool (shortP y).known, .bool (shortP y).joined, .bool (shortP y).instep, .int .u32 ((shortP y).acked : Int)] (by rfl) (by rfl) 47 _ b7 (by kernel_rfl) rfl (pr_one _ _ _ _) ?_
                      try refine ⟨fun e => absurd e (by decide), ?_⟩
                      refine G_free _ _ _ _ (by kernel_rfl) ?_
                      try simp only [Act.put, List.setIfInBounds_toArray, List.set_cons_zero, List.set_cons_succ, List.getElem_toArray, List.getElem_cons_zero, List.getElem_cons_succ]
                      refine wpAny_done (by kernel_rfl) ?_ _
                      refine NoPanic.normal ?_
                      have g9 := grown_setRow (w := wd) (g := B7) (c := #[.int .i64 (shortP y).me, .int .u32 ((shortP y).v.n : Int), .int .i64 (shortP y).v.p, .int .i64 (shortP y).v.b, .int .u32 ((shortP y).base.1 : Int), .int .u32 ((shortP y).base.2 : Int), (.slice a5s (shortP y).log.length c5s), .bool (shortP y).known, .bool (shortP y).joined, .bool (shortP y).instep, .int .u32 ((shortP y).acked : Int)])
                      have n7 := setRow_heap _ B7 _ #[.int .i64 (shortP y).me, .int .u32 ((shortP y).v.n : Int), .int .i64 (shortP y).v.p, .int .i64 (shortP y).v.b, .int .u32 ((shortP y).base.1 : Int), .int .u32 ((shortP y).base.2 : Int), (.slice a5s (shortP y).log.length c5s), .bool (shortP y).known, .bool (shortP y).joined, .bool (shortP y).instep, .int .u32 ((shortP y).acked : Int)] _ _ b7
                      have n6 := grown_other g9 b6 (by omega)
                      have j1 := i1.grown g9 b7 (by decide) (by decide)
                      have j5 := i5.grown g9 b7 (by decide) (by decide)
                      have hh := hHeld.grown g9 (fun q hq => by cases hq; exact nw7)
                      go_wp2_with fail
                      go_meet
                      exact ⟨B6, B7, a1s, c1s, u1, a5s, c5s, u5, rfl, rfl, n6, n7, j1, j5, hh⟩
                  · refine wpOp_run rfl (by rfl) ?_
                    go_simp
                    try have lb67 := block_lt b6
                    have b7 := heap_alloc_new wd (.cells #[.int .i64 0, .int .u32 0, .int .i64 0, .int .i64 0, .int .u32 0, .int .u32 0, .slice none 0 0, .bool false, .bool false, .bool false, .int .u32 0] 47)
                    have xa : Ext wd (wd.alloc (.cells #[.int .i64 0, .int .u32 0, .int .i64 0, .int .i64 0, .int .u32 0, .int .u32 0, .slice none 0 0, .bool false, .bool false, .bool false, .int .u32 0] 47)) := (Ext.refl wd).alloc _
                    have nw7 : _ ≤ wd.heap.size := hHeld.size
                    have hHeld := hHeld.trans xa
                    first | refine ⟨fun _ => hHeld, ?_⟩ | refine ⟨hHeld, ?_⟩
                    try simp only [Act.put, List.setIfInBounds_toArray, List.set_cons_zero, List.set_cons_succ, List.getElem_toArray, List.getElem_cons_zero, List.getElem_cons_succ]
                    try have b6 := xa.keeps b6
                    try have i1 := i1.ext xa
                    try have i5 := i5.ext xa
                    clear xa
                    generalize wd.heap.size = B7 at *
                    generalize wd.alloc (.cells #[.int .i64 0, .int .u32 0, .int .i64 0, .int .i64 0, .int .u32 0, .int .u32 0, .slice none 0 0, .bool false, .bool false, .bool false, .int .u32 0] 47) = wn at *
                    obtain ⟨wd, rfl⟩ : ∃ x, x = wn := ⟨_, rfl⟩
                    refine G_all (rs := [5, 6]) (by kernel_rfl) (by simp) ?_
                    intro i hi; have hi' : i = 5 ∨ i = 6 := by simpa using hi
                    clear hi; rcases hi' with rfl | rfl
                    · refine wpOp_run rfl (by rfl) ?_
                      go_simp
                      refine Calls.mono (lawShort _ _ y ((OY.out.lg.ext HX.out).ext hHeld)) ?_
                      rintro e w5 ⟨v5, u5, rfl, i5, x5⟩
                      have i5 := i5.base hHeld.size
                      obtain ⟨a5s, c5s, rfl⟩ := own_shape i5.own
                      have hHeld := hHeld.trans x5
                      first | refine ⟨fun _ => hHeld, ?_⟩ | refine ⟨hHeld, ?_⟩
                      try simp only [Act.put, List.setIfInBounds_toArray, List.set_cons_zero, List.set_cons_succ, List.getElem_toArray, List.getElem_cons_zero, List.getElem_cons_succ]
                      try have b6 := x5.keeps b6
                      try have b7 := x5.keeps b7
                      try have i1 := i1.ext x5
                      try have i5 := i5.ext x5
                      skip
                      obtain ⟨wd, rfl⟩ : ∃ x, x = w5 := ⟨_, rfl⟩
                      refine G_all (rs := [6]) (by kernel_rfl) (by simp) ?_
                      intro i hi; obtain rfl : i = 6 := by simpa using hi
                      refine wpOp_run rfl (by rfl) ?_
                      go_simp
                      try have lb76 := block_lt b7
                      have b6 := heap_alloc_new wd (.cells #[.int .i64 0, .int .u32 0, .int .i64 0, .int .i64 0, .int .u32 0, .int .u32 0, .slice none 0 0, .bool false, .bool false, .bool false, .int .u32 0] 47)
                      have xa : Ext wd (wd.alloc (.cells #[.int .i64 0, .int .u32 0, .int .i64 0, .int .i64 0, .int .u32 0, .int .u32 0, .slice none 0 0, .bool false, .bool false, .bool false, .int .u32 0] 47)) := (Ext.refl wd).alloc _
                      have nw6 : _ ≤ wd.heap.size := hHeld.size
                      have hHeld := hHeld.trans xa
                      first | refine ⟨fun _ => hHeld, ?_⟩ | refine ⟨hHeld, ?_⟩
                      try simp only [Act.put, List.setIfInBounds_toArray, List.set_cons_zero, List.set_cons_succ, List.getElem_toArray, List.getElem_cons_zero, List.getElem_cons_succ]
                      try have b7 := xa.keeps b7
                      try have i1 := i1.ext xa
                      try have i5 := i5.ext xa
                      clear xa
                      generalize wd.heap.size = B6 at *
                      generalize wd.alloc (.cells #[.int .i64 0, .int .u32 0, .int .i64 0, .int .i64 0, .int .u32 0, .int .u32 0, .slice none 0 0, .bool false, .bool false, .bool false, .int .u32 0] 47) = wn at *
                      obtain ⟨wd, rfl⟩ : ∃ x, x = wn := ⟨_, rfl⟩
                      refine G_all (rs := [8]) (by kernel_rfl) (by simp) ?_
                      intro i hi; obtain rfl : i = 8 := by simpa using hi
                      refine wpOp_run rfl (by rfl) ?_
                      refine wp_store_row 47 (.tmp 9) (.tmp 53) rfl B6 #[.int .i64 (shortP x).me, .int .u32 ((shortP x).v.n : Int), .int .i64 (shortP x).v.p, .int .i64 (shortP x).v.b, .int .u32 ((shortP x).base.1 : Int), .int .u32 ((shortP x).base.2 : Int), (.slice a1s (shortP x).log.length c1s), .bool (shortP x).known, .bool (shortP x).joined, .bool (shortP x).instep, .int .u32 ((shortP x).acked : Int)] (by rfl) (by rfl) 47 _ b6 (by kernel_rfl) rfl (pr_one _ _ _ _) ?_
                      have g8 := grown_setRow (w := wd) (g := B6) (c := #[.int .i64 (shortP x).me, .int .u32 ((shortP x).v.n : Int), .int .i64 (shortP x).v.p, .int .i64 (shortP x).v.b, .int .u32 ((shortP x).base.1 : Int), .int .u32 ((shortP x).base.2 : Int), (.slice a1s (shortP x).log.length c1s), .bool (shortP x).known, .bool (shortP x).joined, .bool (shortP x).instep, .int .u32 ((shortP x).acked : Int)])
                      have n6 := setRow_heap _ B6 _ #[.int .i64 (shortP x).me, .int .u32 ((shortP x).v.n : Int), .int .i64 (shortP x).v.p, .int .i64 (shortP x).v.b, .int .u32 ((shortP x).base.1 : Int), .int .u32 ((shortP x).base.2 : Int), (.slice a1s (shortP x).log.length c1s), .bool (shortP x).known, .bool (shortP x).joined, .bool (shortP x).instep, .int .u32 ((shortP x).acked : Int)] _ _ b6
                      have b7 := grown_other g8 b7 (by omega)
                      have i1 := i1.grown g8 b6 (by decide) (by decide)
                      have i5 := i5.grown g8 b6 (by decide) (by decide)
                      have hHeld := hHeld.grown g8 (fun q hq => by cases hq; exact nw6)
                      clear g8 b6
                      generalize wd.setRow B6 #[.int .i64 (shortP x).me, .int .u32 ((shortP x).v.n : Int), .int .i64 (shortP x).v.p, .int .i64 (shortP x).v.b, .int .u32 ((shortP x).base.1 : Int), .int .u32 ((shortP x).base.2 : Int), (.slice a1s (shortP x).log.length c1s), .bool (shortP x).known, .bool (shortP x).joined, .bool (shortP x).instep, .int .u32 ((shortP x).acked : Int)] = wn at *
                      have b6 := n6
                      clear n6
                      obtain ⟨wd, rfl⟩ : ∃ x, x = wn := ⟨_, rfl⟩
                      first | refine ⟨fun _ => hHeld, ?_⟩ | refine ⟨hHeld, ?_⟩ | skip
                      try simp only [Act.put, List.setIfInBounds_toArray, List.set_cons_zero, List.set_cons_succ, List.getElem_toArray, List.getElem_cons_zero, List.getElem_cons_succ]
                      refine G_all (rs := [9]) (by kernel_rfl) (by simp) ?_
                      intro i hi; obtain rfl : i = 9 := by simpa using hi
                      refine wpOp_run rfl (by rfl) ?_
                      refine wp_store_row 47 (.tmp 10) (.tmp 57) rfl B7 #[.int .i64 (shortP y).me, .int .u32 ((shortP y).v.n : Int), .int .i64 (shortP y).v.p, .int .i64 (shortP y).v.b, .int .u32 ((shortP y).base.1 : Int), .int .u32 ((shortP y).base.2 : Int), (.slice a5s (shortP y).log.length c5s), .bool (shortP y).known, .bool (shortP y).joined, .bool (shortP y).instep, .int .u32 ((shortP y).acked : Int)] (by rfl) (by rfl) 47 _ b7 (by kernel_rfl) rfl (pr_one _ _ _ _) ?_
                      try refine ⟨fun e => absurd e (by decide), ?_⟩
                      refine G_free _ _ _ _ (by kernel_rfl) ?_
                      try simp only [Act.put, List.setIfInBounds_toArray, List.set_cons_zero, List.set_cons_succ, List.getElem_toArray, List.getElem_cons_zero, List.getElem_cons_succ]
                      refine wpAny_done (by kernel_rfl) ?_ _
                      refine NoPanic.normal ?_
                      have g9 := grown_setRow (w := wd) (g := B7) (c := #[.int .i64 (shortP y).me, .int .u32 ((shortP y).v.n : Int), .int .i64 (shortP y).v.p, .int .i64 (shortP y).v.b, .int .u32 ((shortP y).base.1 : Int), .int .u32 ((shortP y).base.2 : Int), (.slice a5s (shortP y).log.length c5s), .bool (shortP y).known, .bool (shortP y).joined, .bool (shortP y).instep, .int .u32 ((shortP y).acked : Int)])
                      have n7 := setRow_heap _ B7 _ #[.int .i64 (shortP y).me, .int .u32 ((shortP y).v.n : Int), .int .i64 (shortP y).v.p, .int .i64 (shortP y).v.b, .int .u32 ((shortP y).base.1 : Int), .int .u32 ((shortP y).base.2 : Int), (.slice a5s (shortP y).log.length c5s), .bool (shortP y).known, .bool (shortP y).joined, .bool (shortP y).instep, .int .u32 ((shortP y).acked : Int)] _ _ b7
                      have n6 := grown_other g9 b6 (by omega)
                      have j1 := i1.grown g9 b7 (by decide) (by decide)
                      have j5 := i5.grown g9 b7 (by decide) (by decide)
                      have hh := hHeld.grown g9 (fun q hq => by cases hq; exact nw7)
                      go_wp2_with fail
                      go_meet
                      exact ⟨B6, B7, a1s, c1s, u1, a5s, c5s, u5, rfl, rfl, n6, n7, j1, j5, hh⟩
                    · refine wpOp_run rfl (by rfl) ?_
                      go_simp
                      try have lb76 := block_lt b7
                      have b6 := heap_alloc_new wd (.cells #[.int .i64 0, .int .u32 0, .int .i64 0, .int .i64 0, .int .u32 0, .int .u32 0, .slice none 0 0, .bool false, .bool false, .bool false, .int .u32 0] 47)
                      have xa : Ext wd (wd.alloc (.cells #[.int .i64 0, .int .u32 0, .int .i64 0, .int .i64 0, .int .u32 0, .int .u32 0, .slice none 0 0, .bool false, .bool false, .bool false, .int .u32 0] 47)) := (Ext.refl wd).alloc _
                      have nw6 : _ ≤ wd.heap.size := hHeld.size
                      have hHeld := hHeld.trans xa
                      first | refine ⟨fun _ => hHeld, ?_⟩ | refine ⟨hHeld, ?_⟩
                      try simp only [Act.put, List.setIfInBounds_toArray, List.set_cons_zero, List.set_cons_succ, List.getElem_toArray, List.getElem_cons_zero, List.getElem_cons_succ]
                      try have b7 := xa.keeps b7
                      try have i1 := i1.ext xa
                      try have i5 := i5.ext xa
                      clear xa
                      generalize wd.heap.size = B6 at *
                      generalize wd.alloc (.cells #[.int .i64 0, .int .u32 0, .int .i64 0, .int .i64 0, .int .u32 0, .int .u32 0, .slice none 0 0, .bool false, .bool false, .bool false, .int .u32 0] 47) = wn at *
                      obtain ⟨wd, rfl⟩ : ∃ x, x = wn := ⟨_, rfl⟩
                      refine G_all (rs := [5]) (by kernel_rfl) (by simp) ?_
                      intro i hi; obtain rfl : i = 5 := by simpa using hi
                      refine wpOp_run rfl (by rfl) ?_
                      go_simp
                      refine Calls.mono (lawShort _ _ y ((OY.out.lg.ext HX.out).ext hHeld)) ?_
                      rintro e w5 ⟨v5, u5, rfl, i5, x5⟩
                      have i5 := i5.base hHeld.size
                      obtain ⟨a5s, c5s, rfl⟩ := own_shape i5.own
                      have hHeld := hHeld.trans x5
                      first | refine ⟨fun _ => hHeld, ?_⟩ | refine ⟨hHeld, ?_⟩
                      try simp only [Act.put, List.setIfInBounds_toArray, List.set_cons_zero, List.set_cons_succ, List.getElem_toArray, List.getElem_cons_zero, List.getElem_cons_succ]
                      try have b6 := x5.keeps b6
                      try have b7 := x5.keeps b7
                      try have i1 := i1.ext x5
                      try have i5 := i5.ext x5
                      skip
                      obtain ⟨wd, rfl⟩ : ∃ x, x = w5 := ⟨_, rfl⟩
                      refine G_all (rs := [8]) (by kernel_rfl) (by simp) ?_
                      intro i hi; obtain rfl : i = 8 := by simpa using hi
                      refine wpOp_run rfl (by rfl) ?_
                      refine wp_store_row 47 (.tmp 9) (.tmp 53) rfl B6 #[.int .i64 (shortP x).me, .int .u32 ((shortP x).v.n : Int), .int .i64 (shortP x).v.p, .int .i64 (shortP x).v.b, .int .u32 ((shortP x).base.1 : Int), .int .u32 ((shortP x).base.2 : Int), (.slice a1s (shortP x).log.length c1s), .bool (shortP x).known, .bool (shortP x).joined, .bool (shortP x).instep, .int .u32 ((shortP x).acked : Int)] (by rfl) (by rfl) 47 _ b6 (by kernel_rfl) rfl (pr_one _ _ _ _) ?_
                      have g8 := grown_setRow (w := wd) (g := B6) (c := #[.int .i64 (shortP x).me, .int .u32 ((shortP x).v.n : Int), .int .i64 (shortP x).v.p, .int .i64 (shortP x).v.b, .int .u32 ((shortP x).base.1 : Int), .int .u32 ((shortP x).base.2 : Int), (.slice a1s (shortP x).log.length c1s), .bool (shortP x).known, .bool (shortP x).joined, .bool (shortP x).instep, .int .u32 ((shortP x).acked : Int)])
                      have n6 := setRow_heap _ B6 _ #[.int .i64 (shortP x).me, .int .u32 ((shortP x).v.n : Int), .int .i64 (shortP x).v.p, .int .i64 (shortP x).v.b, .int .u32 ((shortP x).base.1 : Int), .int .u32 ((shortP x).base.2 : Int), (.slice a1s (shortP x).log.length c1s), .bool (shortP x).known, .bool (shortP x).joined, .bool (shortP x).instep, .int .u32 ((shortP x).acked : Int)] _ _ b6
                      have b7 := grown_other g8 b7 (by omega)
                      have i1 := i1.grown g8 b6 (by decide) (by decide)
                      have i5 := i5.grown g8 b6 (by decide) (by decide)
                      have hHeld := hHeld.grown g8 (fun q hq => by cases hq; exact nw6)
                      clear g8 b6
                      generalize wd.setRow B6 #[.int .i64 (shortP x).me, .int .u32 ((shortP x).v.n : Int), .int .i64 (shortP x).v.p, .int .i64 (shortP x).v.b, .int .u32 ((shortP x).base.1 : Int), .int .u32 ((shortP x).base.2 : Int), (.slice a1s (shortP x).log.length c1s), .bool (shortP x).known, .bool (shortP x).joined, .bool (shortP x).instep, .int .u32 ((shortP x).acked : Int)] = wn at *
                      have b6 := n6
                      clear n6
                      obtain ⟨wd, rfl⟩ : ∃ x, x = wn := ⟨_, rfl⟩
                      first | refine ⟨fun _ => hHeld, ?_⟩ | refine ⟨hHeld, ?_⟩ | skip
                      try simp only [Act.put, List.setIfInBounds_toArray, List.set_cons_zero, List.set_cons_succ, List.getElem_toArray, List.getElem_cons_zero, List.getElem_cons_succ]
                      refine G_all (rs := [9]) (by kernel_rfl) (by simp) ?_
                      intro i hi; obtain rfl : i = 9 := by simpa using hi
                      refine wpOp_run rfl (by rfl) ?_
                      refine wp_store_row 47 (.tmp 10) (.tmp 57) rfl B7 #[.int .i64 (shortP y).me, .int .u32 ((shortP y).v.n : Int), .int .i64 (shortP y).v.p, .int .i64 (shortP y).v.b, .int .u32 ((shortP y).base.1 : Int), .int .u32 ((shortP y).base.2 : Int), (.slice a5s (shortP y).log.length c5s), .bool (shortP y).known, .bool (shortP y).joined, .bool (shortP y).instep, .int .u32 ((shortP y).acked : Int)] (by rfl) (by rfl) 47 _ b7 (by kernel_rfl) rfl (pr_one _ _ _ _) ?_
                      try refine ⟨fun e => absurd e (by decide), ?_⟩
                      refine G_free _ _ _ _ (by kernel_rfl) ?_
                      try simp only [Act.put, List.setIfInBounds_toArray, List.set_cons_zero, List.set_cons_succ, List.getElem_toArray, List.getElem_cons_zero, List.getElem_cons_succ]
                      refine wpAny_done (by kernel_rfl) ?_ _
                      refine NoPanic.normal ?_
                      have g9 := grown_setRow (w := wd) (g := B7) (c := #[.int .i64 (shortP y).me, .int .u32 ((shortP y).v.n : Int), .int .i64 (shortP y).v.p, .int .i64 (shortP y).v.b, .int .u32 ((shortP y).base.1 : Int), .int .u32 ((shortP y).base.2 : Int), (.slice a5s (shortP y).log.length c5s), .bool (shortP y).known, .bool (shortP y).joined, .bool (shortP y).instep, .int .u32 ((shortP y).acked : Int)])
                      have n7 := setRow_heap _ B7 _ #[.int .i64 (shortP y).me, .int .u32 ((shortP y).v.n : Int), .int .i64 (shortP y).v.p, .int .i64 (shortP y).v.b, .int .u32 ((shortP y).base.1 : Int), .int .u32 ((shortP y).base.2 : Int), (.slice a5s (shortP y).log.length c5s), .bool (shortP y).known, .bool (shortP y).joined, .bool (shortP y).instep, .int .u32 ((shortP y).acked : Int)] _ _ b7
                      have n6 := grown_other g9 b6 (by omega)
                      have j1 := i1.grown g9 b7 (by decide) (by decide)
                      have j5 := i5.grown g9 b7 (by decide) (by decide)
                      have hh := hHeld.grown g9 (fun q hq => by cases hq; exact nw7)
                      go_wp2_with fail
                      go_meet
                      exact ⟨B6, B7, a1s, c1s, u1, a5s, c5s, u5, rfl, rfl, n6, n7, j1, j5, hh⟩
                · refine wpOp_run rfl (by rfl) ?_
                  go_simp
                  try have lb76 := block_lt b7
                  have b6 := heap_alloc_new wd (.cells #[.int .i64 0, .int .u32 0, .int .i64 0, .int .i64 0, .int .u32 0, .int .u32 0, .slice none 0 0, .bool false, .bool false, .bool false, .int .u32 0] 47)
                  have xa : Ext wd (wd.alloc (.cells #[.int .i64 0, .int .u32 0, .int .i64 0, .int .i64 0, .int .u32 0, .int .u32 0, .slice none 0 0, .bool false, .bool false, .bool false, .int .u32 0] 47)) := (Ext.refl wd).alloc _
                  have nw6 : _ ≤ wd.heap.size := hHeld.size
                  have hHeld := hHeld.trans xa
                  first | refine ⟨fun _ => hHeld, ?_⟩ | refine ⟨hHeld, ?_⟩
                  try simp only [Act.put, List.setIfInBounds_toArray, List.set_cons_zero, List.set_cons_succ, List.getElem_toArray, List.getElem_cons_zero, List.getElem_cons_succ]
                  try have b7 := xa.keeps b7
                  try have i1 := i1.ext xa
                  try have i5 := i5.ext xa
                  clear xa
                  generalize wd.heap.size = B6 at *
                  generalize wd.alloc (.cells #[.int .i64 0, .int .u32 0, .int .i64 0, .int .i64 0, .int .u32 0, .int .u32 0, .slice none 0 0, .bool false, .bool false, .bool false, .int .u32 0] 47) = wn at *
                  obtain ⟨wd, rfl⟩ : ∃ x, x = wn := ⟨_, rfl⟩
                  refine G_all (rs := [1, 7]) (by kernel_rfl) (by simp) ?_
                  intro i hi; have hi' : i = 1 ∨ i = 7 := by simpa using hi
                  clear hi; rcases hi' with rfl | rfl
                  · refine wpOp_run rfl (by rfl) ?_
                    go_simp
                    refine Calls.mono (lawShort _ _ x ((OX.out.lg.ext HX.out).ext hHeld)) ?_
                    rintro e w1 ⟨v1, u1, rfl, i1, x1⟩
                    have i1 := i1.base hHeld.size
                    obtain ⟨a1s, c1s, rfl⟩ := own_shape i1.own
                    have hHeld := hHeld.trans x1
                    first | refine ⟨fun _ => hHeld, ?_⟩ | refine ⟨hHeld, ?_⟩
                    try simp only [Act.put, List.setIfInBounds_toArray, List.set_cons_zero, List.set_cons_succ, List.getElem_toArray, List.getElem_cons_zero, List.getElem_cons_succ]
                    try have b6 := x1.keeps b6
                    try have b7 := x1.keeps b7
                    try have i1 := i1.ext x1
                    try have i5 := i5.ext x1
                    skip
                    obtain ⟨wd, rfl⟩ : ∃ x, x = w1 := ⟨_, rfl⟩
                    refine G_all (rs := [5, 7]) (by kernel_rfl) (by simp) ?_
                    intro i hi; have hi' : i = 5 ∨ i = 7 := by simpa using hi
                    clear hi; rcases hi' with rfl | rfl
                    · refine wpOp_run rfl (by rfl) ?_
                      go_simp
                      refine Calls.mono (lawShort _ _ y ((OY.out.lg.ext HX.out).ext hHeld)) ?_
                      rintro e w5 ⟨v5, u5, rfl, i5, x5⟩
                      have i5 := i5.base hHeld.size
                      obtain ⟨a5s, c5s, rfl⟩ := own_shape i5.own
                      have hHeld := hHeld.trans x5
                      first | refine ⟨fun _ => hHeld, ?_⟩ | refine ⟨hHeld, ?_⟩
                      try simp only [Act.put, List.setIfInBounds_toArray, List.set_cons_zero, List.set_cons_succ, List.getElem_toArray, List.getElem_cons_zero, List.getElem_cons_succ]
                      try have b6 := x5.keeps b6
                      try have b7 := x5.keeps b7
                      try have i1 := i1.ext x5
                      try have i5 := i5.ext x5
                      skip
                      obtain ⟨wd, rfl⟩ : ∃ x, x = w5 := ⟨_, rfl⟩
                      refine G_all (rs := [7]) (by kernel_rfl) (by simp) ?_
                      intro i hi; obtain rfl : i = 7 := by simpa using hi
                      refine wpOp_run rfl (by rfl) ?_
                      go_simp
                      try have lb67 := block_lt b6
                      have b7 := heap_alloc_new wd (.cells #[.int .i64 0, .int .u32 0, .int .i64 0, .int .i64 0, .int .u32 0, .int .u32 0, .slice none 0 0, .bool false, .bool false, .bool false, .int .u32 0] 47)
                      have xa : Ext wd (wd.alloc (.cells #[.int .i64 0, .int .u32 0, .int .i64 0, .int .i64 0, .int .u32 0, .int .u32 0, .slice none 0 0, .bool false, .bool false, .bool false, .int .u32 0] 47)) := (Ext.refl wd).alloc _
                      have nw7 : _ ≤ wd.heap.size := hHeld.size
                      have hHeld := hHeld.trans xa
                      first | refine ⟨fun _ => hHeld, ?_⟩ | refine ⟨hHeld, ?_⟩
                      try simp only [Act.put, List.setIfInBounds_toArray, List.set_cons_zero, List.set_cons_succ, List.getElem_toArray, List.getElem_cons_zero, List.getElem_cons_succ]
                      try have b6 := xa.keeps b6
                      try have i1 := i1.ext xa
                      try have i5 := i5.ext xa
                      clear xa
                      generalize wd.heap.size = B7 at *
                      generalize wd.alloc (.cells #[.int .i64 0, .int .u32 0, .int .i64 0, .int .i64 0, .int .u32 0, .int .u32 0, .slice none 0 0, .bool false, .bool false, .bool false, .int .u32 0] 47) = wn at *
                      obtain ⟨wd, rfl⟩ : ∃ x, x = wn := ⟨_, rfl⟩
                      refine G_all (rs := [8]) (by kernel_rfl) (by simp) ?_
                      intro i hi; obtain rfl : i = 8 := by simpa using hi
                      refine wpOp_run rfl (by rfl) ?_
                      refine wp_store_row 47 (.tmp 9) (.tmp 53) rfl B6 #[.int .i64 (shortP x).me, .int .u32 ((shortP x).v.n : Int), .int .i64 (shortP x).v.p, .int .i64 (shortP x).v.b, .int .u32 ((shortP x).base.1 : Int), .int .u32 ((shortP x).base.2 : Int), (.slice a1s (shortP x).log.length c1s), .bool (shortP x).known, .bool (shortP x).joined, .bool (shortP x).instep, .int .u32 ((shortP x).acked : Int)] (by rfl) (by rfl) 47 _ b6 (by kernel_rfl) rfl (pr_one _ _ _ _) ?_
                      have g8 := grown_setRow (w := wd) (g := B6) (c := #[.int .i64 (shortP x).me, .int .u32 ((shortP x).v.n : Int), .int .i64 (shortP x).v.p, .int .i64 (shortP x).v.b, .int .u32 ((shortP x).base.1 : Int), .int .u32 ((shortP x).base.2 : Int), (.slice a1s (shortP x).log.length c1s), .bool (shortP x).known, .bool (shortP x).joined, .bool (shortP x).instep, .int .u32 ((shortP x).acked : Int)])
                      have n6 := setRow_heap _ B6 _ #[.int .i64 (shortP x).me, .int .u32 ((shortP x).v.n : Int), .int .i64 (shortP x).v.p, .int .i64 (shortP x).v.b, .int .u32 ((shortP x).base.1 : Int), .int .u32 ((shortP x).base.2 : Int), (.slice a1s (shortP x).log.length c1s), .bool (shortP x).known, .bool (shortP x).joined, .bool (shortP x).instep, .int .u32 ((shortP x).acked : Int)] _ _ b6
                      have b7 := grown_other g8 b7 (by omega)
                      have i1 := i1.grown g8 b6 (by decide) (by decide)
                      have i5 := i5.grown g8 b6 (by decide) (by decide)
                      have hHeld := hHeld.grown g8 (fun q hq => by cases hq; exact nw6)
                      clear g8 b6
                      generalize wd.setRow B6 #[.int .i64 (shortP x).me, .int .u32 ((shortP x).v.n : Int), .int .i64 (shortP x).v.p, .int .i64 (shortP x).v.b, .int .u32 ((shortP x).base.1 : Int), .int .u32 ((shortP x).base.2 : Int), (.slice a1s (shortP x).log.length c1s), .bool (shortP x).known, .bool (shortP x).joined, .bool (shortP x).instep, .int .u32 ((shortP x).acked : Int)] = wn at *
                      have b6 := n6
                      clear n6
                      obtain ⟨wd, rfl⟩ : ∃ x, x = wn := ⟨_, rfl⟩
                      first | refine ⟨fun _ => hHeld, ?_⟩ | refine ⟨hHeld, ?_⟩ | skip
                      try simp only [Act.put, List.setIfInBounds_toArray, List.set_cons_zero, List.set_cons_succ, List.getElem_toArray, List.getElem_cons_zero, List.getElem_cons_succ]
                      refine G_all (rs := [9]) (by kernel_rfl) (by simp) ?_
                      intro i hi; obtain rfl : i = 9 := by simpa using hi
                      refine wpOp_run rfl (by rfl) ?_
                      refine wp_store_row 47 (.tmp 10) (.tmp 57) rfl B7 #[.int .i64 (shortP y).me, .int .u32 ((shortP y).v.n : Int), .int .i64 (shortP y).v.p, .int .i64 (shortP y).v.b, .int .u32 ((shortP y).base.1 : Int), .int .u32 ((shortP y).base.2 : Int), (.slice a5s (shortP y).log.length c5s), .bool (shortP y).known, .bool (shortP y).joined, .bool (shortP y).instep, .int .u32 ((shortP y).acked : Int)] (by rfl) (by rfl) 47 _ b7 (by kernel_rfl) rfl (pr_one _ _ _ _) ?_
                      try refine ⟨fun e => absurd e (by decide), ?_⟩
                      refine G_free _ _ _ _ (by kernel_rfl) ?_
                      try simp only [Act.put, List.setIfInBounds_toArray, List.set_cons_zero, List.set_cons_succ, List.getElem_toArray, List.getElem_cons_zero, List.getElem_cons_succ]
                      refine wpAny_done (by kernel_rfl) ?_ _
                      refine NoPanic.normal ?_
                      have g9 := grown_setRow (w := wd) (g := B7) (c := #[.int .i64 (shortP y).me, .int .u32 ((shortP y).v.n : Int), .int .i64 (shortP y).v.p, .int .i64 (shortP y).v.b, .int .u32 ((shortP y).base.1 : Int), .int .u32 ((shortP y).base.2 : Int), (.slice a5s (shortP y).log.length c5s), .bool (shortP y).known, .bool (shortP y).joined, .bool (shortP y).instep, .int .u32 ((shortP y).acked : Int)])
                      have n7 := setRow_heap _ B7 _ #[.int .i64 (shortP y).me, .int .u32 ((shortP y).v.n : Int), .int .i64 (shortP y).v.p, .int .i64 (shortP y).v.b, .int .u32 ((shortP y).base.1 : Int), .int .u32 ((shortP y).base.2 : Int), (.slice a5s (shortP y).log.length c5s), .bool (shortP y).known, .bool (shortP y).joined, .bool (shortP y).instep, .int .u32 ((shortP y).acked : Int)] _ _ b7
                      have n6 := grown_other g9 b6 (by omega)
                      have j1 := i1.grown g9 b7 (by decide) (by decide)
                      have j5 := i5.grown g9 b7 (by decide) (by decide)
                      have hh := hHeld.grown g9 (fun q hq => by cases hq; exact nw7)
                      go_wp2_with fail
                      go_meet
                      exact ⟨B6, B7, a1s, c1s, u1, a5s, c5s, u5, rfl, rfl, n6, n7, j1, j5, hh⟩
                    · refine wpOp_run rfl (by rfl) ?_
                      go_simp
                      try have lb67 := block_lt b6
                      have b7 := heap_alloc_new wd (.cells #[.int .i64 0, .int .u32 0, .int .i64 0, .int .i64 0, .int .u32 0, .int .u32 0, .slice none 0 0, .bool false, .bool false, .bool false, .int .u32 0] 47)
                      have xa : Ext wd (wd.alloc (.cells #[.int .i64 0, .int .u32 0, .int .i64 0, .int .i64 0, .int .u32 0, .int .u32 0, .slice none 0 0, .bool false, .bool false, .bool false, .int .u32 0] 47)) := (Ext.refl wd).alloc _
                      have nw7 : _ ≤ wd.heap.size := hHeld.size
                      have hHeld := hHeld.trans xa
                      first | refine ⟨fun _ => hHeld, ?_⟩ | refine ⟨hHeld, ?_⟩
                      try simp only [Act.put, List.setIfInBounds_toArray, List.set_cons_zero, List.set_cons_succ, List.getElem_toArray, List.getElem_cons_zero, List.getElem_cons_succ]
                      try have b6 := xa.keeps b6
                      try have i1 := i1.ext xa
                      try have i5 := i5.ext xa
                      clear xa
                      generalize wd.heap.size = B7 at *
                      generalize wd.alloc (.cells #[.int .i64 0, .int .u32 0, .int .i64 0, .int .i64 0, .int .u32 0, .int .u32 0, .slice none 0 0, .bool false, .bool false, .bool false, .int .u32 0] 47) = wn at *
                      obtain ⟨wd, rfl⟩ : ∃ x, x = wn := ⟨_, rfl⟩
                      refine G_all (rs := [5]) (by kernel_rfl) (by simp) ?_
                      intro i hi; obtain rfl : i = 5 := by simpa using hi
                      refine wpOp_run rfl (by rfl) ?_
                      go_simp
                      refine Calls.mono (lawShort _ _ y ((OY.out.lg.ext HX.out).ext hHeld)) ?_
                      rintro e w5 ⟨v5, u5, rfl, i5, x5⟩
                      have i5 := i5.base hHeld.size
                      obtain ⟨a5s, c5s, rfl⟩ := own_shape i5.own
                      have hHeld := hHeld.trans x5
                      first | refine ⟨fun _ => hHeld, ?_⟩ | refine ⟨hHeld, ?_⟩
                      try simp only [Act.put, List.setIfInBounds_toArray, List.set_cons_zero, List.set_cons_succ, List.getElem_toArray, List.getElem_cons_zero, List.getElem_cons_succ]
                      try have b6 := x5.keeps b6
                      try have b7 := x5.keeps b7
                      try have i1 := i1.ext x5
                      try have i5 := i5.ext x5
                      skip
                      obtain ⟨wd, rfl⟩ : ∃ x, x = w5 := ⟨_, rfl⟩
                      refine G_all (rs := [8]) (by kernel_rfl) (by simp) ?_
                      intro i hi; obtain rfl : i = 8 := by simpa using hi
                      refine wpOp_run rfl (by rfl) ?_
                      refine wp_store_row 47 (.tmp 9) (.tmp 53) rfl B6 #[.int .i64 (shortP x).me, .int .u32 ((shortP x).v.n : Int), .int .i64 (shortP x).v.p, .int .i64 (shortP x).v.b, .int .u32 ((shortP x).base.1 : Int), .int .u32 ((shortP x).base.2 : Int), (.slice a1s (shortP x).log.length c1s), .bool (shortP x).known, .bool (shortP x).joined, .bool (shortP x).instep, .int .u32 ((shortP x).acked : Int)] (by rfl) (by rfl) 47 _ b6 (by kernel_rfl) rfl (pr_one _ _ _ _) ?_
                      have g8 := grown_setRow (w := wd) (g := B6) (c := #[.int .i64 (shortP x).me, .int .u32 ((shortP x).v.n : Int), .int .i64 (shortP x).v.p, .int .i64 (shortP x).v.b, .int .u32 ((shortP x).base.1 : Int), .int .u32 ((shortP x).base.2 : Int), (.slice a1s (shortP x).log.length c1s), .bool (shortP x).known, .bool (shortP x).joined, .bool (shortP x).instep, .int .u32 ((shortP x).acked : Int)])
                      have n6 := setRow_heap _ B6 _ #[.int .i64 (shortP x).me, .int .u32 ((shortP x).v.n : Int), .int .i64 (shortP x).v.p, .int .i64 (shortP x).v.b, .int .u32 ((shortP x).base.1 : Int), .int .u32 ((shortP x).base.2 : Int), (.slice a1s (shortP x).log.length c1s), .bool (shortP x).known, .bool (shortP x).joined, .bool (shortP x).instep, .int .u32 ((shortP x).acked : Int)] _ _ b6
                      have b7 := grown_other g8 b7 (by omega)
                      have i1 := i1.grown g8 b6 (by decide) (by decide)
                      have i5 := i5.grown g8 b6 (by decide) (by decide)
                      have hHeld := hHeld.grown g8 (fun q hq => by cases hq; exact nw6)
                      clear g8 b6
                      generalize wd.setRow B6 #[.int .i64 (shortP x).me, .int .u32 ((shortP x).v.n : Int), .int .i64 (shortP x).v.p, .int .i64 (shortP x).v.b, .int .u32 ((shortP x).base.1 : Int), .int .u32 ((shortP x).base.2 : Int), (.slice a1s (shortP x).log.length c1s), .bool (shortP x).known, .bool (shortP x).joined, .bool (shortP x).instep, .int .u32 ((shortP x).acked : Int)] = wn at *
                      have b6 := n6
                      clear n6
                      obtain ⟨wd, rfl⟩ : ∃ x, x = wn := ⟨_, rfl⟩
                      first | refine ⟨fun _ => hHeld, ?_⟩ | refine ⟨hHeld, ?_⟩ | skip
                      try simp only [Act.put, List.setIfInBounds_toArray, List.set_cons_zero, List.set_cons_succ, List.getElem_toArray, List.getElem_cons_zero, List.getElem_cons_succ]
                      refine G_all (rs := [9]) (by kernel_rfl) (by simp) ?_
                      intro i hi; obtain rfl : i = 9 := by simpa using hi
                      refine wpOp_run rfl (by rfl) ?_
                      refine wp_store_row 47 (.tmp 10) (.tmp 57) rfl B7 #[.int .i64 (shortP y).me, .int .u32 ((shortP y).v.n : Int), .int .i64 (shortP y).v.p, .int .i64 (shortP y).v.b, .int .u32 ((shortP y).base.1 : Int), .int .u32 ((shortP y).base.2 : Int), (.slice a5s (shortP y).log.length c5s), .bool (shortP y).known, .bool (shortP y).joined, .bool (shortP y).instep, .int .u32 ((shortP y).acked : Int)] (by rfl) (by rfl) 47 _ b7 (by kernel_rfl) rfl (pr_one _ _ _ _) ?_
                      try refine ⟨fun e => absurd e (by decide), ?_⟩
                      refine G_free _ _ _ _ (by kernel_rfl) ?_
                      try simp only [Act.put, List.setIfInBounds_toArray, List.set_cons_zero, List.set_cons_succ, List.getElem_toArray, List.getElem_cons_zero, List.getElem_cons_succ]
                      refine wpAny_done (by kernel_rfl) ?_ _
                      refine NoPanic.normal ?_
                      have g9 := grown_setRow (w := wd) (g := B7) (c := #[.int .i64 (shortP y).me, .int .u32 ((shortP y).v.n : Int), .int .i64 (shortP y).v.p, .int .i64 (shortP y).v.b, .int .u32 ((shortP y).base.1 : Int), .int .u32 ((shortP y).base.2 : Int), (.slice a5s (shortP y).log.length c5s), .bool (shortP y).known, .bool (shortP y).joined, .bool (shortP y).instep, .int .u32 ((shortP y).acked : Int)])
                      have n7 := setRow_heap _ B7 _ #[.int .i64 (shortP y).me, .int .u32 ((shortP y).v.n : Int), .int .i64 (shortP y).v.p, .int .i64 (shortP y).v.b, .int .u32 ((shortP y).base.1 : Int), .int .u32 ((shortP y).base.2 : Int), (.slice a5s (shortP y).log.length c5s), .bool (shortP y).known, .bool (shortP y).joined, .bool (shortP y).instep, .int .u32 ((shortP y).acked : Int)] _ _ b7
                      have n6 := grown_other g9 b6 (by omega)
                      have j1 := i1.grown g9 b7 (by decide) (by decide)
                      have j5 := i5.grown g9 b7 (by decide) (by decide)
                      have hh := hHeld.grown g9 (fun q hq => by cases hq; exact nw7)
                      go_wp2_with fail
                      go_meet
                      exact ⟨B6, B7, a1s, c1s, u1, a5s, c5s, u5, rfl, rfl, n6, n7, j1, j5, hh⟩
                  · refine wpOp_run rfl (by rfl) ?_
                    go_simp
                    try have lb67 := block_lt b6
                    have b7 := heap_alloc_new wd (.cells #[.int .i64 0, .int .u32 0, .int .i64 0, .int .i64 0, .int .u32 0, .int .u32 0, .slice none 0 0, .bool false, .bool false, .bool false, .int .u32 0] 47)
                    have xa : Ext wd (wd.alloc (.cells #[.int .i64 0, .int .u32 0, .int .i64 0, .int .i64 0, .int .u32 0, .int .u32 0, .slice none 0 0, .bool false, .bool false, .bool false, .int .u32 0] 47)) := (Ext.refl wd).alloc _
                    have nw7 : _ ≤ wd.heap.size := hHeld.size
                    have hHeld := hHeld.trans xa
                    first | refine ⟨fun _ => hHeld, ?_⟩ | refine ⟨hHeld, ?_⟩
                    try simp only [Act.put, List.setIfInBounds_toArray, List.set_cons_zero, List.set_cons_succ, List.getElem_toArray, List.getElem_cons_zero, List.getElem_cons_succ]
                    try have b6 := xa.keeps b6
                    try have i1 := i1.ext xa
                    try have i5 := i5.ext xa
                    clear xa
                    generalize wd.heap.size = B7 at *
                    generalize wd.alloc (.cells #[.int .i64 0, .int .u32 0, .int .i64 0, .int .i64 0, .int .u32 0, .int .u32 0, .slice none 0 0, .bool false, .bool false, .bool false, .int .u32 0] 47) = wn at *
                    obtain ⟨wd, rfl⟩ : ∃ x, x = wn := ⟨_, rfl⟩
                    refine G_all (rs := [1]) (by kernel_rfl) (by simp) ?_
                    intro i hi; obtain rfl : i = 1 := by simpa using hi
                    refine wpOp_run rfl (by rfl) ?_
                    go_simp
                    refine Calls.mono (lawShort _ _ x ((OX.out.lg.ext HX.out).ext hHeld)) ?_
                    rintro e w1 ⟨v1, u1, rfl, i1, x1⟩
                    have i1 := i1.base hHeld.size
                    obtain ⟨a1s, c1s, rfl⟩ := own_shape i1.own
                    have hHeld := hHeld.trans x1
                    first | refine ⟨fun _ => hHeld, ?_⟩ | refine ⟨hHeld, ?_⟩
                    try simp only [Act.put, List.setIfInBounds_toArray, List.set_cons_zero, List.set_cons_succ, List.getElem_toArray, List.getElem_cons_zero, List.getElem_cons_succ]
                    try have b6 := x1.keeps b6
                    try have b7 := x1.keeps b7
                    try have i1 := i1.ext x1
                    try have i5 := i5.ext x1
                    skip
                    obtain ⟨wd, rfl⟩ : ∃ x, x = w1 := ⟨_, rfl⟩
                    refine G_all (rs := [5]) (by kernel_rfl) (by simp) ?_
                    intro i hi; obtain rfl : i = 5 := by simpa using hi
                    refine wpOp_run rfl (by rfl) ?_
                    go_simp
                    refine Calls.mono (lawShort _ _ y ((OY.out.lg.ext HX.out).ext hHeld)) ?_
                    rintro e w5 ⟨v5, u5, rfl, i5, x5⟩
                    have i5 := i5.base hHeld.size
                    obtain ⟨a5s, c5s, rfl⟩ := own_shape i5.own
                    have hHeld := hHeld.trans x5
                    first | refine ⟨fun _ => hHeld, ?_⟩ | refine ⟨hHeld, ?_⟩
                    try simp only [Act.put, List.setIfInBounds_toArray, List.set_cons_zero, List.set_cons_succ, List.getElem_toArray, List.getElem_cons_zero, List.getElem_cons_succ]
                    try have b6 := x5.keeps b6
                    try have b7 := x5.keeps b7
                    try have i1 := i1.ext x5
                    try have i5 := i5.ext x5
                    skip
                    obtain ⟨wd, rfl⟩ : ∃ x, x = w5 := ⟨_, rfl⟩
                    refine G_all (rs := [8]) (by kernel_rfl) (by simp) ?_
                    intro i hi; obtain rfl : i = 8 := by simpa using hi
                    refine wpOp_run rfl (by rfl) ?_
                    refine wp_store_row 47 (.tmp 9) (.tmp 53) rfl B6 #[.int .i64 (shortP x).me, .int .u32 ((shortP x).v.n : Int), .int .i64 (shortP x).v.p, .int .i64 (shortP x).v.b, .int .u32 ((shortP x).base.1 : Int), .int .u32 ((shortP x).base.2 : Int), (.slice a1s (shortP x).log.length c1s), .bool (shortP x).known, .bool (shortP x).joined, .bool (shortP x).instep, .int .u32 ((shortP x).acked : Int)] (by rfl) (by rfl) 47 _ b6 (by kernel_rfl) rfl (pr_one _ _ _ _) ?_
                    have g8 := grown_setRow (w := wd) (g := B6) (c := #[.int .i64 (shortP x).me, .int .u32 ((shortP x).v.n : Int), .int .i64 (shortP x).v.p, .int .i64 (shortP x).v.b, .int .u32 ((shortP x).base.1 : Int), .int .u32 ((shortP x).base.2 : Int), (.slice a1s (shortP x).log.length c1s), .bool (shortP x).known, .bool (shortP x).joined, .bool (shortP x).instep, .int .u32 ((shortP x).acked : Int)])
                    have n6 := setRow_heap _ B6 _ #[.int .i64 (shortP x).me, .int .u32 ((shortP x).v.n : Int), .int .i64 (shortP x).v.p, .int .i64 (shortP x).v.b, .int .u32 ((shortP x).base.1 : Int), .int .u32 ((shortP x).base.2 : Int), (.slice a1s (shortP x).log.length c1s), .bool (shortP x).known, .bool (shortP x).joined, .bool (shortP x).instep, .int .u32 ((shortP x).acked : Int)] _ _ b6
                    have b7 := grown_other g8 b7 (by omega)
                    have i1 := i1.grown g8 b6 (by decide) (by decide)
                    have i5 := i5.grown g8 b6 (by decide) (by decide)
                    have hHeld := hHeld.grown g8 (fun q hq => by cases hq; exact nw6)
                    clear g8 b6
                    generalize wd.setRow B6 #[.int .i64 (shortP x).me, .int .u32 ((shortP x).v.n : Int), .int .i64 (shortP x).v.p, .int .i64 (shortP x).v.b, .int .u32 ((shortP x).base.1 : Int), .int .u32 ((shortP x).base.2 : Int), (.slice a1s (shortP x).log.length c1s), .bool (shortP x).known, .bool (shortP x).joined, .bool (shortP x).instep, .int .u32 ((shortP x).acked : Int)] = wn at *
                    have b6 := n6
                    clear n6
                    obtain ⟨wd, rfl⟩ : ∃ x, x = wn := ⟨_, rfl⟩
                    first | refine ⟨fun _ => hHeld, ?_⟩ | refine ⟨hHeld, ?_⟩ | skip
                    try simp only [Act.put, List.setIfInBounds_toArray, List.set_cons_zero, List.set_cons_succ, List.getElem_toArray, List.getElem_cons_zero, List.getElem_cons_succ]
                    refine G_all (rs := [9]) (by kernel_rfl) (by simp) ?_
                    intro i hi; obtain rfl : i = 9 := by simpa using hi
                    refine wpOp_run rfl (by rfl) ?_
                    refine wp_store_row 47 (.tmp 10) (.tmp 57) rfl B7 #[.int .i64 (shortP y).me, .int .u32 ((shortP y).v.n : Int), .int .i64 (shortP y).v.p, .int .i64 (shortP y).v.b, .int .u32 ((shortP y).base.1 : Int), .int .u32 ((shortP y).base.2 : Int), (.slice a5s (shortP y).log.length c5s), .bool (shortP y).known, .bool (shortP y).joined, .bool (shortP y).instep, .int .u32 ((shortP y).acked : Int)] (by rfl) (by rfl) 47 _ b7 (by kernel_rfl) rfl (pr_one _ _ _ _) ?_
                    try refine ⟨fun e => absurd e (by decide), ?_⟩
                    refine G_free _ _ _ _ (by kernel_rfl) ?_
                    try simp only [Act.put, List.setIfInBounds_toArray, List.set_cons_zero, List.set_cons_succ, List.getElem_toArray, List.getElem_cons_zero, List.getElem_cons_succ]
                    refine wpAny_done (by kernel_rfl) ?_ _
                    refine NoPanic.normal ?_
                    have g9 := grown_setRow (w := wd) (g := B7) (c := #[.int .i64 (shortP y).me, .int .u32 ((shortP y).v.n : Int), .int .i64 (shortP y).v.p, .int .i64 (shortP y).v.b, .int .u32 ((shortP y).base.1 : Int), .int .u32 ((shortP y).base.2 : Int), (.slice a5s (shortP y).log.length c5s), .bool (shortP y).known, .bool (shortP y).joined, .bool (shortP y).instep, .int .u32 ((shortP y).acked : Int)])
                    have n7 := setRow_heap _ B7 _ #[.int .i64 (shortP y).me, .int .u32 ((shortP y).v.n : Int), .int .i64 (shortP y).v.p, .int .i64 (shortP y).v.b, .int .u32 ((shortP y).base.1 : Int), .int .u32 ((shortP y).base.2 : Int), (.slice a5s (shortP y).log.length c5s), .bool (shortP y).known, .bool (shortP y).joined, .bool (shortP y).instep, .int .u32 ((shortP y).acked : Int)] _ _ b7
                    have n6 := grown_other g9 b6 (by omega)
                    have j1 := i1.grown g9 b7 (by decide) (by decide)
                    have j5 := i5.grown g9 b7 (by decide) (by decide)
                    have hh := hHeld.grown g9 (fun q hq => by cases hq; exact nw7)
                    go_wp2_with fail
                    go_meet
                    exact ⟨B6, B7, a1s, c1s, u1, a5s, c5s, u5, rfl, rfl, n6, n7, j1, j5, hh⟩
                · refine wpOp_run rfl (by rfl) ?_
                  go_simp
                  try have lb67 := block_lt b6
                  have b7 := heap_alloc_new wd (.cells #[.int .i64 0, .int .u32 0, .int .i64 0, .int .i64 0, .int .u32 0, .int .u32 0, .slice none 0 0, .bool false, .bool false, .bool false, .int .u32 0] 47)
                  have xa : Ext wd (wd.alloc (.cells #[.int .i64 0, .int .u32 0, .int .i64 0, .int .i64 0, .int .u32 0, .int .u32 0, .slice none 0 0, .bool false, .bool false, .bool false, .int .u32 0] 47)) := (Ext.refl wd).alloc _
                  have nw7 : _ ≤ wd.heap.size := hHeld.size
                  have hHeld := hHeld.trans xa
                  first | refine ⟨fun _ => hHeld, ?_⟩ | refine ⟨hHeld, ?_⟩
                  try simp only [Act.put, List.setIfInBounds_toArray, List.set_cons_zero, List.set_cons_succ, List.getElem_toArray, List.getElem_cons_zero, List.getElem_cons_succ]
                  try have b6 := xa.keeps b6
                  try have i1 := i1.ext xa
                  try have i5 := i5.ext xa
                  clear xa
                  generalize wd.heap.size = B7 at *
                  generalize wd.alloc (.cells #[.int .i64 0, .int .u32 0, .int .i64 0, .int .i64 0, .int .u32 0, .int .u32 0, .slice none 0 0, .bool false, .bool false, .bool false, .int .u32 0] 47) = wn at *
                  obtain ⟨wd, rfl⟩ : ∃ x, x = wn := ⟨_, rfl⟩
                  refine G_all (rs := [1, 6]) (by kernel_rfl) (by simp) ?_
                  intro i hi; have hi' : i = 1 ∨ i = 6 := by simpa using hi
                  clear hi; rcases hi' with rfl | rfl
                  · refine wpOp_run rfl (by rfl) ?_
                    go_simp
                    refine Calls.mono (lawShort _ _ x ((OX.out.lg.ext HX.out).ext hHeld)) ?_
                    rintro e w1 ⟨v1, u1, rfl, i1, x1⟩
                    have i1 := i1.base hHeld.size
                    obtain ⟨a1s, c1s, rfl⟩ := own_shape i1.own
                    have hHeld := hHeld.trans x1
                    first | refine ⟨fun _ => hHeld, ?_⟩ | refine ⟨hHeld, ?_⟩
                    try simp only [Act.put, List.setIfInBounds_toArray, List.set_cons_zero, List.set_cons_succ, List.getElem_toArray, List.getElem_cons_zero, List.getElem_cons_succ]
                    try have b6 := x1.keeps b6
                    try have b7 := x1.keeps b7
                    try have i1 := i1.ext x1
                    try have i5 := i5.ext x1
                    skip
                    obtain ⟨wd, rfl⟩ : ∃ x, x = w1 := ⟨_, rfl⟩
                    refine G_all (rs := [5, 6]) (by kernel_rfl) (by simp) ?_
                    intro i hi; have hi' : i = 5 ∨ i = 6 := by simpa using hi
                    clear hi; rcases hi' with rfl | rfl
                    · refine wpOp_run rfl (by rfl) ?_
                      go_simp
                      refine Calls.mono (lawShort _ _ y ((OY.out.lg.ext HX.out).ext hHeld)) ?_
                      rintro e w5 ⟨v5, u5, rfl, i5, x5⟩
                      have i5 := i5.base hHeld.size
                      obtain ⟨a5s, c5s, rfl⟩ := own_shape i5.own
                      have hHeld := hHeld.trans x5
                      first | refine ⟨fun _ => hHeld, ?_⟩ | refine ⟨hHeld, ?_⟩
                      try simp only [Act.put, List.setIfInBounds_toArray, List.set_cons_zero, List.set_cons_succ, List.getElem_toArray, List.getElem_cons_zero, List.getElem_cons_succ]
                      try have b6 := x5.keeps b6
                      try have b7 := x5.keeps b7
                      try have i1 := i1.ext x5
                      try have i5 := i5.ext x5
                      skip
                      obtain ⟨wd, rfl⟩ : ∃ x, x = w5 := ⟨_, rfl⟩
                      refine G_all (rs := [6]) (by kernel_rfl) (by simp) ?_
                      intro i hi; obtain rfl : i = 6 := by simpa using hi
                      refine wpOp_run rfl (by rfl) ?_
                      go_simp
                      try have lb76 := block_lt b7
                      have b6 := heap_alloc_new wd (.cells #[.int .i64 0, .int .u32 0, .int .i64 0, .int .i64 0, .int .u32 0, .int .u32 0, .slice none 0 0, .bool false, .bool false, .bool false, .int .u32 0] 47)
                      have xa : Ext wd (wd.alloc (.cells #[.int .i64 0, .int .u32 0, .int .i64 0, .int .i64 0, .int .u32 0, .int .u32 0, .slice none 0 0, .bool false, .bool false, .bool false, .int .u32 0] 47)) := (Ext.refl wd).alloc _
                      have nw6 : _ ≤ wd.heap.size := hHeld.size
                      have hHeld := hHeld.trans xa
                      first | refine ⟨fun _ => hHeld, ?_⟩ | refine ⟨hHeld, ?_⟩
                      try simp only [Act.put, List.setIfInBounds_toArray, List.set_cons_zero, List.set_cons_succ, List.getElem_toArray, List.getElem_cons_zero, List.getElem_cons_succ]
                      try have b7 := xa.keeps b7
                      try have i1 := i1.ext xa
                      try have i5 := i5.ext xa
                      clear xa
                      generalize wd.heap.size = B6 at *
                      generalize wd.alloc (.cells #[.int .i64 0, .int .u32 0, .int .i64 0, .int .i64 0, .int .u32 0, .int .u32 0, .slice none 0 0, .bool false, .bool false, .bool false, .int .u32 0] 47) = wn at *
                      obtain ⟨wd, rfl⟩ : ∃ x, x = wn := ⟨_, rfl⟩
                      refine G_all (rs := [8]) (by kernel_rfl) (by simp) ?_
                      intro i hi; obtain rfl : i = 8 := by simpa using hi
                      refine wpOp_run rfl (by rfl) ?_
                      refine wp_store_row 47 (.tmp 9) (.tmp 53) rfl B6 #[.int .i64 (shortP x).me, .int .u32 ((shortP x).v.n : Int), .int .i64 (shortP x).v.p, .int .i64 (shortP x).v.b, .int .u32 ((shortP x).base.1 : Int), .int .u32 ((shortP x).base.2 : Int), (.slice a1s (shortP x).log.length c1s), .bool (shortP x).known, .bool (shortP x).joined, .bool (shortP x).instep, .int .u32 ((shortP x).acked : Int)] (by rfl) (by rfl) 47 _ b6 (by kernel_rfl) rfl (pr_one _ _ _ _) ?_
                      have g8 := grown_setRow (w := wd) (g := B6) (c := #[.int .i64 (shortP x).me, .int .u32 ((shortP x).v.n : Int), .int .i64 (shortP x).v.p, .int .i64 (shortP x).v.b, .int .u32 ((shortP x).base.1 : Int), .int .u32 ((shortP x).base.2 : Int), (.slice a1s (shortP x).log.length c1s), .bool (shortP x).known, .bool (shortP x).joined, .bool (shortP x).instep, .int .u32 ((shortP x).acked : Int)])
                      have n6 := setRow_heap _ B6 _ #[.int .i64 (shortP x).me, .int .u32 ((shortP x).v.n : Int), .int .i64 (shortP x).v.p, .int .i64 (shortP x).v.b, .int .u32 ((shortP x).base.1 : Int), .int .u32 ((shortP x).base.2 : Int), (.slice a1s (shortP x).log.length c1s), .bool (shortP x).known, .bool (shortP x).joined, .bool (shortP x).instep, .int .u32 ((shortP x).acked : Int)] _ _ b6
                      have b7 := grown_other g8 b7 (by omega)
                      have i1 := i1.grown g8 b6 (by decide) (by decide)
                      have i5 := i5.grown g8 b6 (by decide) (by decide)
                      have hHeld := hHeld.grown g8 (fun q hq => by cases hq; exact nw6)
                      clear g8 b6
                      generalize wd.setRow B6 #[.int .i64 (shortP x).me, .int .u32 ((shortP x).v.n : Int), .int .i64 (shortP x).v.p, .int .i64 (shortP x).v.b, .int .u32 ((shortP x).base.1 : Int), .int .u32 ((shortP x).base.2 : Int), (.slice a1s (shortP x).log.length c1s), .bool (shortP x).known, .bool (shortP x).joined, .bool (shortP x).instep, .int .u32 ((shortP x).acked : Int)] = wn at *
                      have b6 := n6
                      clear n6
                      obtain ⟨wd, rfl⟩ : ∃ x, x = wn := ⟨_, rfl⟩
                      first | refine ⟨fun _ => hHeld, ?_⟩ | refine ⟨hHeld, ?_⟩ | skip
                      try simp only [Act.put, List.setIfInBounds_toArray, List.set_cons_zero, List.set_cons_succ, List.getElem_toArray, List.getElem_cons_zero, List.getElem_cons_succ]
                      refine G_all (rs := [9]) (by kernel_rfl) (by simp) ?_
                      intro i hi; obtain rfl : i = 9 := by simpa using hi
                      refine wpOp_run rfl (by rfl) ?_
                      refine wp_store_row 47 (.tmp 10) (.tmp 57) rfl B7 #[.int .i64 (shortP y).me, .int .u32 ((shortP y).v.n : Int), .int .i64 (shortP y).v.p, .int .i64 (shortP y).v.b, .int .u32 ((shortP y).base.1 : Int), .int .u32 ((shortP y).base.2 : Int), (.slice a5s (shortP y).log.length c5s), .bool (shortP y).known, .bool (shortP y).joined, .bool (shortP y).instep, .int .u32 ((shortP y).acked : Int)] (by rfl) (by rfl) 47 _ b7 (by kernel_rfl) rfl (pr_one _ _ _ _) ?_
                      try refine ⟨fun e => absurd e (by decide), ?_⟩
                      refine G_free _ _ _ _ (by kernel_rfl) ?_
                      try simp only [Act.put, List.setIfInBounds_toArray, List.set_cons_zero, List.set_cons_succ, List.getElem_toArray, List.getElem_cons_zero, List.getElem_cons_succ]
                      refine wpAny_done (by kernel_rfl) ?_ _
                      refine NoPanic.normal ?_
                      have g9 := grown_setRow (w := wd) (g := B7) (c := #[.int .i64 (shortP y).me, .int .u32 ((shortP y).v.n : Int), .int .i64 (shortP y).v.p, .int .i64 (shortP y).v.b, .int .u32 ((shortP y).base.1 : Int), .int .u32 ((shortP y).base.2 : Int), (.slice a5s (shortP y).log.length c5s), .bool (shortP y).known, .bool (shortP y).joined, .bool (shortP y).instep, .int .u32 ((shortP y).acked : Int)])
                      have n7 := setRow_heap _ B7 _ #[.int .i64 (shortP y).me, .int .u32 ((shortP y).v.n : Int), .int .i64 (shortP y).v.p, .int .i64 (shortP y).v.b, .int .u32 ((shortP y).base.1 : Int), .int .u32 ((shortP y).base.2 : Int), (.slice a5s (shortP y).log.length c5s), .bool (shortP y).known, .bool (shortP y).joined, .bool (shortP y).instep, .int .u32 ((shortP y).acked : Int)] _ _ b7
                      have n6 := grown_other g9 b6 (by omega)
                      have j1 := i1.grown g9 b7 (by decide) (by decide)
                      have j5 := i5.grown g9 b7 (by decide) (by decide)
                      have hh := hHeld.grown g9 (fun q hq => by cases hq; exact nw7)
                      go_wp2_with fail
                      go_meet
                      exact ⟨B6, B7, a1s, c1s, u1, a5s, c5s, u5, rfl, rfl, n6, n7, j1, j5, hh⟩
                    · refine wpOp_run rfl (by rfl) ?_
                      go_simp
                      try have lb76 := block_lt b7
                      have b6 := heap_alloc_new wd (.cells #[.int .i64 0, .int .u32 0, .int .i64 0, .int .i64 0, .int .u32 0, .int .u32 0, .slice none 0 0, .bool false, .bool false, .bool false, .int .u32 0] 47)
                      have xa : Ext wd (wd.alloc (.cells #[.int .i64 0, .int .u32 0, .int .i64 0, .int .i64 0, .int .u32 0, .int .u32 0, .slice none 0 0, .bool false, .bool false, .bool false, .int .u32 0] 47)) := (Ext.refl wd).alloc _
                      have nw6 : _ ≤ wd.heap.size := hHeld.size
                      have hHeld := hHeld.trans xa
                      first | refine ⟨fun _ => hHeld, ?_⟩ | refine ⟨hHeld, ?_⟩
                      try simp only [Act.put, List.setIfInBounds_toArray, List.set_cons_zero, List.set_cons_succ, List.getElem_toArray, List.getElem_cons_zero, List.getElem_cons_succ]
                      try have b7 := xa.keeps b7
                      try have i1 := i1.ext xa
                      try have i5 := i5.ext xa
                      clear xa
                      generalize wd.heap.size = B6 at *
                      generalize wd.alloc (.cells #[.int .i64 0, .int .u32 0, .int .i64 0, .int .i64 0, .int .u32 0, .int .u32 0, .slice none 0 0, .bool false, .bool false, .bool false, .int .u32 0] 47) = wn at *
                      obtain ⟨wd, rfl⟩ : ∃ x, x = wn := ⟨_, rfl⟩
                      refine G_all (rs := [5]) (by kernel_rfl) (by simp) ?_
                      intro i hi; obtain rfl : i = 5 := by simpa using hi
                      refine wpOp_run rfl (by rfl) ?_
                      go_simp
                      refine Calls.mono (lawShort _ _ y ((OY.out.lg.ext HX.out).ext hHeld)) ?_
                      rintro e w5 ⟨v5, u5, rfl, i5, x5⟩
                      have i5 := i5.base hHeld.size
                      obtain ⟨a5s, c5s, rfl⟩ := own_shape i5.own
                      have hHeld := hHeld.trans x5
                      first | refine ⟨fun _ => hHeld, ?_⟩ | refine ⟨hHeld, ?_⟩
                      try simp only [Act.put, List.setIfInBounds_toArray, List.set_cons_zero, List.set_cons_succ, List.getElem_toArray, List.getElem_cons_zero, List.getElem_cons_succ]
                      try have b6 := x5.keeps b6
                      try have b7 := x5.keeps b7
                      try have i1 := i1.ext x5
                      try have i5 := i5.ext x5
                      skip
                      obtain ⟨wd, rfl⟩ : ∃ x, x = w5 := ⟨_, rfl⟩
                      refine G_all (rs := [8]) (by kernel_rfl) (by simp) ?_
                      intro i hi; obtain rfl : i = 8 := by simpa using hi
                      refine wpOp_run rfl (by rfl) ?_
                      refine wp_store_row 47 (.tmp 9) (.tmp 53) rfl B6 #[.int .i64 (shortP x).me, .int .u32 ((shortP x).v.n : Int), .int .i64 (shortP x).v.p, .int .i64 (shortP x).v.b, .int .u32 ((shortP x).base.1 : Int), .int .u32 ((shortP x).base.2 : Int), (.slice a1s (shortP x).log.length c1s), .bool (shortP x).known, .bool (shortP x).joined, .bool (shortP x).instep, .int .u32 ((shortP x).acked : Int)] (by rfl) (by rfl) 47 _ b6 (by kernel_rfl) rfl (pr_one _ _ _ _) ?_
                      have g8 := grown_setRow (w := wd) (g := B6) (c := #[.int .i64 (shortP x).me, .int .u32 ((shortP x).v.n : Int), .int .i64 (shortP x).v.p, .int .i64 (shortP x).v.b, .int .u32 ((shortP x).base.1 : Int), .int .u32 ((shortP x).base.2 : Int), (.slice a1s (shortP x).log.length c1s), .bool (shortP x).known, .bool (shortP x).joined, .bool (shortP x).instep, .int .u32 ((shortP x).acked : Int)])
                      have n6 := setRow_heap _ B6 _ #[.int .i64 (shortP x).me, .int .u32 ((shortP x).v.n : Int), .int .i64 (shortP x).v.p, .int .i64 (shortP x).v.b, .int .u32 ((shortP x).base.1 : Int), .int .u32 ((shortP x).base.2 : Int), (.slice a1s (shortP x).log.length c1s), .bool (shortP x).known, .bool (shortP x).joined, .bool (shortP x).instep, .int .u32 ((shortP x).acked : Int)] _ _ b6
                      have b7 := grown_other g8 b7 (by omega)
                      have i1 := i1.grown g8 b6 (by decide) (by decide)
                      have i5 := i5.grown g8 b6 (by decide) (by decide)
                      have hHeld := hHeld.grown g8 (fun q hq => by cases hq; exact nw6)
                      clear g8 b6
                      generalize wd.setRow B6 #[.int .i64 (shortP x).me, .int .u32 ((shortP x).v.n : Int), .int .i64 (shortP x).v.p, .int .i64 (shortP x).v.b, .int .u32 ((shortP x).base.1 : Int), .int .u32 ((shortP x).base.2 : Int), (.slice a1s (shortP x).log.length c1s), .bool (shortP x).known, .bool (shortP x).joined, .bool (shortP x).instep, .int .u32 ((shortP x).acked : Int)] = wn at *
                      have b6 := n6
                      clear n6
                      obtain ⟨wd, rfl⟩ : ∃ x, x = wn := ⟨_, rfl⟩
                      first | refine ⟨fun _ => hHeld, ?_⟩ | refine ⟨hHeld, ?_⟩ | skip
                      try simp only [Act.put, List.setIfInBounds_toArray, List.set_cons_zero, List.set_cons_succ, List.getElem_toArray, List.getElem_cons_zero, List.getElem_cons_succ]
                      refine G_all (rs := [9]) (by kernel_rfl) (by simp) ?_
                      intro i hi; obtain rfl : i = 9 := by simpa using hi
                      refine wpOp_run rfl (by rfl) ?_
                      refine wp_store_row 47 (.tmp 10) (.tmp 57) rfl B7 #[.int .i64 (shortP y).me, .int .u32 ((shortP y).v.n : Int), .int .i64 (shortP y).v.p, .int .i64 (shortP y).v.b, .int .u32 ((shortP y).base.1 : Int), .int .u32 ((shortP y).base.2 : Int), (.slice a5s (shortP y).log.length c5s), .bool (shortP y).known, .bool (shortP y).joined, .bool (shortP y).instep, .int .u32 ((shortP y).acked : Int)] (by rfl) (by rfl) 47 _ b7 (by kernel_rfl) rfl (pr_one _ _ _ _) ?_
                      try refine ⟨fun e => absurd e (by decide), ?_⟩
                      refine G_free _ _ _ _ (by kernel_rfl) ?_
                      try simp only [Act.put, List.setIfInBounds_toArray, List.set_cons_zero, List.set_cons_succ, List.getElem_toArray, List.getElem_cons_zero, List.getElem_cons_succ]
                      refine wpAny_done (by kernel_rfl) ?_ _
                      refine NoPanic.normal ?_
                      have g9 := grown_setRow (w := wd) (g := B7) (c := #[.int .i64 (shortP y).me, .int .u32 ((shortP y).v.n : Int), .int .i64 (shortP y).v.p, .int .i64 (shortP y).v.b, .int .u32 ((shortP y).base.1 : Int), .int .u32 ((shortP y).base.2 : Int), (.slice a5s (shortP y).log.length c5s), .bool (shortP y).known, .bool (shortP y).joined, .bool (shortP y).instep, .int .u32 ((shortP y).acked : Int)])
                      have n7 := setRow_heap _ B7 _ #[.int .i64 (shortP y).me, .int .u32 ((shortP y).v.n : Int), .int .i64 (shortP y).v.p, .int .i64 (shortP y).v.b, .int .u32 ((shortP y).base.1 : Int), .int .u32 ((shortP y).base.2 : Int), (.slice a5s (shortP y).log.length c5s), .bool (shortP y).known, .bool (shortP y).joined, .bool (shortP y).instep, .int .u32 ((shortP y).acked : Int)] _ _ b7
                      have n6 := grown_other g9 b6 (by omega)
                      have j1 := i1.grown g9 b7 (by decide) (by decide)
                      have j5 := i5.grown g9 b7 (by decide) (by decide)
                      have hh := hHeld.grown g9 (fun q hq => by cases hq; exact nw7)
                      go_wp2_with fail
                      go_meet
                      exact ⟨B6, B7, a1s, c1s, u1, a5s, c5s, u5, rfl, rfl, n6, n7, j1, j5, hh⟩
                  · refine wpOp_run rfl (by rfl) ?_
                    go_simp
                    try have lb76 := block_lt b7
                    have b6 := heap_alloc_new wd (.cells #[.int .i64 0, .int .u32 0, .int .i64 0, .int .i64 0, .int .u32 0, .int .u32 0, .slice none 0 0, .bool false, .bool false, .bool false, .int .u32 0] 47)
                    have xa : Ext wd (wd.alloc (.cells #[.int .i64 0, .int .u32 0, .int .i64 0, .int .i64 0, .int .u32 0, .int .u32 0, .slice none 0 0, .bool false, .bool false, .bool false, .int .u32 0] 47)) := (Ext.refl wd).alloc _
                    have nw6 : _ ≤ wd.heap.size := hHeld.size
                    have hHeld := hHeld.trans xa
                    first | refine ⟨fun _ => hHeld, ?_⟩ | refine ⟨hHeld, ?_⟩
                    try simp only [Act.put, List.setIfInBounds_toArray, List.set_cons_zero, List.set_cons_succ, List.getElem_toArray, List.getElem_cons_zero, List.getElem_cons_succ]
                    try have b7 := xa.keeps b7
                    try have i1 := i1.ext xa
                    try have i5 := i5.ext xa
                    clear xa
                    generalize wd.heap.size = B6 at *
                    generalize wd.alloc (.cells #[.int .i64 0, .int .u32 0, .int .i64 0, .int .i64 0, .int .u32 0, .int .u32 0, .slice none 0 0, .bool false, .bool false, .bool false, .int .u32 0] 47) = wn at *
                    obtain ⟨wd, rfl⟩ : ∃ x, x = wn := ⟨_, rfl⟩
                    refine G_all (rs := [1]) (by kernel_rfl) (by simp) ?_
                    intro i hi; obtain rfl : i = 1 := by simpa using hi
                    refine wpOp_run rfl (by rfl) ?_
                    go_simp
                    refine Calls.mono (lawShort _ _ x ((OX.out.lg.ext HX.out).ext hHeld)) ?_
                    rintro e w1 ⟨v1, u1, rfl, i1, x1⟩
                    have i1 := i1.base hHeld.size
                    obtain ⟨a1s, c1s, rfl⟩ := own_shape i1.own
                    have hHeld := hHeld.trans x1
                    first | refine ⟨fun _ => hHeld, ?_⟩ | refine ⟨hHeld, ?_⟩
                    try simp only [Act.put, List.setIfInBounds_toArray, List.set_cons_zero, List.set_cons_succ, List.getElem_toArray, List.getElem_cons_zero, List.getElem_cons_succ]
                    try have b6 := x1.keeps b6
                    try have b7 := x1.keeps b7
                    try have i1 := i1.ext x1
                    try have i5 := i5.ext x1
                    skip
                    obtain ⟨wd, rfl⟩ : ∃ x, x = w1 := ⟨_, rfl⟩
                    refine G_all (rs := [5]) (by kernel_rfl) (by simp) ?_
                    intro i hi; obtain rfl : i = 5 := by simpa using hi
                    refine wpOp_run rfl (by rfl) ?_
                    go_simp
                    refine Calls.mono (lawShort _ _ y ((OY.out.lg.ext HX.out).ext hHeld)) ?_
                    rintro e w5 ⟨v5, u5, rfl, i5, x5⟩
                    have i5 := i5.base hHeld.size
                    obtain ⟨a5s, c5s, rfl⟩ := own_shape i5.own
                    have hHeld := hHeld.trans x5
                    first | refine ⟨fun _ => hHeld, ?_⟩ | refine ⟨hHeld, ?_⟩
                    try simp only [Act.put, List.setIfInBounds_toArray, List.set_cons_zero, List.set_cons_succ, List.getElem_toArray, List.getElem_cons_zero, List.getElem_cons_succ]
                    try have b6 := x5.keeps b6
                    try have b7 := x5.keeps b7
                    try have i1 := i1.ext x5
                    try have i5 := i5.ext x5
                    skip
                    obtain ⟨wd, rfl⟩ : ∃ x, x = w5 := ⟨_, rfl⟩
                    refine G_all (rs := [8]) (by kernel_rfl) (by simp) ?_
                    intro i hi; obtain rfl : i = 8 := by simpa using hi
                    refine wpOp_run rfl (by rfl) ?_
                    refine wp_store_row 47 (.tmp 9) (.tmp 53) rfl B6 #[.int .i64 (shortP x).me, .int .u32 ((shortP x).v.n : Int), .int .i64 (shortP x).v.p, .int .i64 (shortP x).v.b, .int .u32 ((shortP x).base.1 : Int), .int .u32 ((shortP x).base.2 : Int), (.slice a1s (shortP x).log.length c1s), .bool (shortP x).known, .bool (shortP x).joined, .bool (shortP x).instep, .int .u32 ((shortP x).acked : Int)] (by rfl) (by rfl) 47 _ b6 (by kernel_rfl) rfl (pr_one _ _ _ _) ?_
                    have g8 := grown_setRow (w := wd) (g := B6) (c := #[.int .i64 (shortP x).me, .int .u32 ((shortP x).v.n : Int), .int .i64 (shortP x).v.p, .int .i64 (shortP x).v.b, .int .u32 ((shortP x).base.1 : Int), .int .u32 ((shortP x).base.2 : Int), (.slice a1s (shortP x).log.length c1s), .bool (shortP x).known, .bool (shortP x).joined, .bool (shortP x).instep, .int .u32 ((shortP x).acked : Int)])
                    have n6 := setRow_heap _ B6 _ #[.int .i64 (shortP x).me, .int .u32 ((shortP x).v.n : Int), .int .i64 (shortP x).v.p, .int .i64 (shortP x).v.b, .int .u32 ((shortP x).base.1 : Int), .int .u32 ((shortP x).base.2 : Int), (.slice a1s (shortP x).log.length c1s), .bool (shortP x).known, .bool (shortP x).joined, .bool (shortP x).instep, .int .u32 ((shortP x).acked : Int)] _ _ b6
                    have b7 := grown_other g8 b7 (by omega)
                    have i1 := i1.grown g8 b6 (by decide) (by decide)
                    have i5 := i5.grown g8 b6 (by decide) (by decide)
                    have hHeld := hHeld.grown g8 (fun q hq => by cases hq; exact nw6)
                    clear g8 b6
                    generalize wd.setRow B6 #[.int .i64 (shortP x).me, .int .u32 ((shortP x).v.n : Int), .int .i64 (shortP x).v.p, .int .i64 (shortP x).v.b, .int .u32 ((shortP x).base.1 : Int), .int .u32 ((shortP x).base.2 : Int), (.slice a1s (shortP x).log.length c1s), .bool (shortP x).known, .bool (shortP x).joined, .bool (shortP x).instep, .int .u32 ((shortP x).acked : Int)] = wn at *
                    have b6 := n6
                    clear n6
                    obtain ⟨wd, rfl⟩ : ∃ x, x = wn := ⟨_, rfl⟩
                    first | refine ⟨fun _ => hHeld, ?_⟩ | refine ⟨hHeld, ?_⟩ | skip
                    try simp only [Act.put, List.setIfInBounds_toArray, List.set_cons_zero, List.set_cons_succ, List.getElem_toArray, List.getElem_cons_zero, List.getElem_cons_succ]
                    refine G_all (rs := [9]) (by kernel_rfl) (by simp) ?_
                    intro i hi; obtain rfl : i = 9 := by simpa using hi
                    refine wpOp_run rfl (by rfl) ?_
                    refine wp_store_row 47 (.tmp 10) (.tmp 57) rfl B7 #[.int .i64 (shortP y).me, .int .u32 ((shortP y).v.n : Int), .int .i64 (shortP y).v.p, .int .i64 (shortP y).v.b, .int .u32 ((shortP y).base.1 : Int), .int .u32 ((shortP y).base.2 : Int), (.slice a5s (shortP y).log.length c5s), .bool (shortP y).known, .bool (shortP y).joined, .bool (shortP y).instep, .int .u32 ((shortP y).acked : Int)] (by rfl) (by rfl) 47 _ b7 (by kernel_rfl) rfl (pr_one _ _ _ _) ?_
                    try refine ⟨fun e => absurd e (by decide), ?_⟩
                    refine G_free _ _ _ _ (by kernel_rfl) ?_
                    try simp only [Act.put, List.setIfInBounds_toArray, List.set_cons_zero, List.set_cons_succ, List.getElem_toArray, List.getElem_cons_zero, List.getElem_cons_succ]
                    refine wpAny_done (by kernel_rfl) ?_ _
                    refine NoPanic.normal ?_
                    have g9 := grown_setRow (w := wd) (g := B7) (c := #[.int .i64 (shortP y).me, .int .u32 ((shortP y).v.n : Int), .int .i64 (shortP y).v.p, .int .i64 (shortP y).v.b, .int .u32 ((shortP y).base.1 : Int), .int .u32 ((shortP y).base.2 : Int), (.slice a5s (shortP y).log.length c5s), .bool (shortP y).known, .bool (shortP y).joined, .bool (shortP y).instep, .int .u32 ((shortP y).acked : Int)])
                    have n7 := setRow_heap _ B7 _ #[.int .i64 (shortP y).me, .int .u32 ((shortP y).v.n : Int), .int .i64 (shortP y).v.p, .int .i64 (shortP y).v.b, .int .u32 ((shortP y).base.1 : Int), .int .u32 ((shortP y).base.2 : Int), (.slice a5s (shortP y).log.length c5s), .bool (shortP y).known, .bool (shortP y).joined, .bool (shortP y).instep, .int .u32 ((shortP y).acked : Int)] _ _ b7
                    have n6 := grown_other g9 b6 (by omega)
                    have j1 := i1.grown g9 b7 (by decide) (by decide)
                    have j5 := i5.grown g9 b7 (by decide) (by decide)
                    have hh := hHeld.grown g9 (fun q hq => by cases hq; exact nw7)
                    go_wp2_with fail
                    go_meet
                    exact ⟨B6, B7, a1s, c1s, u1, a5s, c5s, u5, rfl, rfl, n6, n7, j1, j5, hh⟩
              case rest =>
                obtain ⟨B9, B10, a1s, c1s, u1, a5s, c5s, u5, rfl, rfl, b9, b10, i1, i5, hh⟩ := hcut
                obtain ⟨W7, rfl⟩ : ∃ q, q = wc := ⟨_, rfl⟩
                have HX := Lib.hid (HX.out.trans hh)
                clear hh bX h0i h16' h0lt
                have LX := Lib.hid (i1.lg (shortP_lg OX.out.2.1))
                have LY := Lib.hid (i5.lg (shortP_lg OY.out.2.1))
                have OKX := Lib.hid (shortP_ok OX.out.1)
                clear i1 i5
                have c9 := block_all b9
                go_wp2_with fail
                refine (rbRight _ _ (shortP x) LX.out OKX.out).mono ?_
                rintro e w6 ⟨rfl, y6⟩
                have b9 := y6.keeps b9
                have b10 := y6.keeps b10
                have LX := Lib.hid (LX.out.ext y6)
                have LY := Lib.hid (LY.out.ext y6)
                have HX := Lib.hid (HX.out.trans y6)
                clear c9 y6
                have c9 := block_all b9
                go_wp2_with fail
                refine (bkCheck _ _ (shortP x) LX.out OKX.out).mono ?_
                rintro e w7 ⟨rfl, y7⟩
                have b9 := y7.keeps b9
                have b10 := y7.keeps b10
                have LX := Lib.hid (LX.out.ext y7)
                have LY := Lib.hid (LY.out.ext y7)
                have HX := Lib.hid (HX.out.trans y7)
                clear c9 y7
                obtain ⟨W8, rfl⟩ : ∃ q, q = w7 := ⟨_, rfl⟩
                have K9 := fun v (h : Ext W8 v) => block_all (h.keeps b9)
                have K10 := fun v (h : Ext W8 v) => block_all (h.keeps b10)
                obtain ⟨SM, hSM⟩ : ∃ SM, sameP (shortP x) (shortP y) = SM := ⟨_, rfl⟩
                have HSM := Lib.hid hSM
                clear hSM b9 b10
                cases hr : rightB (shortP x) with
                | false =>
                  rw [if_neg (by decide)]
                  go_upto_region 16 with fail
                  refine wp_region_G 27 (fun v => Ext W8 v) (by kernel_rfl) fun wd hqd hHeld => ?_
                  refine G_pure (i := 0) (u := ?vb0) rfl (by kernel_rfl) (by kernel_rfl) (by kernel_rfl) (fun _ _ _ h => h) (by decide) (Or.inl ⟨by rfl, ?hyb0⟩) hHeld ?_
                  case hyb0 => (intro w hSw; go_simp; try with_reducible rfl)
                  simp only [Act.put, List.setIfInBounds_toArray, List.set_cons_zero, List.set_cons_succ, List.getElem_toArray, List.getElem_cons_zero, List.getElem_cons_succ]
                  refine G_pure (i := 1) (u := ?vb1) rfl (by kernel_rfl) (by kernel_rfl) (by kernel_rfl) (fun _ _ _ h => h) (by decide) (Or.inl ⟨by rfl, ?hyb1⟩) hHeld ?_
                  case hyb1 => (intro w hSw; go_simp; try with_reducible rfl)
                  simp only [Act.put, List.setIfInBounds_toArray, List.set_cons_zero, List.set_cons_succ, List.getElem_toArray, List.getElem_cons_zero, List.getElem_cons_succ]
                  refine G_pure (i := 2) (u := ?vb2) rfl (by kernel_rfl) (by kernel_rfl) (by kernel_rfl) (fun _ _ _ h => h) (by decide) (Or.inl ⟨by rfl, ?hyb2⟩) hHeld ?_
                  case hyb2 => (intro w hSw; go_simp; try with_reducible rfl)
                  simp only [Act.put, List.setIfInBounds_toArray, List.set_cons_zero, List.set_cons_succ, List.getElem_toArray, List.getElem_cons_zero, List.getElem_cons_succ]
                  refine G_pure (i := 3) (u := ?vb3) rfl (by kernel_rfl) (by kernel_rfl) (by kernel_rfl) (fun _ _ _ h => h) (by decide) (Or.inl ⟨by rfl, ?hyb3⟩) hHeld ?_
                  case hyb3 => (intro w hSw; go_simp; try with_reducible rfl)
                  simp only [Act.put, List.setIfInBounds_toArray, List.set_cons_zero, List.set_cons_succ, List.getElem_toArray, List.getElem_cons_zero, List.getElem_cons_succ]
                  refine G_pure (i := 4) (u := ?vb4) rfl (by kernel_rfl) (by kernel_rfl) (by kernel_rfl) (fun _ _ _ h => h) (by decide) (Or.inl ⟨by rfl, ?hyb4⟩) hHeld ?_
                  case hyb4 => (intro w hSw; go_simp; try with_reducible rfl)
                  simp only [Act.put, List.setIfInBounds_toArray, List.set_cons_zero, List.set_cons_succ, List.getElem_toArray, List.getElem_cons_zero, List.getElem_cons_succ]
                  refine G_pure (i := 5) (u := ?vb5) rfl (by kernel_rfl) (by kernel_rfl) (by kernel_rfl) (fun _ _ _ h => h) (by decide) (Or.inl ⟨by rfl, ?hyb5⟩) hHeld ?_
                  case hyb5 => (intro w hSw; go_simp; try with_reducible rfl)
                  simp only [Act.put, List.setIfInBounds_toArray, List.set_cons_zero, List.set_cons_succ, List.getElem_toArray, List.getElem_cons_zero, List.getElem_cons_succ]
                  refine G_pure (i := 6) (u := ?vb6) rfl (by kernel_rfl) (by kernel_rfl) (by kernel_rfl) (fun _ _ _ h => h) (by decide) (Or.inl ⟨by rfl, ?hyb6⟩) hHeld ?_
                  case hyb6 => (intro w hSw; go_simp; try with_reducible rfl)
                  simp only [Act.put, List.setIfInBounds_toArray, List.set_cons_zero, List.set_cons_succ, List.getElem_toArray, List.getElem_cons_zero, List.getElem_cons_succ]
                  refine G_pure (i := 7) (u := ?vb7) rfl (by kernel_rfl) (by kernel_rfl) (by kernel_rfl) (fun _ _ _ h => h) (by decide) (Or.inl ⟨by rfl, ?hyb7⟩) hHeld ?_
                  case hyb7 => (intro w hSw; go_simp; try with_reducible rfl)
                  simp only [Act.put, List.setIfInBounds_toArray, List.set_cons_zero, List.set_cons_succ, List.getElem_toArray, List.getElem_cons_zero, List.getElem_cons_succ]
                  refine G_pure (i := 8) (u := ?vb8) rfl (by kernel_rfl) (by kernel_rfl) (by kernel_rfl) (fun _ _ _ h => h) (by decide) (Or.inl ⟨by rfl, ?hyb8⟩) hHeld ?_
                  case hyb8 => (intro w hSw; go_simp; try with_reducible rfl)
                  simp only [Act.put, List.setIfInBounds_toArray, List.set_cons_zero, List.set_cons_succ, List.getElem_toArray, List.getElem_cons_zero, List.getElem_cons_succ]
                  refine G_pure (i := 9) (u := ?vb9) rfl (by kernel_rfl) (by kernel_rfl) (by kernel_rfl) (fun _ _ _ h => h) (by decide) (Or.inl ⟨by rfl, ?hyb9⟩) hHeld ?_
                  case hyb9 => (intro w hSw; go_simp; try with_reducible rfl)
                  simp only [Act.put, List.setIfInBounds_toArray, List.set_cons_zero, List.set_cons_succ, List.getElem_toArray, List.getElem_cons_zero, List.getElem_cons_succ]
                  refine G_pure (i := 10) (u := ?vb10) rfl (by kernel_rfl) (by kernel_rfl) (by kernel_rfl) (fun _ _ _ h => h) (by decide) (Or.inl ⟨by rfl, ?hyb10⟩) hHeld ?_
                  case hyb10 => (intro w hSw; go_simp; try with_reducible rfl)
                  simp only [Act.put, List.setIfInBounds_toArray, List.set_cons_zero, List.set_cons_succ, List.getElem_toArray, List.getElem_cons_zero, List.getElem_cons_succ]
                  refine G_pure (i := 11) (u := ?vb11) rfl (by kernel_rfl) (by kernel_rfl) (by kernel_rfl) (fun _ _ _ h => h) (by decide) (Or.inl ⟨by rfl, ?hyb11⟩) hHeld ?_
                  case hyb11 => (intro w hSw; go_simp; try with_reducible rfl)
                  simp only [Act.put, List.setIfInBounds_toArray, List.set_cons_zero, List.set_cons_succ, List.getElem_toArray, List.getElem_cons_zero, List.getElem_cons_succ]
                  refine G_pure (i := 12) (u := ?vb12) rfl (by kernel_rfl) (by kernel_rfl) (by kernel_rfl) (fun _ _ _ h => h) (by decide) (Or.inl ⟨by rfl, ?hyb12⟩) hHeld ?_
                  case hyb12 => (intro w hSw; go_simp; try with_reducible rfl)
                  simp only [Act.put, List.setIfInBounds_toArray, List.set_cons_zero, List.set_cons_succ, List.getElem_toArray, List.getElem_cons_zero, List.getElem_cons_succ]
                  refine C_take (i := 13) (u := ?vb13) [15, 18, 21, 27] rfl (by kernel_rfl) (by kernel_rfl) (by kernel_rfl) (fun _ _ _ h => h) (by kernel_rfl) (by kernel_rfl) (by kernel_rfl) (by kernel_rfl) (Or.inl ⟨by rfl, ?hyb13⟩) hHeld ?_
                  case hyb13 => (intro w hSw; have kk := K9 _ hSw; go_simp; try with_reducible rfl)
                  simp only [Act.put, List.setIfInBounds_toArray, List.set_cons_zero, List.set_cons_succ, List.getElem_toArray, List.getElem_cons_zero, List.getElem_cons_succ]
                  refine C_take (i := 14) (u := ?vb14) [15, 18, 21, 27] rfl (by kernel_rfl) (by kernel_rfl) (by kernel_rfl) (fun _ _ _ h => h) (by kernel_rfl) (by kernel_rfl) (by kernel_rfl) (by kernel_rfl) (Or.inl ⟨by rfl, ?hyb14⟩) hHeld ?_
                  case hyb14 => (intro w hSw; have kk := K10 _ hSw; go_simp; try with_reducible rfl)
                  simp only [Act.put, List.setIfInBounds_toArray, List.set_cons_zero, List.set_cons_succ, List.getElem_toArray, List.getElem_cons_zero, List.getElem_cons_succ]
                  refine C_take (i := 16) (u := ?vb16) [18, 21, 27] rfl (by kernel_rfl) (by kernel_rfl) (by kernel_rfl) (fun _ _ _ h => h) (by kernel_rfl) (by kernel_rfl) (by kernel_rfl) (by kernel_rfl) (Or.inl ⟨by rfl, ?hyb16⟩) hHeld ?_
                  case hyb16 => (intro w hSw; have kk := K9 _ hSw; go_simp; try with_reducible rfl)
                  simp only [Act.put, List.setIfInBounds_toArray, List.set_cons_zero, List.set_cons_succ, List.getElem_toArray, List.getElem_cons_zero, List.getElem_cons_succ]
                  refine C_take (i := 17) (u := ?vb17) [18, 21, 27] rfl (by kernel_rfl) (by kernel_rfl) (by kernel_rfl) (fun _ _ _ h => h) (by kernel_rfl) (by kernel_rfl) (by kernel_rfl) (by kernel_rfl) (Or.inl ⟨by rfl, ?hyb17⟩) hHeld ?_
                  case hyb17 => (intro w hSw; have kk := K10 _ hSw; go_simp; try with_reducible rfl)
                  simp only [Act.put, List.setIfInBounds_toArray, List.set_cons_zero, List.set_cons_succ, List.getElem_toArray, List.getElem_cons_zero, List.getElem_cons_succ]
                  refine G_all (rs := [15]) (by kernel_rfl) (by simp) ?_
                  intro i hi; obtain rfl : i = 15 := by simpa using hi
                  refine wpOp_run rfl (by rfl) ?_
                  go_simp
                  refine Calls.mono (bkSame _ _ _ (shortP x) (shortP y) (LX.out.ext hHeld) (LY.out.ext hHeld)) ?_
                  rintro e w15 ⟨rfl, x15⟩
                  rw [HSM.out]
                  have hHeld := hHeld.trans x15
                  first | refine ⟨fun _ => hHeld, ?_⟩ | refine ⟨hHeld, ?_⟩
                  try simp only [Act.put, List.setIfInBounds_toArray, List.set_cons_zero, List.set_cons_succ, List.getElem_toArray, List.getElem_cons_zero, List.getElem_cons_succ]
                  refine G_all (rs := [18]) (by kernel_rfl) (by simp) ?_
                  intro i hi; obtain rfl : i = 18 := by simpa using hi
                  refine wpOp_run rfl (by rfl) ?_
                  go_simp
                  refine Calls.mono (rbSame _ _ _ (shortP x) (shortP y) (LX.out.ext hHeld) (LY.out.ext hHeld)) ?_
                  rintro e w18 ⟨rfl, x18⟩
                  rw [HSM.out]
                  have hHeld := hHeld.trans x18
                  first | refine ⟨fun _ => hHeld, ?_⟩ | refine ⟨hHeld, ?_⟩
                  try simp only [Act.put, List.setIfInBounds_toArray, List.set_cons_zero, List.set_cons_succ, List.getElem_toArray, List.getElem_cons_zero, List.getElem_cons_succ]
                  refine G_pure (i := 19) (u := ?vb19) rfl (by kernel_rfl) (by kernel_rfl) (by kernel_rfl) (fun _ _ _ h => h) (by decide) (Or.inl ⟨by rfl, ?hyb19⟩) hHeld ?_
                  case hyb19 => (intro w hSw; go_simp; try with_reducible rfl)
                  simp only [Act.put, List.setIfInBounds_toArray, List.set_cons_zero, List.set_cons_succ, List.getElem_toArray, List.getElem_cons_zero, List.getElem_cons_succ]
                  refine G_pure (i := 20) (u := ?vb20) rfl (by kernel_rfl) (by kernel_rfl) (by kernel_rfl) (fun _ _ _ h => h) (by decide) (Or.inl ⟨by rfl, ?hyb20⟩) hHeld ?_
                  case hyb20 => (intro w hSw; go_simp; try with_reducible rfl)
                  simp only [Act.put, List.setIfInBounds_toArray, List.set_cons_zero, List.set_cons_succ, List.getElem_toArray, List.getElem_cons_zero, List.getElem_cons_succ]
                  refine G_pure (i := 21) (u := ?vb21) rfl (by kernel_rfl) (by kernel_rfl) (by kernel_rfl) (fun _ _ _ h => h) (by decide) (Or.inl ⟨by rfl, ?hyb21⟩) hHeld ?_
                  case hyb21 => (intro w hSw; go_simp; try with_reducible rfl)
                  simp only [Act.put, List.setIfInBounds_toArray, List.set_cons_zero, List.set_cons_succ, List.getElem_toArray, List.getElem_cons_zero, List.getElem_cons_succ]
                  refine C_take (i := 22) (u := ?vb22) [25, 26, 27] rfl (by kernel_rfl) (by kernel_rfl) (by kernel_rfl) (fun _ _ _ h => h) (by kernel_rfl) (by kernel_rfl) (by kernel_rfl) (by kernel_rfl) (Or.inl ⟨by rfl, ?hyb22⟩) hHeld ?_
                  case hyb22 => (intro w hSw; have kk := K9 _ hSw; go_simp; try with_reducible rfl)
                  simp only [Act.put, List.setIfInBounds_toArray, List.set_cons_zero, List.set_cons_succ, List.getElem_toArray, List.getElem_cons_zero, List.getElem_cons_succ]
                  refine C_take (i := 23) (u := ?vb23) [24, 25, 26, 27] rfl (by kernel_rfl) (by kernel_rfl) (by kernel_rfl) (fun _ _ _ h => h) (by kernel_rfl) (by kernel_rfl) (by kernel_rfl) (by kernel_rfl) (Or.inl ⟨by rfl, ?hyb23⟩) hHeld ?_
                  case hyb23 => (intro w hSw; have kk := K9 _ hSw; go_simp; try with_reducible rfl)
                  simp only [Act.put, List.setIfInBounds_toArray, List.set_cons_zero, List.set_cons_succ, List.getElem_toArray, List.getElem_cons_zero, List.getElem_cons_succ]
                  refine G_all (rs := [24]) (by kernel_rfl) (by simp) ?_
                  intro i hi; obtain rfl : i = 24 := by simpa using hi
                  refine wpOp_run rfl (by rfl) ?_
                  go_simp
                  refine Calls.mono (rbCopy _ _ (shortP x) (LX.out.ext hHeld) (by have := shortP_len x; omega)) ?_
                  rintro e w24 ⟨v24, u24, rfl, i24, x24⟩
                  obtain ⟨a24, c24, rfl⟩ := own_shape i24.own
                  have hHeld := hHeld.trans x24
                  first | refine ⟨fun _ => hHeld, ?_⟩ | refine ⟨hHeld, ?_⟩
                  try simp only [Act.put, List.setIfInBounds_toArray, List.set_cons_zero, List.set_cons_succ, List.getElem_toArray, List.getElem_cons_zero, List.getElem_cons_succ]
                  refine G_all (rs := [25]) (by kernel_rfl) (by simp) ?_
                  intro i hi; obtain rfl : i = 25 := by simpa using hi
                  refine wpOp_run rfl (by rfl) ?_
                  go_simp
                  refine Calls.mono (bkSame _ _ _ (shortP x) (shortP x) (LX.out.ext hHeld) (i24.lg (shortP_lg OX.out.2.1))) ?_
                  rintro e w25 ⟨rfl, x25⟩
                  rw [sameP_self]
                  have hHeld := hHeld.trans x25
                  first | refine ⟨fun _ => hHeld, ?_⟩ | refine ⟨hHeld, ?_⟩
                  try simp only [Act.put, List.setIfInBounds_toArray, List.set_cons_zero, List.set_cons_succ, List.getElem_toArray, List.getElem_cons_zero, List.getElem_cons_succ]
                  refine G_pure (i := 26) (u := ?vb26) rfl (by kernel_rfl) (by kernel_rfl) (by kernel_rfl) (fun _ _ _ h => h) (by decide) (Or.inl ⟨by rfl, ?hyb26⟩) hHeld ?_
                  case hyb26 => (intro w hSw; go_simp; try with_reducible rfl)
                  simp only [Act.put, List.setIfInBounds_toArray, List.set_cons_zero, List.set_cons_succ, List.getElem_toArray, List.getElem_cons_zero, List.getElem_cons_succ]
                  refine G_all (rs := [27]) (by kernel_rfl) (by simp) ?_
                  intro i hi; obtain rfl : i = 27 := by simpa using hi
                  refine wpOp_run rfl (by rfl) ?_
                  go_simp
                  try refine ⟨fun e => absurd e (by decide), ?_⟩
                  refine G_free _ _ _ _ (by kernel_rfl) ?_
                  try simp only [Act.put, List.setIfInBounds_toArray, List.set_cons_zero, List.set_cons_succ, List.getElem_toArray, List.getElem_cons_zero, List.getElem_cons_succ]
                  refine wpAny_done (by kernel_rfl) ?_ _
                  refine NoPanic.normal ?_
                  clear K9 K10
                  go_wp2_with fail
                  go_roundg (l.length - (k + 1))
                  case measure => omega
                  case rel => exact ⟨k + 1, by omega, by omega, by go_num, HX.out.trans hHeld⟩
                | true =>
                  rw [if_pos rfl]
                  go_upto_region 16 with fail
                  refine wp_region_G 27 (fun v => Ext W8 v) (by kernel_rfl) fun wd hqd hHeld => ?_
                  refine G_pure (i := 0) (u := ?vc0) rfl (by kernel_rfl) (by kernel_rfl) (by kernel_rfl) (fun _ _ _ h => h) (by decide) (Or.inl ⟨by rfl, ?hyc0⟩) hHeld ?_
                  case hyc0 => (intro w hSw; go_simp; try with_reducible rfl)
                  simp only [Act.put, List.setIfInBounds_toArray, List.set_cons_zero, List.set_cons_succ, List.getElem_toArray, List.getElem_cons_zero, List.getElem_cons_succ]
                  refine G_pure (i := 1) (u := ?vc1) rfl (by kernel_rfl) (by kernel_rfl) (by kernel_rfl) (fun _ _ _ h => h) (by decide) (Or.inl ⟨by rfl, ?hyc1⟩) hHeld ?_
                  case hyc1 => (intro w hSw; go_simp; try with_reducible rfl)
                  simp only [Act.put, List.setIfInBounds_toArray, List.set_cons_zero, List.set_cons_succ, List.getElem_toArray, List.getElem_cons_zero, List.getElem_cons_succ]
                  refine G_pure (i := 2) (u := ?vc2) rfl (by kernel_rfl) (by kernel_rfl) (by kernel_rfl) (fun _ _ _ h => h) (by decide) (Or.inl ⟨by rfl, ?hyc2⟩) hHeld ?_
                  case hyc2 => (intro w hSw; go_simp; try with_reducible rfl)
                  simp only [Act.put, List.setIfInBounds_toArray, List.set_cons_zero, List.set_cons_succ, List.getElem_toArray, List.getElem_cons_zero, List.getElem_cons_succ]
                  refine G_pure (i := 3) (u := ?vc3) rfl (by kernel_rfl) (by kernel_rfl) (by kernel_rfl) (fun _ _ _ h => h) (by decide) (Or.inl ⟨by rfl, ?hyc3⟩) hHeld ?_
                  case hyc3 => (intro w hSw; go_simp; try with_reducible rfl)
                  simp only [Act.put, List.setIfInBounds_toArray, List.set_cons_zero, List.set_cons_succ, List.getElem_toArray, List.getElem_cons_zero, List.getElem_cons_succ]
                  refine G_pure (i := 4) (u := ?vc4) rfl (by kernel_rfl) (by kernel_rfl) (by kernel_rfl) (fun _ _ _ h => h) (by decide) (Or.inl ⟨by rfl, ?hyc4⟩) hHeld ?_
                  case hyc4 => (intro w hSw; go_simp; try with_reducible rfl)
                  simp only [Act.put, List.setIfInBounds_toArray, List.set_cons_zero, List.set_cons_succ, List.getElem_toArray, List.getElem_cons_zero, List.getElem_cons_succ]
                  refine G_pure (i := 5) (u := ?vc5) rfl (by kernel_rfl) (by kernel_rfl) (by kernel_rfl) (fun _ _ _ h => h) (by decide) (Or.inl ⟨by rfl, ?hyc5⟩) hHeld ?_
                  case hyc5 => (intro w hSw; go_simp; try with_reducible rfl)
                  simp only [Act.put, List.setIfInBounds_toArray, List.set_cons_zero, List.set_cons_succ, List.getElem_toArray, List.getElem_cons_zero, List.getElem_cons_succ]
                  refine G_pure (i := 6) (u := ?vc6) rfl (by kernel_rfl) (by kernel_rfl) (by kernel_rfl) (fun _ _ _ h => h) (by decide) (Or.inl ⟨by rfl, ?hyc6⟩) hHeld ?_
                  case hyc6 => (intro w hSw; go_simp; try with_reducible rfl)
                  simp only [Act.put, List.setIfInBounds_toArray, List.set_cons_zero, List.set_cons_succ, List.getElem_toArray, List.getElem_cons_zero, List.getElem_cons_succ]
                  refine G_pure (i := 7) (u := ?vc7) rfl (by kernel_rfl) (by kernel_rfl) (by kernel_rfl) (fun _ _ _ h => h) (by decide) (Or.inl ⟨by rfl, ?hyc7⟩) hHeld ?_
                  case hyc7 => (intro w hSw; go_simp; try with_reducible rfl)
                  simp only [Act.put, List.setIfInBounds_toArray, List.set_cons_zero, List.set_cons_succ, List.getElem_toArray, List.getElem_cons_zero, List.getElem_cons_succ]
                  refine G_pure (i := 8) (u := undef) rfl (by kernel_rfl) (by kernel_rfl) (by kernel_rfl) (fun _ _ _ h => h) (by decide) (Or.inr ⟨by rfl, rfl⟩) hHeld ?_
                  simp only [Act.put, List.setIfInBounds_toArray, List.set_cons_zero, List.set_cons_succ, List.getElem_toArray, List.getElem_cons_zero, List.getElem_cons_succ]
                  refine G_pure (i := 9) (u := undef) rfl (by kernel_rfl) (by kernel_rfl) (by kernel_rfl) (fun _ _ _ h => h) (by decide) (Or.inr ⟨by rfl, rfl⟩) hHeld ?_
                  simp only [Act.put, List.setIfInBounds_toArray, List.set_cons_zero, List.set_cons_succ, List.getElem_toArray, List.getElem_cons_zero, List.getElem_cons_succ]
                  refine G_pure (i := 10) (u := ?vc10) rfl (by kernel_rfl) (by kernel_rfl) (by kernel_rfl) (fun _ _ _ h => h) (by decide) (Or.inl ⟨by rfl, ?hyc10⟩) hHeld ?_
                  case hyc10 => (intro w hSw; go_simp; try with_reducible rfl)
                  simp only [Act.put, List.setIfInBounds_toArray, List.set_cons_zero, List.set_cons_succ, List.getElem_toArray, List.getElem_cons_zero, List.getElem_cons_succ]
                  refine G_pure (i := 11) (u := ?vc11) rfl (by kernel_rfl) (by kernel_rfl) (by kernel_rfl) (fun _ _ _ h => h) (by decide) (Or.inl ⟨by rfl, ?hyc11⟩) hHeld ?_
                  case hyc11 => (intro w hSw; go_simp; try with_reducible rfl)
                  simp only [Act.put, List.setIfInBounds_toArray, List.set_cons_zero, List.set_cons_succ, List.getElem_toArray, List.getElem_cons_zero, List.getElem_cons_succ]
                  refine G_pure (i := 12) (u := ?vc12) rfl (by kernel_rfl) (by kernel_rfl) (by kernel_rfl) (fun _ _ _ h => h) (by decide) (Or.inl ⟨by rfl, ?hyc12⟩) hHeld ?_
                  case hyc12 => (intro w hSw; go_simp; try with_reducible rfl)
                  simp only [Act.put, List.setIfInBounds_toArray, List.set_cons_zero, List.set_cons_succ, List.getElem_toArray, List.getElem_cons_zero, List.getElem_cons_succ]
                  refine C_take (i := 13) (u := ?vc13) [15, 18, 21, 27] rfl (by kernel_rfl) (by kernel_rfl) (by kernel_rfl) (fun _ _ _ h => h) (by kernel_rfl) (by kernel_rfl) (by kernel_rfl) (by kernel_rfl) (Or.inl ⟨by rfl, ?hyc13⟩) hHeld ?_
                  case hyc13 => (intro w hSw; have kk := K9 _ hSw; go_simp; try with_reducible rfl)
                  simp only [Act.put, List.setIfInBounds_toArray, List.set_cons_zero, List.set_cons_succ, List.getElem_toArray, List.getElem_cons_zero, List.getElem_cons_succ]
                  refine C_take (i := 14) (u := ?vc14) [15, 18, 21, 27] rfl (by kernel_rfl) (by kernel_rfl) (by kernel_rfl) (fun _ _ _ h => h) (by kernel_rfl) (by kernel_rfl) (by kernel_rfl) (by kernel_rfl) (Or.inl ⟨by rfl, ?hyc14⟩) hHeld ?_
                  case hyc14 => (intro w hSw; have kk := K10 _ hSw; go_simp; try with_reducible rfl)
                  simp only [Act.put, List.setIfInBounds_toArray, List.set_cons_zero, List.set_cons_succ, List.getElem_toArray, List.getElem_cons_zero, List.getElem_cons_succ]
                  refine C_take (i := 16) (u := ?vc16) [18, 21, 27] rfl (by kernel_rfl) (by kernel_rfl) (by kernel_rfl) (fun _ _ _ h => h) (by kernel_rfl) (by kernel_rfl) (by kernel_rfl) (by kernel_rfl) (Or.inl ⟨by rfl, ?hyc16⟩) hHeld ?_
                  case hyc16 => (intro w hSw; have kk := K9 _ hSw; go_simp; try with_reducible rfl)
                  simp only [Act.put, List.setIfInBounds_toArray, List.set_cons_zero, List.set_cons_succ, List.getElem_toArray, List.getElem_cons_zero, List.getElem_cons_succ]
                  refine C_take (i := 17) (u := ?vc17) [18, 21, 27] rfl (by kernel_rfl) (by kernel_rfl) (by kernel_rfl) (fun _ _ _ h => h) (by kernel_rfl) (by kernel_rfl) (by kernel_rfl) (by kernel_rfl) (Or.inl ⟨by rfl, ?hyc17⟩) hHeld ?_
                  case hyc17 => (intro w hSw; have kk := K10 _ hSw; go_simp; try with_reducible rfl)
                  simp only [Act.put, List.setIfInBounds_toArray, List.set_cons_zero, List.set_cons_succ, List.getElem_toArray, List.getElem_cons_zero, List.getElem_cons_succ]
                  refine G_all (rs := [15]) (by kernel_rfl) (by simp) ?_
                  intro i hi; obtain rfl : i = 15 := by simpa using hi
                  refine wpOp_run rfl (by rfl) ?_
                  go_simp
                  refine Calls.mono (bkSame _ _ _ (shortP x) (shortP y) (LX.out.ext hHeld) (LY.out.ext hHeld)) ?_
                  rintro e w15 ⟨rfl, x15⟩
                  rw [HSM.out]
                  have hHeld := hHeld.trans x15
                  first | refine ⟨fun _ => hHeld, ?_⟩ | refine ⟨hHeld, ?_⟩
                  try simp only [Act.put, List.setIfInBounds_toArray, List.set_cons_zero, List.set_cons_succ, List.getElem_toArray, List.getElem_cons_zero, List.getElem_cons_succ]
                  refine G_all (rs := [18]) (by kernel_rfl) (by simp) ?_
                  intro i hi; obtain rfl : i = 18 := by simpa using hi
                  refine wpOp_run rfl (by rfl) ?_
                  go_simp
                  refine Calls.mono (rbSame _ _ _ (shortP x) (shortP y) (LX.out.ext hHeld) (LY.out.ext hHeld)) ?_
                  rintro e w18 ⟨rfl, x18⟩
                  rw [HSM.out]
                  have hHeld := hHeld.trans x18
                  first | refine ⟨fun _ => hHeld, ?_⟩ | refine ⟨hHeld, ?_⟩
                  try simp only [Act.put, List.setIfInBounds_toArray, List.set_cons_zero, List.set_cons_succ, List.getElem_toArray, List.getElem_cons_zero, List.getElem_cons_succ]
                  refine G_pure (i := 19) (u := ?vc19) rfl (by kernel_rfl) (by kernel_rfl) (by kernel_rfl) (fun _ _ _ h => h) (by decide) (Or.inl ⟨by rfl, ?hyc19⟩) hHeld ?_
                  case hyc19 => (intro w hSw; go_simp; try with_reducible rfl)
                  simp only [Act.put, List.setIfInBounds_toArray, List.set_cons_zero, List.set_cons_succ, List.getElem_toArray, List.getElem_cons_zero, List.getElem_cons_succ]
                  refine G_pure (i := 20) (u := ?vc20) rfl (by kernel_rfl) (by kernel_rfl) (by kernel_rfl) (fun _ _ _ h => h) (by decide) (Or.inl ⟨by rfl, ?hyc20⟩) hHeld ?_
                  case hyc20 => (intro w hSw; go_simp; try with_reducible rfl)
                  simp only [Act.put, List.setIfInBounds_toArray, List.set_cons_zero, List.set_cons_succ, List.getElem_toArray, List.getElem_cons_zero, List.getElem_cons_succ]
                  refine G_pure (i := 21) (u := ?vc21) rfl (by kernel_rfl) (by kernel_rfl) (by kernel_rfl) (fun _ _ _ h => h) (by decide) (Or.inl ⟨by rfl, ?hyc21⟩) hHeld ?_
                  case hyc21 => (intro w hSw; go_simp; try with_reducible rfl)
                  simp only [Act.put, List.setIfInBounds_toArray, List.set_cons_zero, List.set_cons_succ, List.getElem_toArray, List.getElem_cons_zero, List.getElem_cons_succ]
                  refine C_take (i := 22) (u := ?vc22) [25, 26, 27] rfl (by kernel_rfl) (by kernel_rfl) (by kernel_rfl) (fun _ _ _ h => h) (by kernel_rfl) (by kernel_rfl) (by kernel_rfl) (by kernel_rfl) (Or.inl ⟨by rfl, ?hyc22⟩) hHeld ?_
                  case hyc22 => (intro w hSw; have kk := K9 _ hSw; go_simp; try with_reducible rfl)
                  simp only [Act.put, List.setIfInBounds_toArray, List.set_cons_zero, List.set_cons_succ, List.getElem_toArray, List.getElem_cons_zero, List.getElem_cons_succ]
                  refine C_take (i := 23) (u := ?vc23) [24, 25, 26, 27] rfl (by kernel_rfl) (by kernel_rfl) (by kernel_rfl) (fun _ _ _ h => h) (by kernel_rfl) (by kernel_rfl) (by kernel_rfl) (by kernel_rfl) (Or.inl ⟨by rfl, ?hyc23⟩) hHeld ?_
                  case hyc23 => (intro w hSw; have kk := K9 _ hSw; go_simp; try with_reducible rfl)
                  simp only [Act.put, List.setIfInBounds_toArray, List.set_cons_zero, List.set_cons_succ, List.getElem_toArray, List.getElem_cons_zero, List.getElem_cons_succ]
                  refine G_all (rs := [24]) (by kernel_rfl) (by simp) ?_
                  intro i hi; obtain rfl : i = 24 := by simpa using hi
                  refine wpOp_run rfl (by rfl) ?_
                  go_simp
                  refine Calls.mono (rbCopy _ _ (shortP x) (LX.out.ext hHeld) (by have := shortP_len x; omega)) ?_
                  rintro e w24 ⟨v24, u24, rfl, i24, x24⟩
                  obtain ⟨a24, c24, rfl⟩ := own_shape i24.own
                  have hHeld := hHeld.trans x24
                  first | refine ⟨fun _ => hHeld, ?_⟩ | refine ⟨hHeld, ?_⟩
                  try simp only [Act.put, List.setIfInBounds_toArray, List.set_cons_zero, List.set_cons_succ, List.getElem_toArray, List.getElem_cons_zero, List.getElem_cons_succ]
                  refine G_all (rs := [25]) (by kernel_rfl) (by simp) ?_
                  intro i hi; obtain rfl : i = 25 := by simpa using hi
                  refine wpOp_run rfl (by rfl) ?_
                  go_simp
                  refine Calls.mono (bkSame _ _ _ (shortP x) (shortP x) (LX.out.ext hHeld) (i24.lg (shortP_lg OX.out.2.1))) ?_
                  rintro e w25 ⟨rfl, x25⟩
                  rw [sameP_self]
                  have hHeld := hHeld.trans x25
                  first | refine ⟨fun _ => hHeld, ?_⟩ | refine ⟨hHeld, ?_⟩
                  try simp only [Act.put, List.setIfInBounds_toArray, List.set_cons_zero, List.set_cons_succ, List.getElem_toArray, List.getElem_cons_zero, List.getElem_cons_succ]
                  refine G_pure (i := 26) (u := ?vc26) rfl (by kernel_rfl) (by kernel_rfl) (by kernel_rfl) (fun _ _ _ h => h) (by decide) (Or.inl ⟨by rfl, ?hyc26⟩) hHeld ?_
                  case hyc26 => (intro w hSw; go_simp; try with_reducible rfl)
                  simp only [Act.put, List.setIfInBounds_toArray, List.set_cons_zero, List.set_cons_succ, List.getElem_toArray, List.getElem_cons_zero, List.getElem_cons_succ]
                  refine G_all (rs := [27]) (by kernel_rfl) (by simp) ?_
                  intro i hi; obtain rfl : i = 27 := by simpa using hi
                  refine wpOp_run rfl (by rfl) ?_
                  go_simp
                  try refine ⟨fun e => absurd e (by decide), ?_⟩
                  refine G_free _ _ _ _ (by kernel_rfl) ?_
                  try simp only [Act.put, List.setIfInBounds_toArray, List.set_cons_zero, List.set_cons_succ, List.getElem_toArray, List.getElem_cons_zero, List.getElem_cons_succ]
                  refine wpAny_done (by kernel_rfl) ?_ _
                  refine NoPanic.normal ?_
                  clear K9 K10
                  go_wp2_with fail
                  go_roundg (l.length - (k + 1))
                  case measure => omega
                  case rel => exact ⟨k + 1, by omega, by omega, by go_num, HX.out.trans hHeld⟩
          · obtain rfl : k = l.length := by omega
            go_wp2_with fail
            go_meet
            exact xr
      case rest =>
        go_wp2_with fail
        go_ret
        exact ⟨rfl, hcut⟩
end Go.Proofs.YtkcddcomjbihgaaDoor
