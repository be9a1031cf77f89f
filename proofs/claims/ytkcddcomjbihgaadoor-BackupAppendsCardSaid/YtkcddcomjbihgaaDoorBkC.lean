/- Backup: the iterator over a peer's entries. -/
import Derived.Test.YtkcddcomjbihgaaDoorBkB
import Derived.Test.YtkcddcomjbihgaaDoorRngD
namespace Go.Proofs.YtkcddcomjbihgaaDoor
open Go.RowKit Go.Shelf
attribute [local go_sem] Oper.semAt_some
set_option linter.unusedVariables false
set_option linter.unusedSimpArgs false

abbrev En := Mk × LgE × Hd
def entE (x : En) : Array Value := #[.agg #[.int .u32 (x.1.1 : Int), .int .u32 (x.1.2 : Int)], .agg #[.int .u32 (x.2.1.m.1 : Int), .int .u32 (x.2.1.m.2 : Int), (.slice x.2.2.1 x.2.1.b.length x.2.2.2)]]
/-- The mark ahead of entry k. -/
def prevM (b : Mk) (l : List LgE) (k : Nat) : Mk := if k = 0 then b else (l[k - 1]?.map (·.m)).getD b
def entsL : Mk → List LgE → List Hd → List En
  | b, e :: l, u :: us => (b, e, u) :: entsL e.m l us
  | _, _, _ => []
theorem entsL_len : ∀ (b : Mk) (l : List LgE) (us : List Hd), us.length = l.length → (entsL b l us).length = l.length
  | _, [], [], _ => rfl
  | b, e :: l, u :: us, h => by simp [entsL, entsL_len e.m l us (by simpa using h)]
theorem prevM_succ (b : Mk) (l : List LgE) (k : Nat) (h : k < l.length) : prevM b l (k + 1) = l[k].m := by
  unfold prevM
  simp [h]
theorem prevM_cons (b : Mk) (e : LgE) (l : List LgE) (k : Nat) (h : k ≤ l.length) : prevM b (e :: l) (k + 1) = prevM e.m l k := by
  unfold prevM
  cases k with
  | zero => simp
  | succ k =>
    simp only [Nat.add_sub_cancel, List.getElem?_cons_succ, Nat.succ_ne_zero, if_false, Nat.add_eq_zero_iff, Nat.one_ne_zero, and_false]
    rw [List.getElem?_eq_getElem (by omega)]
    rfl
theorem entsL_get : ∀ (b : Mk) (l : List LgE) (us : List Hd) (k : Nat) (h : k < l.length) (hu : k < us.length), (entsL b l us)[k]? = some (prevM b l k, l[k], us[k])
  | b, e :: l, u :: us, 0, _, _ => by simp [entsL, prevM]
  | b, e :: l, u :: us, k + 1, h, hu => by
    rw [prevM_cons b e l k (by simp at h; omega)]
    simpa [entsL] using entsL_get e.m l us k (by simpa using h) (by simpa using hu)
theorem entsL_step (b : Mk) (l : List LgE) (us : List Hd) (hl : us.length = l.length) (k : Nat) (h : k < l.length) (hu : k < us.length) : (entsL b l us).take (k + 1) = (entsL b l us).take k ++ [(prevM b l k, l[k], us[k])] := by
  rw [List.take_add_one, entsL_get b l us k h hu]
  rfl

set_option maxHeartbeats 8000000 in
set_option maxRecDepth 100000 in
theorem ent_it (n : Nat) (hn : 1 ≤ n) (we W0 : World) (Bp : Nat) (vl : Value) (p : Pr) (us : List Hd) (S : Nat → Prop) (h : IsLgU we vl p.log us) (hx : Ext we W0)
    (hB : W0.heap[Bp]? = some (.cells #[.int .i64 p.me, .int .u32 (p.v.n : Int), .int .i64 p.v.p, .int .i64 p.v.b, .int .u32 (p.base.1 : Int), .int .u32 (p.base.2 : Int), vl, .bool p.known, .bool p.joined, .bool p.instep, .int .u32 (p.acked : Int)] 47 (0, 0))) (hSl : ∀ b, b < we.heap.size → S b) (hSB : S Bp) :
    ItD Tryd.prog n 90 #[.pointer (some ⟨Bp, 0, none⟩)] entE (entsL p.base p.log us) S 1 W0 := by
  intro l J Jx W xW hJe hJs hJc hY hJ0
  have hB := xW.keeps hB
  have hwe := (hx.trans xW).size
  have hBl := block_lt hB
  have ag := Agree.of_ext (hx.trans xW)
  refine callsIn_of_wp Tryd.func90 rfl trivial ?_ rfl
  simp only [Tryd.ntmps90, List.size_toArray, List.length_cons, List.length_nil, Nat.reduceAdd, Nat.reduceSub, Array.replicate_succ, Array.replicate_zero, List.push_toArray, List.append_toArray, List.nil_append, List.cons_append]
  obtain ⟨ao, cap, rfl, b1, m1, z1, g1⟩ := h.opened
  have hc := block_all hB
  gi_wp2
  have hb2 := heap_alloc_new W (.cells #[.int .u32 (p.base.1 : Int), .int .u32 (p.base.2 : Int)] 27)
  have xM : Ext W (W.alloc (.cells #[.int .u32 (p.base.1 : Int), .int .u32 (p.base.2 : Int)] 27)) := (Ext.refl W).alloc _
  have hB := xM.keeps hB
  have ag := ag.ext xM hwe
  have hJ1 := hJe _ _ _ hJ0 xM
  have hz2 : (W.alloc (.cells #[.int .u32 (p.base.1 : Int), .int .u32 (p.base.2 : Int)] 27)).heap.size = W.heap.size + 1 := by simp
  generalize W.alloc (.cells #[.int .u32 (p.base.1 : Int), .int .u32 (p.base.2 : Int)] 27) = W2 at *
  gi_loopg [11] p.log.length (fun g s11 wr => ∃ k : Nat, k ≤ p.log.length ∧ p.log.length - k ≤ g ∧ s11 = .int .i64 (k : Int) ∧ wr.heap[W.heap.size]? = some (.cells #[.int .u32 ((prevM p.base p.log k).1 : Int), .int .u32 ((prevM p.base p.log k).2 : Int)] 27 (0, 0)) ∧ wr.heap[Bp]? = some (.cells #[.int .i64 p.me, .int .u32 (p.v.n : Int), .int .i64 p.v.p, .int .i64 p.v.b, .int .u32 (p.base.1 : Int), .int .u32 (p.base.2 : Int), (.slice ao p.log.length cap), .bool p.known, .bool p.joined, .bool p.instep, .int .u32 (p.acked : Int)] 47 (0, 0)) ∧ Agree we wr ∧ W.heap.size + 1 ≤ wr.heap.size ∧ J ((entsL p.base p.log us).take k) wr)
  case atStart => exact ⟨0, by omega, by omega, rfl, hb2, hB, ag, by omega, by simpa using hJ1⟩
  case round =>
    clear hB hc hb2 xM ag hJ1 hz2 hJ0
    obtain ⟨k, hk, hg, rfl, hM, hB, ag, hz, hJ⟩ := hrel
    by_cases hlt : k < p.log.length
    · have hu : k < us.length := by rw [h.len]; exact hlt
      obtain ⟨pb, o, rfl, e0, e1, e2⟩ := g1 k hlt hu
      have e0 := ag.cell e0
      have e1 := ag.cell e1
      have e2 := ag.cell e2
      have HST := Lib.hid (entsL_step p.base p.log us h.len k hlt hu)
      have HSU := Lib.hid (prevM_succ p.base p.log k hlt)
      have HPRE := Lib.hid (show (entsL p.base p.log us).take k ++ [(prevM p.base p.log k, p.log[k], us[k])] <+: entsL p.base p.log us by rw [← HST.out]; exact List.take_prefix _ _)
      generalize p.log[k] = x at *
      generalize us[k] = u at *
      obtain ⟨au, cu⟩ := u
      generalize prevM p.base p.log k = m at *
      generalize (entsL p.base p.log us).take k = pre at *
      have hlb : pb < wr.heap.size := World.block_lt_of_cell? _ _ e0
      have hMl := block_lt hM
      have xe : Ext wr (wr.alloc (.cells #[.int .u32 (x.m.1 : Int), .int .u32 (x.m.2 : Int), (.slice au x.b.length cu)] 108)) := (Ext.refl wr).alloc _
      obtain ⟨fn, tmps, assign, body, hy, hR⟩ := hY pre (m, x, au, cu) wr (wr.alloc (.cells #[.int .u32 (x.m.1 : Int), .int .u32 (x.m.2 : Int), (.slice au x.b.length cu)] 108)) (fun b => b < wr.heap.size + 1 ∧ (S b ∨ (W.heap.size ≤ b ∧ b < W.heap.size + 1) ∨ wr.heap.size ≤ b)) hJ xe hz (fun b hb => ⟨by simp; exact hb.1, hb.2⟩) HPRE.out
      dsimp only [entE] at hy
      have cM := block_all hM
      have HY := Lib.hid hR
      clear hR
      gi_wp2
      refine HY.out.mono ?_
      rintro e W' (⟨rfl, hJ', hk'⟩ | ⟨rfl, hJx'⟩)
      · have bE : W'.heap[wr.heap.size]? = some (.cells #[.int .u32 (x.m.1 : Int), .int .u32 (x.m.2 : Int), (.slice au x.b.length cu)] 108 (0, 0)) := (hk' wr.heap.size ⟨by omega, .inr (.inr (Nat.le_refl _))⟩).trans (heap_alloc_new wr _)
        have bM : W'.heap[W.heap.size]? = _ := (hk' W.heap.size ⟨by omega, .inr (.inl ⟨Nat.le_refl _, by omega⟩)⟩).trans (blk_old hM)
        have bB : W'.heap[Bp]? = _ := (hk' Bp ⟨by have := block_lt hB; omega, .inl hSB⟩).trans (blk_old hB)
        have ag' : Agree we W' := ag.step fun b hb => (hk' b ⟨by omega, .inl (hSl b hb)⟩).trans (xe.block (by omega))
        have cE := block_all bE
        have cM' := block_all bM
        have fM := fun i => block_free bM i
        have hz' := hJs _ _ hJ'
        have hzz := block_lt bE
        clear hk' cM e0 e1 e2 hB hM
        gi_wp2
        gi_roundg (p.log.length - (k + 1))
        case measure => omega
        case rel =>
          refine ⟨k + 1, by omega, by omega, by go_num, ?_, ?_, ?_, ?_, ?_⟩
          · rw [HSU.out]
            have := block_setCell (block_setCell bM (i := 0) (.int .u32 (x.m.1 : Int))) (i := 1) (.int .u32 (x.m.2 : Int))
            simpa using this
          · exact set_other (set_other bB (by omega)) (by omega)
          · exact (ag'.set (by omega)).set (by omega)
          · simp; omega
          · rw [HST.out]
            exact hJc _ _ _ _ _ (hJc _ _ _ _ _ hJ' (Nat.le_refl _) (by omega)) (Nat.le_refl _) (by omega)
      · gi_wp2
        refine bodyPost_ret (results_none rfl _ _ _) rfl ?_
        exact ⟨⟨_, rfl⟩, .inr ⟨_, HPRE.out, hJx'⟩⟩
    · obtain rfl : k = p.log.length := by omega
      gi_wp2
      go_end0
      exact ⟨⟨_, rfl⟩, .inl (by rw [List.take_of_length_le (by rw [entsL_len _ _ _ h.len]; exact Nat.le_refl _)] at hJ; exact hJ)⟩
end Go.Proofs.YtkcddcomjbihgaaDoor
