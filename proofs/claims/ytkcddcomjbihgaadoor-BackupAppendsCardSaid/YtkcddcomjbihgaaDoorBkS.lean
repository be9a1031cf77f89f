/- Backup: Take. -/
import Derived.Test.YtkcddcomjbihgaaDoorBkR
namespace Go.Proofs.YtkcddcomjbihgaaDoor
open Go.RowKit
set_option linter.unusedVariables false
set_option linter.unusedSimpArgs false

theorem results_cell_tmp3 {P : Program} {fn : Func} {p q r s : Tmp} {ty : TypeId} (h : fn.results = #[.cell p ty, .tmp q, .tmp r, .tmp s]) (tmps : Array Value) (w : World) (g : Nat) (t : TypeId) (cs : Array Value) (fr : Nat × Nat) (d : TypeDesc)
    (hp : tmps.getD p undef = .pointer (some ⟨g, 0, none⟩)) (hg : w.heap[g]? = some (.cells cs t fr))
    (hu : P.underlying ty = some d) (hd : (match d with | .struct _ | .array _ _ => true | _ => false) = true) (hi : (P.info? ty).map (·.size) = some cs.size) :
    (results fn tmps).run P w = .ok (.tuple #[.agg cs, tmps.getD q undef, tmps.getD r undef, tmps.getD s undef]) w := by
  have hp' : tmps[p]?.getD undef = .pointer (some ⟨g, 0, none⟩) := by simpa using hp
  simp [results, h, hp', asAddr, run_loadVar_row w g t ty cs fr d hg hu hd hi]
/-- Entries, each with the mark ahead of it. -/
def entsM : Mk → List LgE → List (Mk × LgE)
  | b, e :: l => (b, e) :: entsM e.m l
  | _, [] => []
theorem entsL_map : ∀ (b : Mk) (l : List LgE) (us : List Hd), us.length = l.length → (entsL b l us).map (fun x => (x.1, x.2.1)) = entsM b l
  | _, [], [], _ => rfl
  | b, e :: l, u :: us, h => by
    rw [entsL, entsM, List.map_cons, entsL_map e.m l us (by simpa using h)]
def behM (p : Pr) (n : Nat) : List LtE := if n < p.base.2 then [] else (((entsM p.base p.log).filter (fun x => decide (n < x.2.m.2))).take 4).map (fun x => ⟨otherI p, encN ⟨3, p.v.n, x.2.m, x.1, x.2.b⟩⟩)
theorem behL_eq (p : Pr) (n : Nat) (us : List Hd) (h : us.length = p.log.length) : behL p n us = behM p n := by
  unfold behL behM
  split
  · rfl
  · rw [← entsL_map p.base p.log us h]
    unfold behF
    rw [List.filter_map, List.map_take, List.map_take, List.map_map]
    rfl
def leadM (p : Pr) (n : Nt) (b : List UInt8) : List LtE :=
  if (n.kind == 1) = false then [] else if meq n.mark (lastM p) = true then [⟨otherI p, encN ⟨2, p.v.n, n.mark, m0, []⟩⟩]
  else if hasB p n.mark = true then behM p n.mark.2 else if b.length ≤ 40000 then [⟨otherI p, encN ⟨4, p.v.n, lastM p, m0, b⟩⟩] else []
theorem leadL_eq (p : Pr) (us : List Hd) (n : Nt) (b : List UInt8) (h : us.length = p.log.length) : leadL p us n b = leadM p n b := by
  unfold leadL leadM
  rw [behL_eq p _ us h]
theorem heardP_log (p : Pr) (n : Nt) : (heardP p n).log = p.log := by unfold heardP; split <;> rfl
theorem enB_len (vn : Nat) : ∀ (b : Mk) (l : List LgE), enB vn b l = true → ∀ e ∈ l, e.b.length ≤ 40000
  | _, [], _ => by simp
  | b, x :: l, h => by
    unfold enB at h
    simp only [Bool.and_eq_true, decide_eq_true_eq] at h
    intro e he
    rcases List.mem_cons.1 he with rfl | he
    · exact h.1.2.2.2
    · exact enB_len vn x.m l h.2 e he
theorem right_parts {p : Pr} (h : rightB p = true) : p.log.length ≤ 16 ∧ ∀ e ∈ p.log, e.b.length ≤ 40000 := by
  unfold rightB at h
  simp only [Bool.and_eq_true, decide_eq_true_eq] at h
  obtain ⟨⟨⟨⟨⟨_, h1⟩, _⟩, h2⟩, _⟩, _⟩ := h
  exact ⟨h1, enB_len _ _ _ h2⟩
def takesB (p : Pr) (who : Int) (n : Nt) : Bool := (who == otherI p) && ((n.view : Int) == (p.v.n : Int))
def takeErr (p : Pr) (who : Int) (b : List UInt8) : Int := if rightB p = false then 360 else if serverB who = false then 2 else decErr b
def takeP (p : Pr) (who : Int) (n : Nt) : Pr := if takesB p who n = true then (if primB p = true then heardP p n else folP p n) else p
def takeL (p : Pr) (who : Int) (n : Nt) (whole : List UInt8) : List LtE := if takesB p who n = true then (if primB p = true then leadM (heardP p n) n whole else folL p n) else []
def takeW (p : Pr) (who : Int) (n : Nt) : List WkE := if takesB p who n = true then (if primB p = true then [] else folW p n) else []
/-- What Take gives. -/
def TakePost (w : World) (p : Pr) (who : Int) (b whole : List UInt8) (e : Ending) (w' : World) : Prop :=
  Ext w w' ∧ ((takeErr p who b ≠ 0 ∧ e = .returned (.tuple #[.agg #[.int .i64 (newP 0).me, .int .u32 ((newP 0).v.n : Int), .int .i64 (newP 0).v.p, .int .i64 (newP 0).v.b, .int .u32 ((newP 0).base.1 : Int), .int .u32 ((newP 0).base.2 : Int), (.slice none 0 0), .bool (newP 0).known, .bool (newP 0).joined, .bool (newP 0).instep, .int .u32 ((newP 0).acked : Int)], .slice none 0 0, .slice none 0 0, .int .i64 (takeErr p who b)]))
    ∨ (takeErr p who b = 0 ∧ ∃ vl ul vo uo vw uw, e = .returned (.tuple #[.agg #[.int .i64 (takeP p who (decN b)).me, .int .u32 ((takeP p who (decN b)).v.n : Int), .int .i64 (takeP p who (decN b)).v.p, .int .i64 (takeP p who (decN b)).v.b, .int .u32 ((takeP p who (decN b)).base.1 : Int), .int .u32 ((takeP p who (decN b)).base.2 : Int), vl, .bool (takeP p who (decN b)).known, .bool (takeP p who (decN b)).joined, .bool (takeP p who (decN b)).instep, .int .u32 ((takeP p who (decN b)).acked : Int)], vo, vw, .int .i64 0]) ∧ LgFr w' w.heap.size vl (takeP p who (decN b)).log ul ∧ LtOwn w' w.heap.size vo (takeL p who (decN b) whole) uo ∧ WkOwn w' w.heap.size vw (takeW p who (decN b)) uw))
theorem take_err {w : World} {p : Pr} {who : Int} {b whole : List UInt8} {z : Int} (h : takeErr p who b = z) (hz : z ≠ 0) {w' : World} (x : Ext w w') : TakePost w p who b whole (.returned (.tuple #[.agg #[.int .i64 (newP 0).me, .int .u32 ((newP 0).v.n : Int), .int .i64 (newP 0).v.p, .int .i64 (newP 0).v.b, .int .u32 ((newP 0).base.1 : Int), .int .u32 ((newP 0).base.2 : Int), (.slice none 0 0), .bool (newP 0).known, .bool (newP 0).joined, .bool (newP 0).instep, .int .u32 ((newP 0).acked : Int)], .slice none 0 0, .slice none 0 0, .int .i64 z])) w' :=
  ⟨x, .inl ⟨by rw [h]; exact hz, by rw [h]⟩⟩
theorem noted_dec {b : List UInt8} (h : decErr b = 0) : notedB (decN b) = true := by
  unfold decErr at h
  split at h
  · omega
  · split at h
    · omega
    · split at h
      · omega
      · split at h
        · omega
        · rename_i hh
          cases hq : notedB (decN b) with
          | true => rfl
          | false => exact absurd (Or.inr hq) hh
set_option maxHeartbeats 2000000 in
set_option maxRecDepth 100000 in
theorem bkTake (w : World) (vl vb vw : Value) (p : Pr) (us : List Hd) (who : Int) (b whole : List UInt8) (hok : ∀ e ∈ p.log, lgOk e) (hus : IsLgU w vl p.log us) (hp : PrOk p) (hb : IsB w vb b) (hbl : b.length ≤ 1000000) (hw : IsB w vw whole) (hK : Tabs w) :
    Calls Tryd.prog 43 #[.agg #[.int .i64 p.me, .int .u32 (p.v.n : Int), .int .i64 p.v.p, .int .i64 p.v.b, .int .u32 (p.base.1 : Int), .int .u32 (p.base.2 : Int), vl, .bool p.known, .bool p.joined, .bool p.instep, .int .u32 (p.acked : Int)], .int .i64 who, vb, vw] w (TakePost w p who b whole) := by
  have hg1 : (1 : Nat) < w.heap.size := World.block_lt_of_cell? _ _ (hK.k 0 (by omega))
  have hg2 : (0 : Nat) < w.heap.size := World.block_lt_of_cell? _ _ (hK.s 0 (by omega))
  obtain ⟨ao, cap, rfl, -⟩ := hus.opened
  obtain ⟨ab, cb, rfl, -⟩ := hb.opened
  obtain ⟨aw, cw, rfl, -⟩ := hw.opened
  have HUS := Lib.hid hus
  have HB := Lib.hid hb
  have HW := Lib.hid hw
  clear hus hb hw
  go_enter Tryd.func43, Tryd.ntmps43
  go_upto_region 1 with fail
  refine wp_forget (fun W => Ext w W ∧ W.heap[w.heap.size]? = some (.cells #[.int .i64 p.me, .int .u32 (p.v.n : Int), .int .i64 p.v.p, .int .i64 p.v.b, .int .u32 (p.base.1 : Int), .int .u32 (p.base.2 : Int), (.slice ao p.log.length cap), .bool p.known, .bool p.joined, .bool p.instep, .int .u32 (p.acked : Int)] 47 (0, 0)) ∧ W.heap[w.heap.size + 1]? = some (.cells #[.int .i64 (newP 0).me, .int .u32 ((newP 0).v.n : Int), .int .i64 (newP 0).v.p, .int .i64 (newP 0).v.b, .int .u32 ((newP 0).base.1 : Int), .int .u32 ((newP 0).base.2 : Int), (.slice none 0 0), .bool (newP 0).known, .bool (newP 0).joined, .bool (newP 0).instep, .int .u32 ((newP 0).acked : Int)] 47 (0, 0))) ⟨((Ext.refl w).alloc _).alloc _, blk_old (heap_alloc_new w _), blk_new (by simp)⟩ ?_
  rintro W ⟨X, bP, bZ⟩
  have HX := Lib.hid X
  have hc := block_all bP
  clear X
  cases hr : rightB p with
  | false =>
    have HR := Lib.hid hr
    have HE := Lib.hid (show takeErr p who b = 360 by unfold takeErr; rw [if_pos hr])
    have HZ := Lib.hid (show (360 : Int) ≠ 0 by decide)
    clear hr
    go_wp2_with fail
    refine (bkCheckF _ _ p ⟨hok, us, HUS.out.ext HX.out⟩ hp HR.out).mono ?_
    rintro e w1 ⟨rfl, y⟩
    have bZ := y.keeps bZ
    have HX := Lib.hid (HX.out.trans y)
    clear y hc
    go_wp2_with (((with_reducible refine at_store 47 (.tmp 8) (.tmp 20) ?_); go_must (refine wpl_store rfl 47 (.tmp 8) (.tmp 20) rfl (w.heap.size + 1) #[.int .i64 (newP 0).me, .int .u32 ((newP 0).v.n : Int), .int .i64 (newP 0).v.p, .int .i64 (newP 0).v.b, .int .u32 ((newP 0).base.1 : Int), .int .u32 ((newP 0).base.2 : Int), (.slice none 0 0), .bool (newP 0).known, .bool (newP 0).joined, .bool (newP 0).instep, .int .u32 ((newP 0).acked : Int)] (by rfl) (by rfl) 47 _ bZ (by kernel_rfl) rfl (pr_one _ _ _ _) ?_); rw [setRow_self _ (w.heap.size + 1) _ _ _ bZ]))
    exact bodyPost_ret (results_cell_tmp3 (p := 8) (q := 9) (r := 10) (s := 11) rfl _ _ (w.heap.size + 1) _ _ _ _ (by rfl) bZ Tryd.underlying47 rfl (by kernel_rfl)) rfl (take_err HE.out HZ.out HX.out)
  | true =>
    have HR := Lib.hid hr
    obtain ⟨hl16, hlb⟩ := right_parts hr
    have r1 := Lib.hid (show ¬ rightB p = false by rw [hr]; decide)
    clear hr
    go_wp2_with fail
    refine (bkCheckT _ _ p ⟨hok, us, HUS.out.ext HX.out⟩ hp HR.out).mono ?_
    rintro e w1 ⟨rfl, y⟩
    have bZ := y.keeps bZ
    have bP := y.keeps bP
    have HX := Lib.hid (HX.out.trans y)
    have hc := block_all bP
    clear y
    cases hs : serverB who with
    | false =>
      have HS := Lib.hid hs
      have HE := Lib.hid (show takeErr p who b = 2 by unfold takeErr; rw [if_neg r1.out, if_pos hs])
      have HZ := Lib.hid (show (2 : Int) ≠ 0 by decide)
      clear hs
      go_wp2_with fail
      refine (bkServer _ who).mono ?_
      rintro e w2 ⟨rfl, rfl⟩
      rw [HS.out]
      clear hc
      go_wp2_with (((with_reducible refine at_store 47 (.tmp 8) (.tmp 24) ?_); go_must (refine wpl_store rfl 47 (.tmp 8) (.tmp 24) rfl (w.heap.size + 1) #[.int .i64 (newP 0).me, .int .u32 ((newP 0).v.n : Int), .int .i64 (newP 0).v.p, .int .i64 (newP 0).v.b, .int .u32 ((newP 0).base.1 : Int), .int .u32 ((newP 0).base.2 : Int), (.slice none 0 0), .bool (newP 0).known, .bool (newP 0).joined, .bool (newP 0).instep, .int .u32 ((newP 0).acked : Int)] (by rfl) (by rfl) 47 _ bZ (by kernel_rfl) rfl (pr_one _ _ _ _) ?_); rw [setRow_self _ (w.heap.size + 1) _ _ _ bZ]))
      exact bodyPost_ret (results_cell_tmp3 (p := 8) (q := 9) (r := 10) (s := 11) rfl _ _ (w.heap.size + 1) _ _ _ _ (by rfl) bZ Tryd.underlying47 rfl (by kernel_rfl)) rfl (take_err HE.out HZ.out HX.out)
    | true =>
      have HS := Lib.hid hs
      have HE0 := Lib.hid (show takeErr p who b = decErr b by unfold takeErr; rw [if_neg r1.out, if_neg (by rw [hs]; decide)])
      clear hs
      go_wp2_with fail
      refine (bkServer _ who).mono ?_
      rintro e w2 ⟨rfl, rfl⟩
      rw [HS.out]
      go_wp2_with fail
      have hXz := HX.out.size
      refine (bkDecode _ _ b (HB.out.ext HX.out) hbl (hK.ext HX.out)).mono ?_
      rintro e w2 ⟨y, hpost⟩
      have bZ := y.keeps bZ
      have bP := y.keeps bP
      have HX := Lib.hid (HX.out.trans y)
      have hc := block_all bP
      have hz2 := block_lt bZ
      clear y
      rcases hpost with ⟨hz, rfl⟩ | ⟨hz, vn, rfl, ownN⟩
      · obtain ⟨E, hE⟩ : ∃ E, decErr b = E := ⟨_, rfl⟩
        rw [hE] at hz ⊢
        have HE := Lib.hid (HE0.out.trans hE)
        have HZ := Lib.hid hz
        have q1 : (E != 0) = true := by rw [bne_iff_ne]; exact hz
        have q2 : (E == 0) = false := by rw [beq_eq_false_iff_ne]; exact hz
        clear hz hE HE0
        go_upto_region 6 with (((with_reducible refine at_store 30 (.tmp 12) (.tmp 28) ?_); go_must (refine wpl_store rfl 30 (.tmp 12) (.tmp 28) rfl w2.heap.size #[.int .i64 n0.kind, .int .u32 (n0.view : Int), .int .u32 (n0.mark.1 : Int), .int .u32 (n0.mark.2 : Int), .int .u32 (n0.prev.1 : Int), .int .u32 (n0.prev.2 : Int), (.slice none 0 0)] (by rfl) (by rfl) 30 _ (heap_alloc_new w2 _) (by kernel_rfl) rfl (nt_one _ _ _ _) ?_)))
        refine wp_forget (fun W => Ext w W ∧ W.heap[w.heap.size + 1]? = some (.cells #[.int .i64 (newP 0).me, .int .u32 ((newP 0).v.n : Int), .int .i64 (newP 0).v.p, .int .i64 (newP 0).v.b, .int .u32 ((newP 0).base.1 : Int), .int .u32 ((newP 0).base.2 : Int), (.slice none 0 0), .bool (newP 0).known, .bool (newP 0).joined, .bool (newP 0).instep, .int .u32 ((newP 0).acked : Int)] 47 (0, 0))) ⟨(HX.out.alloc _).grown grown_setRow (fun k hk => by cases hk; have := HX.out.size; omega), grown_other grown_setRow (blk_old bZ) (by omega)⟩ ?_
        rintro W2 ⟨X, bZ⟩
        have HX := Lib.hid X
        clear X hc bP
        go_wp2_with (((with_reducible refine at_store 47 (.tmp 8) (.tmp 32) ?_); go_must (refine wpl_store rfl 47 (.tmp 8) (.tmp 32) rfl (w.heap.size + 1) #[.int .i64 (newP 0).me, .int .u32 ((newP 0).v.n : Int), .int .i64 (newP 0).v.p, .int .i64 (newP 0).v.b, .int .u32 ((newP 0).base.1 : Int), .int .u32 ((newP 0).base.2 : Int), (.slice none 0 0), .bool (newP 0).known, .bool (newP 0).joined, .bool (newP 0).instep, .int .u32 ((newP 0).acked : Int)] (by rfl) (by rfl) 47 _ bZ (by kernel_rfl) rfl (pr_one _ _ _ _) ?_); rw [setRow_self _ (w.heap.size + 1) _ _ _ bZ]))
        exact bodyPost_ret (results_cell_tmp3 (p := 8) (q := 9) (r := 10) (s := 11) rfl _ _ (w.heap.size + 1) _ _ _ _ (by rfl) bZ Tryd.underlying47 rfl (by kernel_rfl)) rfl (take_err HE.out HZ.out HX.out)
      · obtain ⟨an, cn, rfl⟩ := own_shape ownN
        have HE := Lib.hid (HE0.out.trans hz)
        have hnb := noted_len (noted_dec hz)
        have HNO := Lib.hid (decN_ok b)
        obtain ⟨N, hN⟩ : ∃ N, decN b = N := ⟨_, rfl⟩
        rw [hN] at hnb ownN HNO ⊢
        have HNe := Lib.hid hN
        have HNB := Lib.hid hnb
        have ownN := ownsRow_base ownN hXz
        clear hN hz hnb
        go_upto_region 6 with (((with_reducible refine at_store 30 (.tmp 12) (.tmp 28) ?_); go_must (refine wpl_store rfl 30 (.tmp 12) (.tmp 28) rfl w2.heap.size #[.int .i64 N.kind, .int .u32 (N.view : Int), .int .u32 (N.mark.1 : Int), .int .u32 (N.mark.2 : Int), .int .u32 (N.prev.1 : Int), .int .u32 (N.prev.2 : Int), (.slice an N.bytes.length cn)] (by rfl) (by rfl) 30 _ (heap_alloc_new w2 _) (by kernel_rfl) rfl (nt_one _ _ _ _) ?_)))
        have hnew := heap_alloc_new w2 (.cells #[.int .i64 n0.kind, .int .u32 (n0.view : Int), .int .u32 (n0.mark.1 : Int), .int .u32 (n0.mark.2 : Int), .int .u32 (n0.prev.1 : Int), .int .u32 (n0.prev.2 : Int), (.slice none 0 0)] 30)
        have ownN2 := ownsRow_ext ownN ((Ext.refl w2).alloc (.cells #[.int .i64 n0.kind, .int .u32 (n0.view : Int), .int .u32 (n0.mark.1 : Int), .int .u32 (n0.mark.2 : Int), .int .u32 (n0.prev.1 : Int), .int .u32 (n0.prev.2 : Int), (.slice none 0 0)] 30))
        have hX2 := HX.out.size
        have hP2 := block_lt bP
        refine wp_forget (fun W => Ext w W ∧ W.heap[w.heap.size]? = some (.cells #[.int .i64 p.me, .int .u32 (p.v.n : Int), .int .i64 p.v.p, .int .i64 p.v.b, .int .u32 (p.base.1 : Int), .int .u32 (p.base.2 : Int), (.slice ao p.log.length cap), .bool p.known, .bool p.joined, .bool p.instep, .int .u32 (p.acked : Int)] 47 (0, 0)) ∧ W.heap[w.heap.size + 1]? = some (.cells #[.int .i64 (newP 0).me, .int .u32 ((newP 0).v.n : Int), .int .i64 (newP 0).v.p, .int .i64 (newP 0).v.b, .int .u32 ((newP 0).base.1 : Int), .int .u32 ((newP 0).base.2 : Int), (.slice none 0 0), .bool (newP 0).known, .bool (newP 0).joined, .bool (newP 0).instep, .int .u32 ((newP 0).acked : Int)] 47 (0, 0)) ∧ W.heap[w2.heap.size]? = some (.cells #[.int .i64 N.kind, .int .u32 (N.view : Int), .int .u32 (N.mark.1 : Int), .int .u32 (N.mark.2 : Int), .int .u32 (N.prev.1 : Int), .int .u32 (N.prev.2 : Int), (.slice an N.bytes.length cn)] 30 (0, 0)) ∧ OwnB W w.heap.size (.slice an N.bytes.length cn) N.bytes) ⟨(HX.out.alloc _).grown grown_setRow (fun k hk => by cases hk; exact hX2), grown_other grown_setRow (blk_old bP) (by omega), grown_other grown_setRow (blk_old bZ) (by omega), setRow_heap _ _ _ _ _ _ hnew, ownsRow_grown ownN2 grown_setRow (own_neT ownN2 hnew (by decide))⟩ ?_
        rintro W2 ⟨X, bP, bZ, bN, ownN⟩
        obtain ⟨BN, hBN⟩ : ∃ x, x = w2.heap.size := ⟨_, rfl⟩
        rw [← hBN] at bN hz2 hX2 hP2
        rw [← hBN]
        clear hBN HX hnew ownN2 hc
        have HX := Lib.hid X
        have HO := Lib.hid ownN
        have hc := block_all bP
        have hX2' := X.size
        clear X ownN
        go_wp2_with fail
        refine (bkCloned _ _ p us (HUS.out.ext HX.out) hok (by omega)).mono ?_
        rintro e w3 ⟨v3, u3, rfl, il, y⟩
        obtain ⟨a3, k3, rfl⟩ := own_shape il.own
        have bZ := y.keeps bZ
        have bP := y.keeps bP
        have bN := y.keeps bN
        have HX := Lib.hid (HX.out.trans y)
        have HO := Lib.hid (ownsRow_ext HO.out y)
        have il := il.base hX2'
        have hc := block_all bP
        have hzN := block_lt bN
        clear y
        go_upto_region 9 with (((with_reducible refine at_store 47 (.tmp 14) (.tmp 35) ?_); go_must (refine wpl_store rfl 47 (.tmp 14) (.tmp 35) rfl w3.heap.size #[.int .i64 p.me, .int .u32 (p.v.n : Int), .int .i64 p.v.p, .int .i64 p.v.b, .int .u32 (p.base.1 : Int), .int .u32 (p.base.2 : Int), (.slice a3 p.log.length k3), .bool p.known, .bool p.joined, .bool p.instep, .int .u32 (p.acked : Int)] (by rfl) (by rfl) 47 _ (heap_alloc_new w3 _) (by kernel_rfl) rfl (pr_one _ _ _ _) ?_)))
        have hnew := heap_alloc_new w3 (.cells #[.int .i64 (newP 0).me, .int .u32 ((newP 0).v.n : Int), .int .i64 (newP 0).v.p, .int .i64 (newP 0).v.b, .int .u32 ((newP 0).base.1 : Int), .int .u32 ((newP 0).base.2 : Int), (.slice none 0 0), .bool (newP 0).known, .bool (newP 0).joined, .bool (newP 0).instep, .int .u32 ((newP 0).acked : Int)] 47)
        have xa := (Ext.refl w3).alloc (.cells #[.int .i64 (newP 0).me, .int .u32 ((newP 0).v.n : Int), .int .i64 (newP 0).v.p, .int .i64 (newP 0).v.b, .int .u32 ((newP 0).base.1 : Int), .int .u32 ((newP 0).base.2 : Int), (.slice none 0 0), .bool (newP 0).known, .bool (newP 0).joined, .bool (newP 0).instep, .int .u32 ((newP 0).acked : Int)] 47)
        have ownN := ownsRow_ext HO.out xa
        have il2 := il.ext xa
        have hX3 := HX.out.size
        refine wp_forget (fun W => Ext w W ∧ W.heap[w.heap.size]? = some (.cells #[.int .i64 p.me, .int .u32 (p.v.n : Int), .int .i64 p.v.p, .int .i64 p.v.b, .int .u32 (p.base.1 : Int), .int .u32 (p.base.2 : Int), (.slice ao p.log.length cap), .bool p.known, .bool p.joined, .bool p.instep, .int .u32 (p.acked : Int)] 47 (0, 0)) ∧ W.heap[w.heap.size + 1]? = some (.cells #[.int .i64 (newP 0).me, .int .u32 ((newP 0).v.n : Int), .int .i64 (newP 0).v.p, .int .i64 (newP 0).v.b, .int .u32 ((newP 0).base.1 : Int), .int .u32 ((newP 0).base.2 : Int), (.slice none 0 0), .bool (newP 0).known, .bool (newP 0).joined, .bool (newP 0).instep, .int .u32 ((newP 0).acked : Int)] 47 (0, 0)) ∧ W.heap[BN]? = some (.cells #[.int .i64 N.kind, .int .u32 (N.view : Int), .int .u32 (N.mark.1 : Int), .int .u32 (N.mark.2 : Int), .int .u32 (N.prev.1 : Int), .int .u32 (N.prev.2 : Int), (.slice an N.bytes.length cn)] 30 (0, 0)) ∧ OwnB W w.heap.size (.slice an N.bytes.length cn) N.bytes ∧ W.heap[w3.heap.size]? = some (.cells #[.int .i64 p.me, .int .u32 (p.v.n : Int), .int .i64 p.v.p, .int .i64 p.v.b, .int .u32 (p.base.1 : Int), .int .u32 (p.base.2 : Int), (.slice a3 p.log.length k3), .bool p.known, .bool p.joined, .bool p.instep, .int .u32 (p.acked : Int)] 47 (0, 0)) ∧ LgOwn W w.heap.size (.slice a3 p.log.length k3) p.log u3) ⟨(HX.out.alloc _).grown grown_setRow (fun k hk => by cases hk; exact hX3), grown_other grown_setRow (blk_old bP) (by omega), grown_other grown_setRow (blk_old bZ) (by omega), grown_other grown_setRow (blk_old bN) (by omega), ownsRow_grown ownN grown_setRow (own_neT ownN hnew (by decide)), setRow_heap _ _ _ _ _ _ hnew, ⟨il2.len, ownsRow_grown il2.own grown_setRow (own_neT il2.own hnew (by decide)), fun i hi u hu => ownsRow_grown (il2.bs i hi u hu) grown_setRow (own_neT (il2.bs i hi u hu) hnew (by decide))⟩⟩ ?_
        rintro W3 ⟨X, bP, bZ, bN, ownN, bQ, il3⟩
        obtain ⟨BQ, hBQ⟩ : ∃ x, x = w3.heap.size := ⟨_, rfl⟩
        rw [← hBQ] at bQ hzN hX3
        rw [← hBQ]
        clear hBQ HX hnew hc il il2 xa HO
        have HX := Lib.hid X
        have HO := Lib.hid ownN
        have HI := Lib.hid il3
        have hc := block_all bP
        have hn := block_all bN
        clear X ownN il3
        go_upto_region 12 with fail
        go_wp2_with fail
        refine (bkOther _ _ p).mono ?_
        rintro e w4 ⟨rfl, y⟩
        have bZ := y.keeps bZ
        have bP := y.keeps bP
        have bN := y.keeps bN
        have bQ := y.keeps bQ
        have HX := Lib.hid (HX.out.trans y)
        have HO := Lib.hid (ownsRow_ext HO.out y)
        have HI := Lib.hid (HI.out.ext y)
        have hc := block_all bP
        have hn := block_all bN
        clear y
        obtain ⟨TB, hTB⟩ : ∃ x, takesB p who N = x := ⟨_, rfl⟩
        cases c1 : (who == otherI p) with
        | false =>
          have hT : TB = false := by rw [← hTB]; unfold takesB; rw [c1, Bool.false_and]
          have d1 : (who != otherI p) = true := by rw [bne, c1]; rfl
          rw [hT] at hTB
          have HTB := Lib.hid hTB
          clear hTB hT
          have HTP := Lib.hid (show takeP p who N = p by unfold takeP; rw [if_neg (by rw [HTB.out]; decide)])
          have HTL := Lib.hid (show takeL p who N whole = [] by unfold takeL; rw [if_neg (by rw [HTB.out]; decide)])
          have HTW := Lib.hid (show takeW p who N = [] by unfold takeW; rw [if_neg (by rw [HTB.out]; decide)])
          have il9 := HI.out.fr
          have lo9 := LtOwn.nil w4 w.heap.size
          have wo9 := WkOwn.nil w4 w.heap.size
          obtain ⟨w9, rfl⟩ : ∃ x, x = w4 := ⟨_, rfl⟩
          have b9 := setRow_heap _ (w.heap.size + 1) _ #[.int .i64 p.me, .int .u32 (p.v.n : Int), .int .i64 p.v.p, .int .i64 p.v.b, .int .u32 (p.base.1 : Int), .int .u32 (p.base.2 : Int), (.slice a3 p.log.length k3), .bool p.known, .bool p.joined, .bool p.instep, .int .u32 (p.acked : Int)] _ _ bZ
          have g9 := grown_setRow (w := w9) (g := w.heap.size + 1) (c := #[.int .i64 p.me, .int .u32 (p.v.n : Int), .int .i64 p.v.p, .int .i64 p.v.b, .int .u32 (p.base.1 : Int), .int .u32 (p.base.2 : Int), (.slice a3 p.log.length k3), .bool p.known, .bool p.joined, .bool p.instep, .int .u32 (p.acked : Int)])
          have il9 := il9.grown g9 bZ (by decide) (by decide)
          have lo9 := lo9.grownT g9 bZ (by decide) (by decide)
          have wo9 := wo9.grownT g9 bZ (by decide) (by decide)
          have ix := HX.out.grown g9 (fun k hk => by cases hk; omega)
          have HI9 := Lib.hid il9
          have HL9 := Lib.hid lo9
          have HW9 := Lib.hid wo9
          have HIX := Lib.hid ix
          have kq := block_all bQ
          clear g9 il9 lo9 wo9 ix
          go_wp2_with (((with_reducible refine at_store 47 (.tmp 8) (.tmp 60) ?_); go_must (refine wpl_store rfl 47 (.tmp 8) (.tmp 60) rfl (w.heap.size + 1) #[.int .i64 p.me, .int .u32 (p.v.n : Int), .int .i64 p.v.p, .int .i64 p.v.b, .int .u32 (p.base.1 : Int), .int .u32 (p.base.2 : Int), (.slice a3 p.log.length k3), .bool p.known, .bool p.joined, .bool p.instep, .int .u32 (p.acked : Int)] (by rfl) (by rfl) 47 _ bZ (by kernel_rfl) rfl (pr_one _ _ _ _) ?_)))
          exact bodyPost_ret (results_cell_tmp3 (p := 8) (q := 9) (r := 10) (s := 11) rfl _ _ (w.heap.size + 1) _ _ _ _ (by rfl) b9 Tryd.underlying47 rfl (by kernel_rfl)) rfl ⟨HIX.out, .inr ⟨HE.out, (.slice a3 p.log.length k3), _, .slice none 0 0, _, .slice none 0 0, _, by rw [HNe.out, HTP.out]; rfl, by rw [HNe.out, HTP.out]; exact HI9.out, by rw [HNe.out, HTL.out]; exact HL9.out, by rw [HNe.out, HTW.out]; exact HW9.out⟩⟩
        | true =>
          have d1 : (who != otherI p) = false := by rw [bne, c1]; rfl
          cases c2 : ((N.view : Int) == (p.v.n : Int)) with
          | false =>
            have hT : TB = false := by rw [← hTB]; unfold takesB; rw [c1, c2]; rfl
            have d2 : ((N.view : Int) != (p.v.n : Int)) = true := by rw [bne, c2]; rfl
            rw [hT] at hTB
            have HTB := Lib.hid hTB
            clear hTB hT
            have HTP := Lib.hid (show takeP p who N = p by unfold takeP; rw [if_neg (by rw [HTB.out]; decide)])
            have HTL := Lib.hid (show takeL p who N whole = [] by unfold takeL; rw [if_neg (by rw [HTB.out]; decide)])
            have HTW := Lib.hid (show takeW p who N = [] by unfold takeW; rw [if_neg (by rw [HTB.out]; decide)])
            have il9 := HI.out.fr
            have lo9 := LtOwn.nil w4 w.heap.size
            have wo9 := WkOwn.nil w4 w.heap.size
            obtain ⟨w9, rfl⟩ : ∃ x, x = w4 := ⟨_, rfl⟩
            have b9 := setRow_heap _ (w.heap.size + 1) _ #[.int .i64 p.me, .int .u32 (p.v.n : Int), .int .i64 p.v.p, .int .i64 p.v.b, .int .u32 (p.base.1 : Int), .int .u32 (p.base.2 : Int), (.slice a3 p.log.length k3), .bool p.known, .bool p.joined, .bool p.instep, .int .u32 (p.acked : Int)] _ _ bZ
            have g9 := grown_setRow (w := w9) (g := w.heap.size + 1) (c := #[.int .i64 p.me, .int .u32 (p.v.n : Int), .int .i64 p.v.p, .int .i64 p.v.b, .int .u32 (p.base.1 : Int), .int .u32 (p.base.2 : Int), (.slice a3 p.log.length k3), .bool p.known, .bool p.joined, .bool p.instep, .int .u32 (p.acked : Int)])
            have il9 := il9.grown g9 bZ (by decide) (by decide)
            have lo9 := lo9.grownT g9 bZ (by decide) (by decide)
            have wo9 := wo9.grownT g9 bZ (by decide) (by decide)
            have ix := HX.out.grown g9 (fun k hk => by cases hk; omega)
            have HI9 := Lib.hid il9
            have HL9 := Lib.hid lo9
            have HW9 := Lib.hid wo9
            have HIX := Lib.hid ix
            have kq := block_all bQ
            clear g9 il9 lo9 wo9 ix
            go_wp2_with (((with_reducible refine at_store 47 (.tmp 8) (.tmp 60) ?_); go_must (refine wpl_store rfl 47 (.tmp 8) (.tmp 60) rfl (w.heap.size + 1) #[.int .i64 p.me, .int .u32 (p.v.n : Int), .int .i64 p.v.p, .int .i64 p.v.b, .int .u32 (p.base.1 : Int), .int .u32 (p.base.2 : Int), (.slice a3 p.log.length k3), .bool p.known, .bool p.joined, .bool p.instep, .int .u32 (p.acked : Int)] (by rfl) (by rfl) 47 _ bZ (by kernel_rfl) rfl (pr_one _ _ _ _) ?_)))
            exact bodyPost_ret (results_cell_tmp3 (p := 8) (q := 9) (r := 10) (s := 11) rfl _ _ (w.heap.size + 1) _ _ _ _ (by rfl) b9 Tryd.underlying47 rfl (by kernel_rfl)) rfl ⟨HIX.out, .inr ⟨HE.out, (.slice a3 p.log.length k3), _, .slice none 0 0, _, .slice none 0 0, _, by rw [HNe.out, HTP.out]; rfl, by rw [HNe.out, HTP.out]; exact HI9.out, by rw [HNe.out, HTL.out]; exact HL9.out, by rw [HNe.out, HTW.out]; exact HW9.out⟩⟩
          | true =>
            have hT : TB = true := by rw [← hTB]; unfold takesB; rw [c1, c2]; rfl
            have d2 : ((N.view : Int) != (p.v.n : Int)) = false := by rw [bne, c2]; rfl
            rw [hT] at hTB
            have HTB := Lib.hid hTB
            clear hTB hT
            go_wp2_with fail
            refine (bkPrimary _ _ p).mono ?_
            rintro e w5 ⟨rfl, y⟩
            have bZ := y.keeps bZ
            have bP := y.keeps bP
            have bN := y.keeps bN
            have bQ := y.keeps bQ
            have HX := Lib.hid (HX.out.trans y)
            have HO := Lib.hid (ownsRow_ext HO.out y)
            have HI := Lib.hid (HI.out.ext y)
            clear hc hn y
            have hn := block_all bN
            have hc := block_all bP
            cases hpb : primB p with
            | true =>
              have HPB := Lib.hid hpb
              clear hpb
              obtain ⟨P9, hP9⟩ : ∃ x, heardP p N = x := ⟨_, rfl⟩
              have hlog : P9.log = p.log := by rw [← hP9]; exact heardP_log p N
              have HTP := Lib.hid (show takeP p who N = P9 by unfold takeP; rw [if_pos HTB.out, if_pos HPB.out, hP9])
              have HTL := Lib.hid (show takeL p who N whole = leadL P9 u3 N whole by unfold takeL; rw [if_pos HTB.out, if_pos HPB.out, hP9, leadL_eq]; rw [hlog]; exact HI.out.len)
              have HTW := Lib.hid (show takeW p who N = [] by unfold takeW; rw [if_pos HTB.out, if_pos HPB.out])
              have C := bkLead w5 (.slice a3 p.log.length k3) (.slice aw whole.length cw) (.slice an N.bytes.length cn) p u3 w.heap.size N whole BQ (by omega) (by omega) bQ hok (fun e he => Nat.le_trans (hlb e he) (by omega)) HI.out.fr hp HNO.out (HW.out.ext HX.out) (hK.ext HX.out)
              rw [hP9] at C
              have HC := Lib.hid C
              have HLOG := Lib.hid hlog
              clear hP9 C hlog
              go_wp2_with fail
              refine HC.out.mono ?_
              rintro e w9 ⟨v9, u9, rfl, bQ9, lo9, gr⟩
              have bZ := grown_other gr bZ (by omega)
              have il9 : LgFr w9 w.heap.size (.slice a3 p.log.length k3) P9.log u3 := by rw [HLOG.out]; exact HI.out.fr.grown gr bQ (by decide) (by decide)
              have lo9 := lo9.base HX.out.size
              have wo9 := WkOwn.nil w9 w.heap.size
              have HX := Lib.hid (HX.out.grown gr (fun k hk => by cases hk; omega))
              clear bQ
              have bQ := bQ9
              clear bQ9 gr hc hn HC
              have b9 := setRow_heap _ (w.heap.size + 1) _ #[.int .i64 P9.me, .int .u32 (P9.v.n : Int), .int .i64 P9.v.p, .int .i64 P9.v.b, .int .u32 (P9.base.1 : Int), .int .u32 (P9.base.2 : Int), (.slice a3 p.log.length k3), .bool P9.known, .bool P9.joined, .bool P9.instep, .int .u32 (P9.acked : Int)] _ _ bZ
              have g9 := grown_setRow (w := w9) (g := w.heap.size + 1) (c := #[.int .i64 P9.me, .int .u32 (P9.v.n : Int), .int .i64 P9.v.p, .int .i64 P9.v.b, .int .u32 (P9.base.1 : Int), .int .u32 (P9.base.2 : Int), (.slice a3 p.log.length k3), .bool P9.known, .bool P9.joined, .bool P9.instep, .int .u32 (P9.acked : Int)])
              have il9 := il9.grown g9 bZ (by decide) (by decide)
              have lo9 := lo9.grownT g9 bZ (by decide) (by decide)
              have wo9 := wo9.grownT g9 bZ (by decide) (by decide)
              have ix := HX.out.grown g9 (fun k hk => by cases hk; omega)
              have HI9 := Lib.hid il9
              have HL9 := Lib.hid lo9
              have HW9 := Lib.hid wo9
              have HIX := Lib.hid ix
              have kq := block_all bQ
              clear g9 il9 lo9 wo9 ix
              go_wp2_with (((with_reducible refine at_store 47 (.tmp 8) (.tmp 60) ?_); go_must (refine wpl_store rfl 47 (.tmp 8) (.tmp 60) rfl (w.heap.size + 1) #[.int .i64 P9.me, .int .u32 (P9.v.n : Int), .int .i64 P9.v.p, .int .i64 P9.v.b, .int .u32 (P9.base.1 : Int), .int .u32 (P9.base.2 : Int), (.slice a3 p.log.length k3), .bool P9.known, .bool P9.joined, .bool P9.instep, .int .u32 (P9.acked : Int)] (by rfl) (by rfl) 47 _ bZ (by kernel_rfl) rfl (pr_one _ _ _ _) ?_)))
              exact bodyPost_ret (results_cell_tmp3 (p := 8) (q := 9) (r := 10) (s := 11) rfl _ _ (w.heap.size + 1) _ _ _ _ (by rfl) b9 Tryd.underlying47 rfl (by kernel_rfl)) rfl ⟨HIX.out, .inr ⟨HE.out, (.slice a3 p.log.length k3), _, v9, _, .slice none 0 0, _, by rw [HNe.out, HTP.out]; rfl, by rw [HNe.out, HTP.out]; exact HI9.out, by rw [HNe.out, HTL.out]; exact HL9.out, by rw [HNe.out, HTW.out]; exact HW9.out⟩⟩
            | false =>
              have HPB := Lib.hid hpb
              clear hpb
              obtain ⟨P9, hP9⟩ : ∃ x, folP p N = x := ⟨_, rfl⟩
              obtain ⟨L9, hL9⟩ : ∃ x, folL p N = x := ⟨_, rfl⟩
              obtain ⟨W9, hW9⟩ : ∃ x, folW p N = x := ⟨_, rfl⟩
              have HTP := Lib.hid (show takeP p who N = P9 by unfold takeP; rw [if_pos HTB.out, if_neg (by rw [HPB.out]; decide), hP9])
              have HTL := Lib.hid (show takeL p who N whole = L9 by unfold takeL; rw [if_pos HTB.out, if_neg (by rw [HPB.out]; decide), hL9])
              have HTW := Lib.hid (show takeW p who N = W9 by unfold takeW; rw [if_pos HTB.out, if_neg (by rw [HPB.out]; decide), hW9])
              have C := bkFollow w5 w (.slice a3 p.log.length k3) (.slice an N.bytes.length cn) p u3 w.heap.size N BQ HX.out (Nat.le_refl _) hX3 bQ hok hl16 HI.out hp HNO.out HO.out HNB.out hK
              rw [hP9, hL9, hW9] at C
              have HC := Lib.hid C
              clear hP9 hL9 hW9 C
              go_wp2_with fail
              refine HC.out.mono ?_
              rintro e w9 ⟨vl9, us9, v9, u9, vw9, uw9, rfl, bQ9, il9, lo9, wo9, X9, kp⟩
              obtain ⟨a9, k9, rfl⟩ := il9.shape
              have bZ := kp _ _ _ (by omega) (by decide) bZ
              have HX := Lib.hid X9
              clear bQ
              have bQ := bQ9
              clear bQ9 kp hc hn X9 HC
              have b9 := setRow_heap _ (w.heap.size + 1) _ #[.int .i64 P9.me, .int .u32 (P9.v.n : Int), .int .i64 P9.v.p, .int .i64 P9.v.b, .int .u32 (P9.base.1 : Int), .int .u32 (P9.base.2 : Int), (.slice a9 P9.log.length k9), .bool P9.known, .bool P9.joined, .bool P9.instep, .int .u32 (P9.acked : Int)] _ _ bZ
              have g9 := grown_setRow (w := w9) (g := w.heap.size + 1) (c := #[.int .i64 P9.me, .int .u32 (P9.v.n : Int), .int .i64 P9.v.p, .int .i64 P9.v.b, .int .u32 (P9.base.1 : Int), .int .u32 (P9.base.2 : Int), (.slice a9 P9.log.length k9), .bool P9.known, .bool P9.joined, .bool P9.instep, .int .u32 (P9.acked : Int)])
              have il9 := il9.grown g9 bZ (by decide) (by decide)
              have lo9 := lo9.grownT g9 bZ (by decide) (by decide)
              have wo9 := wo9.grownT g9 bZ (by decide) (by decide)
              have ix := HX.out.grown g9 (fun k hk => by cases hk; omega)
              have HI9 := Lib.hid il9
              have HL9 := Lib.hid lo9
              have HW9 := Lib.hid wo9
              have HIX := Lib.hid ix
              have kq := block_all bQ
              clear g9 il9 lo9 wo9 ix
              go_wp2_with (((with_reducible refine at_store 47 (.tmp 8) (.tmp 60) ?_); go_must (refine wpl_store rfl 47 (.tmp 8) (.tmp 60) rfl (w.heap.size + 1) #[.int .i64 P9.me, .int .u32 (P9.v.n : Int), .int .i64 P9.v.p, .int .i64 P9.v.b, .int .u32 (P9.base.1 : Int), .int .u32 (P9.base.2 : Int), (.slice a9 P9.log.length k9), .bool P9.known, .bool P9.joined, .bool P9.instep, .int .u32 (P9.acked : Int)] (by rfl) (by rfl) 47 _ bZ (by kernel_rfl) rfl (pr_one _ _ _ _) ?_)))
              exact bodyPost_ret (results_cell_tmp3 (p := 8) (q := 9) (r := 10) (s := 11) rfl _ _ (w.heap.size + 1) _ _ _ _ (by rfl) b9 Tryd.underlying47 rfl (by kernel_rfl)) rfl ⟨HIX.out, .inr ⟨HE.out, (.slice a9 P9.log.length k9), _, v9, _, vw9, _, by rw [HNe.out, HTP.out]; rfl, by rw [HNe.out, HTP.out]; exact HI9.out, by rw [HNe.out, HTL.out]; exact HL9.out, by rw [HNe.out, HTW.out]; exact HW9.out⟩⟩
end Go.Proofs.YtkcddcomjbihgaaDoor
