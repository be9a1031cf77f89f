/- Backup: Append. -/
import Derived.Test.YtkcddcomjbihgaaDoorBkJ
import Derived.Deep.DeepCutAuto
namespace Go.Proofs.YtkcddcomjbihgaaDoor
open Go.RowKit
set_option linter.unusedVariables false
set_option linter.unusedSimpArgs false

/-- The mark of the next entry. -/
def nextM (p : Pr) : Mk := (p.v.n, ((lastM p).2 + 1) % 4294967296)
def appErr (p : Pr) (b : List UInt8) : Int :=
  if rightB p = false then 360 else if primB p = false then 362 else if 40000 < b.length then 3 else if (nextM p).2 = 0 then 6 else 0
theorem results_4 {P : Program} {fn : Func} {p q r s : Tmp} {ty ty2 : TypeId} (h : fn.results = #[.cell p ty, .tmp q, .cell r ty2, .tmp s]) (tmps : Array Value) (w : World) (g g2 : Nat) (t t2 : TypeId) (cs cs2 : Array Value) (fr fr2 : Nat × Nat) (d d2 : TypeDesc)
    (hp : tmps.getD p undef = .pointer (some ⟨g, 0, none⟩)) (hg : w.heap[g]? = some (.cells cs t fr))
    (hu : P.underlying ty = some d) (hd : (match d with | .struct _ | .array _ _ => true | _ => false) = true) (hi : (P.info? ty).map (·.size) = some cs.size)
    (hp2 : tmps.getD r undef = .pointer (some ⟨g2, 0, none⟩)) (hg2 : w.heap[g2]? = some (.cells cs2 t2 fr2))
    (hu2 : P.underlying ty2 = some d2) (hd2 : (match d2 with | .struct _ | .array _ _ => true | _ => false) = true) (hi2 : (P.info? ty2).map (·.size) = some cs2.size) :
    (results fn tmps).run P w = .ok (.tuple #[.agg cs, tmps.getD q undef, .agg cs2, tmps.getD s undef]) w := by
  have hp' : tmps[p]?.getD undef = .pointer (some ⟨g, 0, none⟩) := by simpa using hp
  have hp2' : tmps[r]?.getD undef = .pointer (some ⟨g2, 0, none⟩) := by simpa using hp2
  simp [results, h, hp', hp2', asAddr, run_loadVar_row w g t ty cs fr d hg hu hd hi, run_loadVar_row w g2 t2 ty2 cs2 fr2 d2 hg2 hu2 hd2 hi2]
theorem LgFr.shape {w : World} {base : Nat} {v : Value} {l : List LgE} {us : List Hd} (h : LgFr w base v l us) : ∃ ao cap, v = .slice ao l.length cap := by
  obtain ⟨_, ao, cap, e, _⟩ := h.sl
  exact ⟨ao, cap, e⟩
theorem IsSl.grownT {w w' : World} {v : Value} {size n g : Nat} {xs : List Value} (h : IsSl w v size n xs) (gr : w.grownBy w' (some g)) (hne : ∀ b o s n c, v = .slice (some ⟨b, o, s⟩) n c → b ≠ g ∧ b < w.heap.size) : IsSl w' v size n xs := by
  obtain ⟨h1, ao, cap, rfl, h2, h3, h4, h5⟩ := h
  refine ⟨h1, ao, cap, rfl, h2, h3, h4, fun i hi => ?_⟩
  obtain ⟨b, off, e, hc⟩ := h5 i hi
  subst e
  have hn := hne b off none n cap rfl
  refine ⟨b, off, rfl, ?_⟩
  unfold World.cell? at hc ⊢
  rw [gr.block b hn.2 (by simpa using hn.1)]
  exact hc
theorem LgFr.grown {w w' : World} {base g : Nat} {v : Value} {l : List LgE} {us : List Hd} (h : LgFr w base v l us) (gr : w.grownBy w' (some g)) {c : Array Value} {t : TypeId} {f : Nat × Nat} (hg : w.heap[g]? = some (.cells c t f)) (ht : t ≠ 108) (hb : t ≠ 5) : LgFr w' base v l us := by
  have hne : ∀ b o s n c, v = .slice (some ⟨b, o, s⟩) n c → b ≠ g ∧ b < w.heap.size := fun b o s n c q => by
    obtain ⟨_, cs, hh⟩ := h.ge b o s n c q
    refine ⟨fun e => ?_, block_lt hh⟩
    subst e
    rw [hg] at hh
    simp only [Option.some.injEq, Obj.cells.injEq] at hh
    exact ht hh.2.1
  refine ⟨h.len, h.sl.grownT gr hne, fun b o s n c q => ?_, fun i hi u hu => ownsRow_grown (h.bs i hi u hu) gr (own_neT (h.bs i hi u hu) hg hb)⟩
  obtain ⟨hb1, cs, hh⟩ := h.ge b o s n c q
  have hn := hne b o s n c q
  exact ⟨hb1, cs, by rw [gr.block b hn.2 (by simpa using hn.1)]; exact hh⟩
theorem LtOwn.grownT {w w' : World} {base g : Nat} {v : Value} {l : List LtE} {us : List Hd} (h : LtOwn w base v l us) (gr : w.grownBy w' (some g)) {c : Array Value} {t : TypeId} {f : Nat × Nat} (hg : w.heap[g]? = some (.cells c t f)) (ht : t ≠ 88) (hb : t ≠ 5) : LtOwn w' base v l us :=
  ⟨h.len, ownsRow_grown h.own gr (own_neT h.own hg ht), fun i hi u hu => ownsRow_grown (h.bs i hi u hu) gr (own_neT (h.bs i hi u hu) hg hb)⟩
theorem lastM_ok {p : Pr} (hp : PrOk p) (hok : ∀ e ∈ p.log, lgOk e) : mkOk (lastM p) := by
  unfold lastM
  cases h : p.log.getLast? with
  | none => exact hp.base
  | some e => exact (hok e (List.mem_of_getLast? h)).1
theorem setRow_comm (w : World) {r1 r2 : Nat} (a b : Array Value) (h : r1 ≠ r2) : (w.setRow r1 a).setRow r2 b = (w.setRow r2 b).setRow r1 a := by
  unfold World.setRow
  simp only [World.mk.injEq, true_and, and_true]
  apply Array.ext (by simp)
  intro i h1 h2
  simp only [Array.getElem_modify]
  by_cases h3 : r1 = i
  · subst h3
    have h4 : ¬ r2 = r1 := fun e => h e.symm
    simp [h4]
  · simp [h3]
/-- What Append gives. -/
def AppPost (w : World) (p : Pr) (b : List UInt8) (e : Ending) (w' : World) : Prop :=
  Ext w w' ∧ ((appErr p b ≠ 0 ∧ e = .returned (.tuple #[.agg #[.int .i64 (newP 0).me, .int .u32 ((newP 0).v.n : Int), .int .i64 (newP 0).v.p, .int .i64 (newP 0).v.b, .int .u32 ((newP 0).base.1 : Int), .int .u32 ((newP 0).base.2 : Int), (.slice none 0 0), .bool (newP 0).known, .bool (newP 0).joined, .bool (newP 0).instep, .int .u32 ((newP 0).acked : Int)], .slice none 0 0, .agg #[.int .u32 (m0.1 : Int), .int .u32 (m0.2 : Int)], .int .i64 (appErr p b)]))
    ∨ (appErr p b = 0 ∧ ∃ vl ul vo uo, e = .returned (.tuple #[.agg #[.int .i64 (keptP p ⟨nextM p, b⟩).me, .int .u32 ((keptP p ⟨nextM p, b⟩).v.n : Int), .int .i64 (keptP p ⟨nextM p, b⟩).v.p, .int .i64 (keptP p ⟨nextM p, b⟩).v.b, .int .u32 ((keptP p ⟨nextM p, b⟩).base.1 : Int), .int .u32 ((keptP p ⟨nextM p, b⟩).base.2 : Int), vl, .bool (keptP p ⟨nextM p, b⟩).known, .bool (keptP p ⟨nextM p, b⟩).joined, .bool (keptP p ⟨nextM p, b⟩).instep, .int .u32 ((keptP p ⟨nextM p, b⟩).acked : Int)], vo, .agg #[.int .u32 ((nextM p).1 : Int), .int .u32 ((nextM p).2 : Int)], .int .i64 0])
      ∧ LgFr w' w.heap.size vl (keptP p ⟨nextM p, b⟩).log ul ∧ LtOwn w' w.heap.size vo (if p.known = true then [⟨otherI p, encN ⟨3, p.v.n, nextM p, lastM p, b⟩⟩] else []) uo))
theorem app_err {w : World} {p : Pr} {b : List UInt8} {z : Int} (h : appErr p b = z) (hz : z ≠ 0) {w' : World} (x : Ext w w') : AppPost w p b (.returned (.tuple #[.agg #[.int .i64 (newP 0).me, .int .u32 ((newP 0).v.n : Int), .int .i64 (newP 0).v.p, .int .i64 (newP 0).v.b, .int .u32 ((newP 0).base.1 : Int), .int .u32 ((newP 0).base.2 : Int), (.slice none 0 0), .bool (newP 0).known, .bool (newP 0).joined, .bool (newP 0).instep, .int .u32 ((newP 0).acked : Int)], .slice none 0 0, .agg #[.int .u32 (m0.1 : Int), .int .u32 (m0.2 : Int)], .int .i64 z])) w' :=
  ⟨x, .inl ⟨by rw [h]; exact hz, by rw [h]⟩⟩
set_option maxHeartbeats 4000000 in
set_option maxRecDepth 100000 in
theorem bkAppend (w : World) (vl vb : Value) (p : Pr) (us : List Hd) (b : List UInt8) (hok : ∀ e ∈ p.log, lgOk e) (hus : IsLgU w vl p.log us) (hp : PrOk p) (hb : IsB w vb b) (hK : Tabs w) :
    Calls Tryd.prog 18 #[.agg #[.int .i64 p.me, .int .u32 (p.v.n : Int), .int .i64 p.v.p, .int .i64 p.v.b, .int .u32 (p.base.1 : Int), .int .u32 (p.base.2 : Int), vl, .bool p.known, .bool p.joined, .bool p.instep, .int .u32 (p.acked : Int)], vb] w (AppPost w p b) := by
  obtain ⟨ao, cap, rfl, -⟩ := hus.opened
  obtain ⟨ab, cb, rfl, -⟩ := hb.opened
  go_enter Tryd.func18, Tryd.ntmps18
  go_wp2_with fail
  refine wp_forget (fun W => IsLgU W (.slice ao p.log.length cap) p.log us ∧ IsB W (.slice ab b.length cb) b ∧ Tabs W ∧ Ext w W ∧ W.heap[w.heap.size]? = some (.cells #[.int .i64 p.me, .int .u32 (p.v.n : Int), .int .i64 p.v.p, .int .i64 p.v.b, .int .u32 (p.base.1 : Int), .int .u32 (p.base.2 : Int), (.slice ao p.log.length cap), .bool p.known, .bool p.joined, .bool p.instep, .int .u32 (p.acked : Int)] 47 (0, 0)) ∧ W.heap[w.heap.size + 1]? = some (.cells #[.int .i64 (newP 0).me, .int .u32 ((newP 0).v.n : Int), .int .i64 (newP 0).v.p, .int .i64 (newP 0).v.b, .int .u32 ((newP 0).base.1 : Int), .int .u32 ((newP 0).base.2 : Int), (.slice none 0 0), .bool (newP 0).known, .bool (newP 0).joined, .bool (newP 0).instep, .int .u32 ((newP 0).acked : Int)] 47 (0, 0)) ∧ W.heap[w.heap.size + 2]? = some (.cells #[.int .u32 (m0.1 : Int), .int .u32 (m0.2 : Int)] 27 (0, 0))) ⟨hus.ext ((((Ext.refl w).alloc _).alloc _).alloc _), hb.ext ((((Ext.refl w).alloc _).alloc _).alloc _), hK.ext ((((Ext.refl w).alloc _).alloc _).alloc _), (((Ext.refl w).alloc _).alloc _).alloc _, blk_old (blk_old (heap_alloc_new w _)), blk_old (blk_new (by simp)), blk_new (by simp)⟩ ?_
  rintro W ⟨hus, hb, hK, X, bP, bZ, bM0⟩
  have hl : IsLg W (.slice ao p.log.length cap) p.log := ⟨hok, us, hus⟩
  go_cut [0, 8] from 12 to 19 (fun t0 t8 wx => ∃ B8, t8 = .pointer (some ⟨B8, 0, none⟩) ∧ W.heap.size ≤ B8 ∧ wx.heap[B8]? = some (.cells #[.int .u32 ((nextM p).1 : Int), .int .u32 ((nextM p).2 : Int)] 27 (0, 0)) ∧ Ext W wx)
  case first =>
    obtain ⟨M, hM⟩ : ∃ M, lastM p = M := ⟨_, rfl⟩
    have HM := Lib.hid hM
    have HN := Lib.hid (show nextM p = (p.v.n, (M.2 + 1) % 4294967296) by unfold nextM; rw [hM])
    have KP := fun v (h : Ext W v) => block_all (h.keeps bP)
    have hf1 := mkField1
    have HL := Lib.hid hl
    clear hM hus hb hK X bP bZ bM0 hl
    refine wp_region_G 9 (fun v => Ext W v) (by kernel_rfl) fun wd hqd hHeld => ?_
    refine G_pure (i := 0) (u := ?va1_0) rfl (by kernel_rfl) (by kernel_rfl) (by kernel_rfl) (fun _ _ _ h => h) (by decide) (Or.inl ⟨by rfl, ?hya1_0⟩) hHeld ?_
    case hya1_0 => (intro w hSw; go_simp; try with_reducible rfl)
    simp only [Act.put, List.setIfInBounds_toArray, List.set_cons_zero, List.set_cons_succ, List.getElem_toArray, List.getElem_cons_zero, List.getElem_cons_succ]
    refine G_pure (i := 1) (u := ?va2_1) rfl (by kernel_rfl) (by kernel_rfl) (by kernel_rfl) (fun _ _ _ h => h) (by decide) (Or.inl ⟨by rfl, ?hya2_1⟩) hHeld ?_
    case hya2_1 => (intro w hSw; go_simp; try with_reducible rfl)
    simp only [Act.put, List.setIfInBounds_toArray, List.set_cons_zero, List.set_cons_succ, List.getElem_toArray, List.getElem_cons_zero, List.getElem_cons_succ]
    refine G_take (i := 2) (u := ?va3_2) rfl (by kernel_rfl) (by kernel_rfl) (by kernel_rfl) (fun _ _ _ h => h) rfl (by kernel_rfl) (by decide) (by rfl) (Or.inl ⟨by rfl, ?hya3_2⟩) hHeld ?_
    case hya3_2 => (intro w hSw; go_simp; try with_reducible rfl)
    simp only [Act.put, List.setIfInBounds_toArray, List.set_cons_zero, List.set_cons_succ, List.getElem_toArray, List.getElem_cons_zero, List.getElem_cons_succ]
    refine G_take (i := 3) (u := ?va4_3) rfl (by kernel_rfl) (by kernel_rfl) (by kernel_rfl) (fun _ _ _ h => h) rfl (by kernel_rfl) (by decide) (by rfl) (Or.inl ⟨by rfl, ?hya4_3⟩) hHeld ?_
    case hya4_3 => (intro w hSw; go_simp; try with_reducible rfl)
    simp only [Act.put, List.setIfInBounds_toArray, List.set_cons_zero, List.set_cons_succ, List.getElem_toArray, List.getElem_cons_zero, List.getElem_cons_succ]
    refine G_all (rs := [4, 8]) (by kernel_rfl) (by simp) ?_
    intro i hi; have hi' : i = 4 ∨ i = 8 := by simpa using hi
    clear hi; rcases hi' with rfl | rfl
    · refine wpOp_run rfl (by rfl) ?_
      go_simp
      refine Calls.mono (bkLast _ _ p (HL.out.ext hHeld)) ?_
      rintro e w4 ⟨rfl, x4⟩
      rw [HM.out]
      have hHeld := hHeld.trans x4
      first | refine ⟨fun _ => hHeld, ?_⟩ | refine ⟨hHeld, ?_⟩
      try simp only [Act.put, List.setIfInBounds_toArray, List.set_cons_zero, List.set_cons_succ, List.getElem_toArray, List.getElem_cons_zero, List.getElem_cons_succ]
      try have b8 := x4.keeps b8
      skip
      obtain ⟨wd, rfl⟩ : ∃ x, x = w4 := ⟨_, rfl⟩
      refine G_pure (i := 5) (u := ?va5_5) rfl (by kernel_rfl) (by kernel_rfl) (by kernel_rfl) (fun _ _ _ h => h) (by decide) (Or.inl ⟨by rfl, ?hya5_5⟩) hHeld ?_
      case hya5_5 => (intro w hSw; go_simp; try with_reducible rfl)
      simp only [Act.put, List.setIfInBounds_toArray, List.set_cons_zero, List.set_cons_succ, List.getElem_toArray, List.getElem_cons_zero, List.getElem_cons_succ]
      refine G_pure (i := 6) (u := ?va6_6) rfl (by kernel_rfl) (by kernel_rfl) (by kernel_rfl) (fun _ _ _ h => h) (by decide) (Or.inl ⟨by rfl, ?hya6_6⟩) hHeld ?_
      case hya6_6 => (intro w hSw; go_simp; try with_reducible rfl)
      simp only [Act.put, List.setIfInBounds_toArray, List.set_cons_zero, List.set_cons_succ, List.getElem_toArray, List.getElem_cons_zero, List.getElem_cons_succ]
      refine G_pure (i := 7) (u := ?va7_7) rfl (by kernel_rfl) (by kernel_rfl) (by kernel_rfl) (fun _ _ _ h => h) (by decide) (Or.inl ⟨by rfl, ?hya7_7⟩) hHeld ?_
      case hya7_7 => (intro w hSw; go_simp; try with_reducible rfl)
      simp only [Act.put, List.setIfInBounds_toArray, List.set_cons_zero, List.set_cons_succ, List.getElem_toArray, List.getElem_cons_zero, List.getElem_cons_succ]
      refine G_all (rs := [8]) (by kernel_rfl) (by simp) ?_
      intro i hi; obtain rfl : i = 8 := by simpa using hi
      refine wpOp_run rfl (by rfl) ?_
      go_simp
      have b8 := heap_alloc_new wd (.cells #[.int .u32 0, .int .u32 0] 27)
      have xa : Ext wd (wd.alloc (.cells #[.int .u32 0, .int .u32 0] 27)) := (Ext.refl wd).alloc _
      have nw8 : _ ≤ wd.heap.size := hHeld.size
      have hHeld := hHeld.trans xa
      first | refine ⟨fun _ => hHeld, ?_⟩ | refine ⟨hHeld, ?_⟩
      try simp only [Act.put, List.setIfInBounds_toArray, List.set_cons_zero, List.set_cons_succ, List.getElem_toArray, List.getElem_cons_zero, List.getElem_cons_succ]
      clear xa
      generalize wd.heap.size = B8 at *
      generalize wd.alloc (.cells #[.int .u32 0, .int .u32 0] 27) = wn at *
      obtain ⟨wd, rfl⟩ : ∃ x, x = wn := ⟨_, rfl⟩
      refine G_all (rs := [9]) (by kernel_rfl) (by simp) ?_
      intro i hi; obtain rfl : i = 9 := by simpa using hi
      refine wpOp_run rfl (by rfl) ?_
      have cc := block_all b8
      have ff := fun i => block_free b8 i
      have hl8 := block_lt b8
      go_simp
      try refine ⟨fun e => absurd e (by decide), ?_⟩
      refine G_free _ _ _ _ (by kernel_rfl) ?_
      try simp only [Act.put, List.setIfInBounds_toArray, List.set_cons_zero, List.set_cons_succ, List.getElem_toArray, List.getElem_cons_zero, List.getElem_cons_succ]
      refine wpAny_done (by kernel_rfl) ?_ _
      refine NoPanic.normal ?_
      have bb := block_setCell (block_setCell b8 (i := 0) (.int .u32 (p.v.n : Int))) (i := 1) (.int .u32 (IntKind.u32.wrap ((M.2 : Int) + 1)))
      have hx := (hHeld.setCell (p := ⟨B8, 0, none⟩) nw8 (.int .u32 (p.v.n : Int))).setCell (p := ⟨B8, 1, none⟩) nw8 (.int .u32 (IntKind.u32.wrap ((M.2 : Int) + 1)))
      have HBB := Lib.hid bb
      clear bb cc ff b8
      go_wp2_with fail
      go_meet
      exact ⟨B8, rfl, nw8, by rw [HN.out]; have := HBB.out; simpa [IntKind.wrap_u32] using this, hx⟩
    · refine wpOp_run rfl (by rfl) ?_
      go_simp
      have b8 := heap_alloc_new wd (.cells #[.int .u32 0, .int .u32 0] 27)
      have xa : Ext wd (wd.alloc (.cells #[.int .u32 0, .int .u32 0] 27)) := (Ext.refl wd).alloc _
      have nw8 : _ ≤ wd.heap.size := hHeld.size
      have hHeld := hHeld.trans xa
      first | refine ⟨fun _ => hHeld, ?_⟩ | refine ⟨hHeld, ?_⟩
      try simp only [Act.put, List.setIfInBounds_toArray, List.set_cons_zero, List.set_cons_succ, List.getElem_toArray, List.getElem_cons_zero, List.getElem_cons_succ]
      clear xa
      generalize wd.heap.size = B8 at *
      generalize wd.alloc (.cells #[.int .u32 0, .int .u32 0] 27) = wn at *
      obtain ⟨wd, rfl⟩ : ∃ x, x = wn := ⟨_, rfl⟩
      refine G_all (rs := [4]) (by kernel_rfl) (by simp) ?_
      intro i hi; obtain rfl : i = 4 := by simpa using hi
      refine wpOp_run rfl (by rfl) ?_
      go_simp
      refine Calls.mono (bkLast _ _ p (HL.out.ext hHeld)) ?_
      rintro e w4 ⟨rfl, x4⟩
      rw [HM.out]
      have hHeld := hHeld.trans x4
      first | refine ⟨fun _ => hHeld, ?_⟩ | refine ⟨hHeld, ?_⟩
      try simp only [Act.put, List.setIfInBounds_toArray, List.set_cons_zero, List.set_cons_succ, List.getElem_toArray, List.getElem_cons_zero, List.getElem_cons_succ]
      try have b8 := x4.keeps b8
      skip
      obtain ⟨wd, rfl⟩ : ∃ x, x = w4 := ⟨_, rfl⟩
      refine G_pure (i := 5) (u := ?va8_5) rfl (by kernel_rfl) (by kernel_rfl) (by kernel_rfl) (fun _ _ _ h => h) (by decide) (Or.inl ⟨by rfl, ?hya8_5⟩) hHeld ?_
      case hya8_5 => (intro w hSw; go_simp; try with_reducible rfl)
      simp only [Act.put, List.setIfInBounds_toArray, List.set_cons_zero, List.set_cons_succ, List.getElem_toArray, List.getElem_cons_zero, List.getElem_cons_succ]
      refine G_pure (i := 6) (u := ?va9_6) rfl (by kernel_rfl) (by kernel_rfl) (by kernel_rfl) (fun _ _ _ h => h) (by decide) (Or.inl ⟨by rfl, ?hya9_6⟩) hHeld ?_
      case hya9_6 => (intro w hSw; go_simp; try with_reducible rfl)
      simp only [Act.put, List.setIfInBounds_toArray, List.set_cons_zero, List.set_cons_succ, List.getElem_toArray, List.getElem_cons_zero, List.getElem_cons_succ]
      refine G_pure (i := 7) (u := ?va10_7) rfl (by kernel_rfl) (by kernel_rfl) (by kernel_rfl) (fun _ _ _ h => h) (by decide) (Or.inl ⟨by rfl, ?hya10_7⟩) hHeld ?_
      case hya10_7 => (intro w hSw; go_simp; try with_reducible rfl)
      simp only [Act.put, List.setIfInBounds_toArray, List.set_cons_zero, List.set_cons_succ, List.getElem_toArray, List.getElem_cons_zero, List.getElem_cons_succ]
      refine G_all (rs := [9]) (by kernel_rfl) (by simp) ?_
      intro i hi; obtain rfl : i = 9 := by simpa using hi
      refine wpOp_run rfl (by rfl) ?_
      have cc := block_all b8
      have ff := fun i => block_free b8 i
      have hl8 := block_lt b8
      go_simp
      try refine ⟨fun e => absurd e (by decide), ?_⟩
      refine G_free _ _ _ _ (by kernel_rfl) ?_
      try simp only [Act.put, List.setIfInBounds_toArray, List.set_cons_zero, List.set_cons_succ, List.getElem_toArray, List.getElem_cons_zero, List.getElem_cons_succ]
      refine wpAny_done (by kernel_rfl) ?_ _
      refine NoPanic.normal ?_
      have bb := block_setCell (block_setCell b8 (i := 0) (.int .u32 (p.v.n : Int))) (i := 1) (.int .u32 (IntKind.u32.wrap ((M.2 : Int) + 1)))
      have hx := (hHeld.setCell (p := ⟨B8, 0, none⟩) nw8 (.int .u32 (p.v.n : Int))).setCell (p := ⟨B8, 1, none⟩) nw8 (.int .u32 (IntKind.u32.wrap ((M.2 : Int) + 1)))
      have HBB := Lib.hid bb
      clear bb cc ff b8
      go_wp2_with fail
      go_meet
      exact ⟨B8, rfl, nw8, by rw [HN.out]; have := HBB.out; simpa [IntKind.wrap_u32] using this, hx⟩
  case rest =>
    obtain ⟨B8, rfl, hB8, b8, x⟩ := hcut
    have bP := x.keeps bP
    have bZ := x.keeps bZ
    have bM0 := x.keeps bM0
    have HX := Lib.hid (X.trans x)
    have HL := Lib.hid (hl.ext x)
    have HU := Lib.hid (hus.ext x)
    have HB := Lib.hid (hb.ext x)
    have HK := Lib.hid (hK.ext x)
    have hc := block_all bP
    have c8 := block_all b8
    have hB8 : w.heap.size + 2 < B8 := by have := block_lt ‹W.heap[w.heap.size + 2]? = _›; omega
    clear X x hl hus hb hK
    obtain ⟨N, hN⟩ : ∃ N, nextM p = N := ⟨_, rfl⟩
    rw [hN] at b8 c8
    have HN := Lib.hid hN
    clear hN
    cases hr : rightB p with
    | false =>
      have HR := Lib.hid hr
      have HE := Lib.hid (show appErr p b = 360 by unfold appErr; rw [if_pos hr])
      clear hr
      go_wp2_with fail
      refine (bkCheckF _ _ p HL.out hp HR.out).mono ?_
      rintro e w1 ⟨rfl, y⟩
      have bP := y.keeps bP
      have bZ := y.keeps bZ
      have bM0 := y.keeps bM0
      have b8 := y.keeps b8
      have HX := Lib.hid (HX.out.trans y)
      have HL := Lib.hid (HL.out.ext y)
      have hc := block_all bP
      have c8 := block_all b8
      go_wp2_with (first
        | ((with_reducible refine at_store 47 (.tmp 4) (.tmp 38) ?_); go_must (refine wpl_store rfl 47 (.tmp 4) (.tmp 38) rfl (w.heap.size + 1) #[.int .i64 (newP 0).me, .int .u32 ((newP 0).v.n : Int), .int .i64 (newP 0).v.p, .int .i64 (newP 0).v.b, .int .u32 ((newP 0).base.1 : Int), .int .u32 ((newP 0).base.2 : Int), (.slice none 0 0), .bool (newP 0).known, .bool (newP 0).joined, .bool (newP 0).instep, .int .u32 ((newP 0).acked : Int)] (by rfl) (by rfl) 47 _ bZ (by kernel_rfl) rfl (pr_one _ _ _ _) ?_); rw [setRow_self _ (w.heap.size + 1) _ _ _ bZ])
        | ((with_reducible refine at_store 27 (.tmp 6) (.tmp 39) ?_); go_must (refine wpl_store rfl 27 (.tmp 6) (.tmp 39) rfl (w.heap.size + 2) #[.int .u32 (m0.1 : Int), .int .u32 (m0.2 : Int)] (by rfl) (by rfl) 27 _ bM0 (by kernel_rfl) rfl (by kernel_rfl) ?_); rw [setRow_self _ (w.heap.size + 2) _ _ _ bM0]))
      exact bodyPost_ret (results_4 (p := 4) (q := 5) (r := 6) (s := 7) rfl _ _ (w.heap.size + 1) (w.heap.size + 2) _ _ _ _ _ _ _ _ (by rfl) bZ Tryd.underlying47 rfl (by kernel_rfl) (by rfl) bM0 Tryd.underlying27 rfl (by kernel_rfl)) rfl (app_err HE.out (by omega) HX.out)
    | true =>
      have HR := Lib.hid hr
      clear hr
      go_wp2_with fail
      refine (bkCheckT _ _ p HL.out hp HR.out).mono ?_
      rintro e w1 ⟨rfl, y⟩
      have bP := y.keeps bP
      have bZ := y.keeps bZ
      have bM0 := y.keeps bM0
      have b8 := y.keeps b8
      have HX := Lib.hid (HX.out.trans y)
      have HL := Lib.hid (HL.out.ext y)
      have HU := Lib.hid (HU.out.ext y)
      have HB := Lib.hid (HB.out.ext y)
      have HK := Lib.hid (HK.out.ext y)
      have hc := block_all bP
      have c8 := block_all b8
      go_wp2_with fail
      refine (bkPrimary _ _ p).mono ?_
      rintro e w2 ⟨rfl, y⟩
      have bP := y.keeps bP
      have bZ := y.keeps bZ
      have bM0 := y.keeps bM0
      have b8 := y.keeps b8
      have HX := Lib.hid (HX.out.trans y)
      have HL := Lib.hid (HL.out.ext y)
      have HU := Lib.hid (HU.out.ext y)
      have HB := Lib.hid (HB.out.ext y)
      have HK := Lib.hid (HK.out.ext y)
      have hc := block_all bP
      have c8 := block_all b8
      have r1 : ¬ rightB p = false := by rw [HR.out]; decide
      cases hp1 : primB p with
      | false =>
        have HE := Lib.hid (show appErr p b = 362 by unfold appErr; rw [if_neg r1, if_pos hp1])
        clear hp1 r1
        go_wp2_with (first
          | ((with_reducible refine at_store 47 (.tmp 4) (.tmp 38) ?_); go_must (refine wpl_store rfl 47 (.tmp 4) (.tmp 38) rfl (w.heap.size + 1) #[.int .i64 (newP 0).me, .int .u32 ((newP 0).v.n : Int), .int .i64 (newP 0).v.p, .int .i64 (newP 0).v.b, .int .u32 ((newP 0).base.1 : Int), .int .u32 ((newP 0).base.2 : Int), (.slice none 0 0), .bool (newP 0).known, .bool (newP 0).joined, .bool (newP 0).instep, .int .u32 ((newP 0).acked : Int)] (by rfl) (by rfl) 47 _ bZ (by kernel_rfl) rfl (pr_one _ _ _ _) ?_); rw [setRow_self _ (w.heap.size + 1) _ _ _ bZ])
          | ((with_reducible refine at_store 27 (.tmp 6) (.tmp 39) ?_); go_must (refine wpl_store rfl 27 (.tmp 6) (.tmp 39) rfl (w.heap.size + 2) #[.int .u32 (m0.1 : Int), .int .u32 (m0.2 : Int)] (by rfl) (by rfl) 27 _ bM0 (by kernel_rfl) rfl (by kernel_rfl) ?_); rw [setRow_self _ (w.heap.size + 2) _ _ _ bM0]))
        exact bodyPost_ret (results_4 (p := 4) (q := 5) (r := 6) (s := 7) rfl _ _ (w.heap.size + 1) (w.heap.size + 2) _ _ _ _ _ _ _ _ (by rfl) bZ Tryd.underlying47 rfl (by kernel_rfl) (by rfl) bM0 Tryd.underlying27 rfl (by kernel_rfl)) rfl (app_err HE.out (by omega) HX.out)
      | true =>
        have r2 : ¬ primB p = false := by rw [hp1]; decide
        have HP := Lib.hid hp1
        clear hp1
        by_cases hlb : 40000 < b.length
        · have HE := Lib.hid (show appErr p b = 3 by unfold appErr; rw [if_neg r1, if_neg r2, if_pos hlb])
          have hlb' : ¬ (b.length : Int) ≤ 40000 := by omega
          clear r1 r2
          go_wp2_with (first
            | ((with_reducible refine at_store 47 (.tmp 4) (.tmp 38) ?_); go_must (refine wpl_store rfl 47 (.tmp 4) (.tmp 38) rfl (w.heap.size + 1) #[.int .i64 (newP 0).me, .int .u32 ((newP 0).v.n : Int), .int .i64 (newP 0).v.p, .int .i64 (newP 0).v.b, .int .u32 ((newP 0).base.1 : Int), .int .u32 ((newP 0).base.2 : Int), (.slice none 0 0), .bool (newP 0).known, .bool (newP 0).joined, .bool (newP 0).instep, .int .u32 ((newP 0).acked : Int)] (by rfl) (by rfl) 47 _ bZ (by kernel_rfl) rfl (pr_one _ _ _ _) ?_); rw [setRow_self _ (w.heap.size + 1) _ _ _ bZ])
            | ((with_reducible refine at_store 27 (.tmp 6) (.tmp 39) ?_); go_must (refine wpl_store rfl 27 (.tmp 6) (.tmp 39) rfl (w.heap.size + 2) #[.int .u32 (m0.1 : Int), .int .u32 (m0.2 : Int)] (by rfl) (by rfl) 27 _ bM0 (by kernel_rfl) rfl (by kernel_rfl) ?_); rw [setRow_self _ (w.heap.size + 2) _ _ _ bM0]))
          exact bodyPost_ret (results_4 (p := 4) (q := 5) (r := 6) (s := 7) rfl _ _ (w.heap.size + 1) (w.heap.size + 2) _ _ _ _ _ _ _ _ (by rfl) bZ Tryd.underlying47 rfl (by kernel_rfl) (by rfl) bM0 Tryd.underlying27 rfl (by kernel_rfl)) rfl (app_err HE.out (by omega) HX.out)
        · by_cases hm0 : N.2 = 0
          · have HE := Lib.hid (show appErr p b = 6 by unfold appErr; rw [if_neg r1, if_neg r2, if_neg hlb, HN.out, if_pos hm0])
            have hm1 : ((N.2 : Int) == 0) = true := by rw [beq_iff_eq]; omega
            have hlb' : (b.length : Int) ≤ 40000 := by omega
            clear r1 r2 hm0
            go_wp2_with (first
              | ((with_reducible refine at_store 47 (.tmp 4) (.tmp 38) ?_); go_must (refine wpl_store rfl 47 (.tmp 4) (.tmp 38) rfl (w.heap.size + 1) #[.int .i64 (newP 0).me, .int .u32 ((newP 0).v.n : Int), .int .i64 (newP 0).v.p, .int .i64 (newP 0).v.b, .int .u32 ((newP 0).base.1 : Int), .int .u32 ((newP 0).base.2 : Int), (.slice none 0 0), .bool (newP 0).known, .bool (newP 0).joined, .bool (newP 0).instep, .int .u32 ((newP 0).acked : Int)] (by rfl) (by rfl) 47 _ bZ (by kernel_rfl) rfl (pr_one _ _ _ _) ?_); rw [setRow_self _ (w.heap.size + 1) _ _ _ bZ])
              | ((with_reducible refine at_store 27 (.tmp 6) (.tmp 39) ?_); go_must (refine wpl_store rfl 27 (.tmp 6) (.tmp 39) rfl (w.heap.size + 2) #[.int .u32 (m0.1 : Int), .int .u32 (m0.2 : Int)] (by rfl) (by rfl) 27 _ bM0 (by kernel_rfl) rfl (by kernel_rfl) ?_); rw [setRow_self _ (w.heap.size + 2) _ _ _ bM0]))
            exact bodyPost_ret (results_4 (p := 4) (q := 5) (r := 6) (s := 7) rfl _ _ (w.heap.size + 1) (w.heap.size + 2) _ _ _ _ _ _ _ _ (by rfl) bZ Tryd.underlying47 rfl (by kernel_rfl) (by rfl) bM0 Tryd.underlying27 rfl (by kernel_rfl)) rfl (app_err HE.out (by omega) HX.out)
          · have HE := Lib.hid (show appErr p b = 0 by unfold appErr; rw [if_neg r1, if_neg r2, if_neg hlb, HN.out, if_neg hm0])
            have hm1 : ((N.2 : Int) == 0) = false := by rw [beq_eq_false_iff_ne]; omega
            have hlb' : (b.length : Int) ≤ 40000 := by omega
            clear r1 r2 hm0
            go_upto_region 13 with fail
            go_cut [10] from 41 to 45 (fun t10 wx => ∃ B10 v' us', t10 = .pointer (some ⟨B10, 0, none⟩) ∧ w2.heap.size ≤ B10 ∧ wx.heap[B10]? = some (.cells #[.int .i64 (keptP p ⟨N, b⟩).me, .int .u32 ((keptP p ⟨N, b⟩).v.n : Int), .int .i64 (keptP p ⟨N, b⟩).v.p, .int .i64 (keptP p ⟨N, b⟩).v.b, .int .u32 ((keptP p ⟨N, b⟩).base.1 : Int), .int .u32 ((keptP p ⟨N, b⟩).base.2 : Int), v', .bool (keptP p ⟨N, b⟩).known, .bool (keptP p ⟨N, b⟩).joined, .bool (keptP p ⟨N, b⟩).instep, .int .u32 ((keptP p ⟨N, b⟩).acked : Int)] 47 (0, 0)) ∧ LgFr wx w2.heap.size v' (keptP p ⟨N, b⟩).log us' ∧ Ext w2 wx)
            case first =>
              have KP := fun v (h : Ext w2 v) => block_all (h.keeps bP)
              have K8 := fun v (h : Ext w2 v) => block_all (h.keeps b8)
              have hll : p.log.length ≤ 16 := by
                have := HR.out
                unfold rightB at this
                simp only [Bool.and_eq_true, decide_eq_true_eq] at this
                omega
              clear bP b8 bZ bM0 hc c8
              refine wp_region_G 6 (fun v => Ext w2 v) (by kernel_rfl) fun wd hqd hHeld => ?_
              refine G_take (i := 0) (u := ?vb1_0) rfl (by kernel_rfl) (by kernel_rfl) (by kernel_rfl) (fun _ _ _ h => h) rfl (by kernel_rfl) (by decide) (by rfl) (Or.inl ⟨by rfl, ?hyb1_0⟩) hHeld ?_
              case hyb1_0 => (intro w hSw; go_simp; try with_reducible rfl)
              simp only [Act.put, List.setIfInBounds_toArray, List.set_cons_zero, List.set_cons_succ, List.getElem_toArray, List.getElem_cons_zero, List.getElem_cons_succ]
              refine G_take (i := 2) (u := ?vb2_2) rfl (by kernel_rfl) (by kernel_rfl) (by kernel_rfl) (fun _ _ _ h => h) rfl (by kernel_rfl) (by decide) (by rfl) (Or.inl ⟨by rfl, ?hyb2_2⟩) hHeld ?_
              case hyb2_2 => (intro w hSw; go_simp; try with_reducible rfl)
              simp only [Act.put, List.setIfInBounds_toArray, List.set_cons_zero, List.set_cons_succ, List.getElem_toArray, List.getElem_cons_zero, List.getElem_cons_succ]
              refine G_pure (i := 3) (u := ?vb3_3) rfl (by kernel_rfl) (by kernel_rfl) (by kernel_rfl) (fun _ _ _ h => h) (by decide) (Or.inl ⟨by rfl, ?hyb3_3⟩) hHeld ?_
              case hyb3_3 => (intro w hSw; go_simp; try with_reducible rfl)
              simp only [Act.put, List.setIfInBounds_toArray, List.set_cons_zero, List.set_cons_succ, List.getElem_toArray, List.getElem_cons_zero, List.getElem_cons_succ]
              refine G_all (rs := [1, 5]) (by kernel_rfl) (by simp) ?_
              intro i hi; have hi' : i = 1 ∨ i = 5 := by simpa using hi
              clear hi; rcases hi' with rfl | rfl
              · refine wpOp_run rfl (by rfl) ?_
                go_simp
                refine Calls.mono (bkCloned _ _ p us (HU.out.ext hHeld) hok (by omega)) ?_
                rintro e w4 ⟨v4, u4, rfl, il4, x4⟩
                have il4 := il4.base hHeld.size
                obtain ⟨a4, k4, rfl⟩ := own_shape il4.own
                have hHeld := hHeld.trans x4
                first | refine ⟨fun _ => hHeld, ?_⟩ | refine ⟨hHeld, ?_⟩
                try simp only [Act.put, List.setIfInBounds_toArray, List.set_cons_zero, List.set_cons_succ, List.getElem_toArray, List.getElem_cons_zero, List.getElem_cons_succ]
                try have b5 := x4.keeps b5
                try have il4 := il4.ext x4
                try have il5 := il5.ext x4
                skip
                obtain ⟨wd, rfl⟩ : ∃ x, x = w4 := ⟨_, rfl⟩
                refine G_all (rs := [4, 5]) (by kernel_rfl) (by simp) ?_
                intro i hi; have hi' : i = 4 ∨ i = 5 := by simpa using hi
                clear hi; rcases hi' with rfl | rfl
                · refine wpOp_run rfl (by rfl) ?_
                  go_simp
                  refine Calls.mono (bkKept _ w2 w2.heap.size hHeld (Nat.le_refl _) hHeld.size _ _ p u4 il4 N b (HB.out.ext hHeld) (by omega) (by omega)) ?_
                  rintro e w5 ⟨⟨v5, u5, rfl, il5, x5⟩, g5⟩
                  try have b5 := grown_keep g5 b5 (own_neT il4.own b5 (by decide))
                  obtain ⟨a5, k5, rfl⟩ := il5.shape
                  try clear il4 g5
                  have hHeld := x5
                  first | refine ⟨fun _ => hHeld, ?_⟩ | refine ⟨hHeld, ?_⟩
                  try simp only [Act.put, List.setIfInBounds_toArray, List.set_cons_zero, List.set_cons_succ, List.getElem_toArray, List.getElem_cons_zero, List.getElem_cons_succ]
                  obtain ⟨wd, rfl⟩ : ∃ x, x = w5 := ⟨_, rfl⟩
                  refine G_all (rs := [5]) (by kernel_rfl) (by simp) ?_
                  intro i hi; obtain rfl : i = 5 := by simpa using hi
                  refine wpOp_run rfl (by rfl) ?_
                  go_simp
                  have b5 := heap_alloc_new wd (.cells #[.int .i64 0, .int .u32 0, .int .i64 0, .int .i64 0, .int .u32 0, .int .u32 0, .slice none 0 0, .bool false, .bool false, .bool false, .int .u32 0] 47)
                  have xa : Ext wd (wd.alloc (.cells #[.int .i64 0, .int .u32 0, .int .i64 0, .int .i64 0, .int .u32 0, .int .u32 0, .slice none 0 0, .bool false, .bool false, .bool false, .int .u32 0] 47)) := (Ext.refl wd).alloc _
                  have nw5 : _ ≤ wd.heap.size := hHeld.size
                  have hHeld := hHeld.trans xa
                  first | refine ⟨fun _ => hHeld, ?_⟩ | refine ⟨hHeld, ?_⟩
                  try simp only [Act.put, List.setIfInBounds_toArray, List.set_cons_zero, List.set_cons_succ, List.getElem_toArray, List.getElem_cons_zero, List.getElem_cons_succ]
                  try have il4 := il4.ext xa
                  try have il5 := il5.ext xa
                  clear xa
                  generalize wd.heap.size = B5 at *
                  generalize wd.alloc (.cells #[.int .i64 0, .int .u32 0, .int .i64 0, .int .i64 0, .int .u32 0, .int .u32 0, .slice none 0 0, .bool false, .bool false, .bool false, .int .u32 0] 47) = wn at *
                  obtain ⟨wd, rfl⟩ : ∃ x, x = wn := ⟨_, rfl⟩
                  refine G_all (rs := [6]) (by kernel_rfl) (by simp) ?_
                  intro i hi; obtain rfl : i = 6 := by simpa using hi
                  refine wpOp_run rfl (by rfl) ?_
                  refine wp_store_row 47 (.tmp 10) (.tmp 45) rfl B5 #[.int .i64 (keptP p ⟨N, b⟩).me, .int .u32 ((keptP p ⟨N, b⟩).v.n : Int), .int .i64 (keptP p ⟨N, b⟩).v.p, .int .i64 (keptP p ⟨N, b⟩).v.b, .int .u32 ((keptP p ⟨N, b⟩).base.1 : Int), .int .u32 ((keptP p ⟨N, b⟩).base.2 : Int), (.slice a5 (keptP p ⟨N, b⟩).log.length k5), .bool (keptP p ⟨N, b⟩).known, .bool (keptP p ⟨N, b⟩).joined, .bool (keptP p ⟨N, b⟩).instep, .int .u32 ((keptP p ⟨N, b⟩).acked : Int)] (by rfl) (by rfl) 47 _ b5 (by kernel_rfl) rfl (pr_one _ _ _ _) ?_
                  try refine ⟨fun e => absurd e (by decide), ?_⟩
                  refine G_free _ _ _ _ (by kernel_rfl) ?_
                  try simp only [Act.put, List.setIfInBounds_toArray, List.set_cons_zero, List.set_cons_succ, List.getElem_toArray, List.getElem_cons_zero, List.getElem_cons_succ]
                  refine wpAny_done (by kernel_rfl) ?_ _
                  refine NoPanic.normal ?_
                  have b6 := setRow_heap wd B5 _ #[.int .i64 (keptP p ⟨N, b⟩).me, .int .u32 ((keptP p ⟨N, b⟩).v.n : Int), .int .i64 (keptP p ⟨N, b⟩).v.p, .int .i64 (keptP p ⟨N, b⟩).v.b, .int .u32 ((keptP p ⟨N, b⟩).base.1 : Int), .int .u32 ((keptP p ⟨N, b⟩).base.2 : Int), (.slice a5 (keptP p ⟨N, b⟩).log.length k5), .bool (keptP p ⟨N, b⟩).known, .bool (keptP p ⟨N, b⟩).joined, .bool (keptP p ⟨N, b⟩).instep, .int .u32 ((keptP p ⟨N, b⟩).acked : Int)] _ _ b5
                  have il6 := il5.grown (grown_setRow (c := #[.int .i64 (keptP p ⟨N, b⟩).me, .int .u32 ((keptP p ⟨N, b⟩).v.n : Int), .int .i64 (keptP p ⟨N, b⟩).v.p, .int .i64 (keptP p ⟨N, b⟩).v.b, .int .u32 ((keptP p ⟨N, b⟩).base.1 : Int), .int .u32 ((keptP p ⟨N, b⟩).base.2 : Int), (.slice a5 (keptP p ⟨N, b⟩).log.length k5), .bool (keptP p ⟨N, b⟩).known, .bool (keptP p ⟨N, b⟩).joined, .bool (keptP p ⟨N, b⟩).instep, .int .u32 ((keptP p ⟨N, b⟩).acked : Int)])) b5 (by decide) (by decide)
                  have x6 := hHeld.grown (grown_setRow (c := #[.int .i64 (keptP p ⟨N, b⟩).me, .int .u32 ((keptP p ⟨N, b⟩).v.n : Int), .int .i64 (keptP p ⟨N, b⟩).v.p, .int .i64 (keptP p ⟨N, b⟩).v.b, .int .u32 ((keptP p ⟨N, b⟩).base.1 : Int), .int .u32 ((keptP p ⟨N, b⟩).base.2 : Int), (.slice a5 (keptP p ⟨N, b⟩).log.length k5), .bool (keptP p ⟨N, b⟩).known, .bool (keptP p ⟨N, b⟩).joined, .bool (keptP p ⟨N, b⟩).instep, .int .u32 ((keptP p ⟨N, b⟩).acked : Int)])) (fun k hk => by cases hk; exact nw5)
                  go_wp2_with fail
                  go_meet
                  exact ⟨B5, _, u5, rfl, nw5, b6, il6, x6⟩
                · refine wpOp_run rfl (by rfl) ?_
                  go_simp
                  have b5 := heap_alloc_new wd (.cells #[.int .i64 0, .int .u32 0, .int .i64 0, .int .i64 0, .int .u32 0, .int .u32 0, .slice none 0 0, .bool false, .bool false, .bool false, .int .u32 0] 47)
                  have xa : Ext wd (wd.alloc (.cells #[.int .i64 0, .int .u32 0, .int .i64 0, .int .i64 0, .int .u32 0, .int .u32 0, .slice none 0 0, .bool false, .bool false, .bool false, .int .u32 0] 47)) := (Ext.refl wd).alloc _
                  have nw5 : _ ≤ wd.heap.size := hHeld.size
                  have hHeld := hHeld.trans xa
                  first | refine ⟨fun _ => hHeld, ?_⟩ | refine ⟨hHeld, ?_⟩
                  try simp only [Act.put, List.setIfInBounds_toArray, List.set_cons_zero, List.set_cons_succ, List.getElem_toArray, List.getElem_cons_zero, List.getElem_cons_succ]
                  try have il4 := il4.ext xa
                  try have il5 := il5.ext xa
                  clear xa
                  generalize wd.heap.size = B5 at *
                  generalize wd.alloc (.cells #[.int .i64 0, .int .u32 0, .int .i64 0, .int .i64 0, .int .u32 0, .int .u32 0, .slice none 0 0, .bool false, .bool false, .bool false, .int .u32 0] 47) = wn at *
                  obtain ⟨wd, rfl⟩ : ∃ x, x = wn := ⟨_, rfl⟩
                  refine G_all (rs := [4]) (by kernel_rfl) (by simp) ?_
                  intro i hi; obtain rfl : i = 4 := by simpa using hi
                  refine wpOp_run rfl (by rfl) ?_
                  go_simp
                  refine Calls.mono (bkKept _ w2 w2.heap.size hHeld (Nat.le_refl _) hHeld.size _ _ p u4 il4 N b (HB.out.ext hHeld) (by omega) (by omega)) ?_
                  rintro e w5 ⟨⟨v5, u5, rfl, il5, x5⟩, g5⟩
                  try have b5 := grown_keep g5 b5 (own_neT il4.own b5 (by decide))
                  obtain ⟨a5, k5, rfl⟩ := il5.shape
                  try clear il4 g5
                  have hHeld := x5
                  first | refine ⟨fun _ => hHeld, ?_⟩ | refine ⟨hHeld, ?_⟩
                  try simp only [Act.put, List.setIfInBounds_toArray, List.set_cons_zero, List.set_cons_succ, List.getElem_toArray, List.getElem_cons_zero, List.getElem_cons_succ]
                  obtain ⟨wd, rfl⟩ : ∃ x, x = w5 := ⟨_, rfl⟩
                  refine G_all (rs := [6]) (by kernel_rfl) (by simp) ?_
                  intro i hi; obtain rfl : i = 6 := by simpa using hi
                  refine wpOp_run rfl (by rfl) ?_
                  refine wp_store_row 47 (.tmp 10) (.tmp 45) rfl B5 #[.int .i64 (keptP p ⟨N, b⟩).me, .int .u32 ((keptP p ⟨N, b⟩).v.n : Int), .int .i64 (keptP p ⟨N, b⟩).v.p, .int .i64 (keptP p ⟨N, b⟩).v.b, .int .u32 ((keptP p ⟨N, b⟩).base.1 : Int), .int .u32 ((keptP p ⟨N, b⟩).base.2 : Int), (.slice a5 (keptP p ⟨N, b⟩).log.length k5), .bool (keptP p ⟨N, b⟩).known, .bool (keptP p ⟨N, b⟩).joined, .bool (keptP p ⟨N, b⟩).instep, .int .u32 ((keptP p ⟨N, b⟩).acked : Int)] (by rfl) (by rfl) 47 _ b5 (by kernel_rfl) rfl (pr_one _ _ _ _) ?_
                  try refine ⟨fun e => absurd e (by decide), ?_⟩
                  refine G_free _ _ _ _ (by kernel_rfl) ?_
                  try simp only [Act.put, List.setIfInBounds_toArray, List.set_cons_zero, List.set_cons_succ, List.getElem_toArray, List.getElem_cons_zero, List.getElem_cons_succ]
                  refine wpAny_done (by kernel_rfl) ?_ _
                  refine NoPanic.normal ?_
                  have b6 := setRow_heap wd B5 _ #[.int .i64 (keptP p ⟨N, b⟩).me, .int .u32 ((keptP p ⟨N, b⟩).v.n : Int), .int .i64 (keptP p ⟨N, b⟩).v.p, .int .i64 (keptP p ⟨N, b⟩).v.b, .int .u32 ((keptP p ⟨N, b⟩).base.1 : Int), .int .u32 ((keptP p ⟨N, b⟩).base.2 : Int), (.slice a5 (keptP p ⟨N, b⟩).log.length k5), .bool (keptP p ⟨N, b⟩).known, .bool (keptP p ⟨N, b⟩).joined, .bool (keptP p ⟨N, b⟩).instep, .int .u32 ((keptP p ⟨N, b⟩).acked : Int)] _ _ b5
                  have il6 := il5.grown (grown_setRow (c := #[.int .i64 (keptP p ⟨N, b⟩).me, .int .u32 ((keptP p ⟨N, b⟩).v.n : Int), .int .i64 (keptP p ⟨N, b⟩).v.p, .int .i64 (keptP p ⟨N, b⟩).v.b, .int .u32 ((keptP p ⟨N, b⟩).base.1 : Int), .int .u32 ((keptP p ⟨N, b⟩).base.2 : Int), (.slice a5 (keptP p ⟨N, b⟩).log.length k5), .bool (keptP p ⟨N, b⟩).known, .bool (keptP p ⟨N, b⟩).joined, .bool (keptP p ⟨N, b⟩).instep, .int .u32 ((keptP p ⟨N, b⟩).acked : Int)])) b5 (by decide) (by decide)
                  have x6 := hHeld.grown (grown_setRow (c := #[.int .i64 (keptP p ⟨N, b⟩).me, .int .u32 ((keptP p ⟨N, b⟩).v.n : Int), .int .i64 (keptP p ⟨N, b⟩).v.p, .int .i64 (keptP p ⟨N, b⟩).v.b, .int .u32 ((keptP p ⟨N, b⟩).base.1 : Int), .int .u32 ((keptP p ⟨N, b⟩).base.2 : Int), (.slice a5 (keptP p ⟨N, b⟩).log.length k5), .bool (keptP p ⟨N, b⟩).known, .bool (keptP p ⟨N, b⟩).joined, .bool (keptP p ⟨N, b⟩).instep, .int .u32 ((keptP p ⟨N, b⟩).acked : Int)])) (fun k hk => by cases hk; exact nw5)
                  go_wp2_with fail
                  go_meet
                  exact ⟨B5, _, u5, rfl, nw5, b6, il6, x6⟩
              · refine wpOp_run rfl (by rfl) ?_
                go_simp
                have b5 := heap_alloc_new wd (.cells #[.int .i64 0, .int .u32 0, .int .i64 0, .int .i64 0, .int .u32 0, .int .u32 0, .slice none 0 0, .bool false, .bool false, .bool false, .int .u32 0] 47)
                have xa : Ext wd (wd.alloc (.cells #[.int .i64 0, .int .u32 0, .int .i64 0, .int .i64 0, .int .u32 0, .int .u32 0, .slice none 0 0, .bool false, .bool false, .bool false, .int .u32 0] 47)) := (Ext.refl wd).alloc _
                have nw5 : _ ≤ wd.heap.size := hHeld.size
                have hHeld := hHeld.trans xa
                first | refine ⟨fun _ => hHeld, ?_⟩ | refine ⟨hHeld, ?_⟩
                try simp only [Act.put, List.setIfInBounds_toArray, List.set_cons_zero, List.set_cons_succ, List.getElem_toArray, List.getElem_cons_zero, List.getElem_cons_succ]
                try have il4 := il4.ext xa
                try have il5 := il5.ext xa
                clear xa
                generalize wd.heap.size = B5 at *
                generalize wd.alloc (.cells #[.int .i64 0, .int .u32 0, .int .i64 0, .int .i64 0, .int .u32 0, .int .u32 0, .slice none 0 0, .bool false, .bool false, .bool false, .int .u32 0] 47) = wn at *
                obtain ⟨wd, rfl⟩ : ∃ x, x = wn := ⟨_, rfl⟩
                refine G_all (rs := [1]) (by kernel_rfl) (by simp) ?_
                intro i hi; obtain rfl : i = 1 := by simpa using hi
                refine wpOp_run rfl (by rfl) ?_
                go_simp
                refine Calls.mono (bkCloned _ _ p us (HU.out.ext hHeld) hok (by omega)) ?_
                rintro e w4 ⟨v4, u4, rfl, il4, x4⟩
                have il4 := il4.base hHeld.size
                obtain ⟨a4, k4, rfl⟩ := own_shape il4.own
                have hHeld := hHeld.trans x4
                first | refine ⟨fun _ => hHeld, ?_⟩ | refine ⟨hHeld, ?_⟩
                try simp only [Act.put, List.setIfInBounds_toArray, List.set_cons_zero, List.set_cons_succ, List.getElem_toArray, List.getElem_cons_zero, List.getElem_cons_succ]
                try have b5 := x4.keeps b5
                try have il4 := il4.ext x4
                try have il5 := il5.ext x4
                skip
                obtain ⟨wd, rfl⟩ : ∃ x, x = w4 := ⟨_, rfl⟩
                refine G_all (rs := [4]) (by kernel_rfl) (by simp) ?_
                intro i hi; obtain rfl : i = 4 := by simpa using hi
                refine wpOp_run rfl (by rfl) ?_
                go_simp
                refine Calls.mono (bkKept _ w2 w2.heap.size hHeld (Nat.le_refl _) hHeld.size _ _ p u4 il4 N b (HB.out.ext hHeld) (by omega) (by omega)) ?_
                rintro e w5 ⟨⟨v5, u5, rfl, il5, x5⟩, g5⟩
                try have b5 := grown_keep g5 b5 (own_neT il4.own b5 (by decide))
                obtain ⟨a5, k5, rfl⟩ := il5.shape
                try clear il4 g5
                have hHeld := x5
                first | refine ⟨fun _ => hHeld, ?_⟩ | refine ⟨hHeld, ?_⟩
                try simp only [Act.put, List.setIfInBounds_toArray, List.set_cons_zero, List.set_cons_succ, List.getElem_toArray, List.getElem_cons_zero, List.getElem_cons_succ]
                obtain ⟨wd, rfl⟩ : ∃ x, x = w5 := ⟨_, rfl⟩
                refine G_all (rs := [6]) (by kernel_rfl) (by simp) ?_
                intro i hi; obtain rfl : i = 6 := by simpa using hi
                refine wpOp_run rfl (by rfl) ?_
                refine wp_store_row 47 (.tmp 10) (.tmp 45) rfl B5 #[.int .i64 (keptP p ⟨N, b⟩).me, .int .u32 ((keptP p ⟨N, b⟩).v.n : Int), .int .i64 (keptP p ⟨N, b⟩).v.p, .int .i64 (keptP p ⟨N, b⟩).v.b, .int .u32 ((keptP p ⟨N, b⟩).base.1 : Int), .int .u32 ((keptP p ⟨N, b⟩).base.2 : Int), (.slice a5 (keptP p ⟨N, b⟩).log.length k5), .bool (keptP p ⟨N, b⟩).known, .bool (keptP p ⟨N, b⟩).joined, .bool (keptP p ⟨N, b⟩).instep, .int .u32 ((keptP p ⟨N, b⟩).acked : Int)] (by rfl) (by rfl) 47 _ b5 (by kernel_rfl) rfl (pr_one _ _ _ _) ?_
                try refine ⟨fun e => absurd e (by decide), ?_⟩
                refine G_free _ _ _ _ (by kernel_rfl) ?_
                try simp only [Act.put, List.setIfInBounds_toArray, List.set_cons_zero, List.set_cons_succ, List.getElem_toArray, List.getElem_cons_zero, List.getElem_cons_succ]
                refine wpAny_done (by kernel_rfl) ?_ _
                refine NoPanic.normal ?_
                have b6 := setRow_heap wd B5 _ #[.int .i64 (keptP p ⟨N, b⟩).me, .int .u32 ((keptP p ⟨N, b⟩).v.n : Int), .int .i64 (keptP p ⟨N, b⟩).v.p, .int .i64 (keptP p ⟨N, b⟩).v.b, .int .u32 ((keptP p ⟨N, b⟩).base.1 : Int), .int .u32 ((keptP p ⟨N, b⟩).base.2 : Int), (.slice a5 (keptP p ⟨N, b⟩).log.length k5), .bool (keptP p ⟨N, b⟩).known, .bool (keptP p ⟨N, b⟩).joined, .bool (keptP p ⟨N, b⟩).instep, .int .u32 ((keptP p ⟨N, b⟩).acked : Int)] _ _ b5
                have il6 := il5.grown (grown_setRow (c := #[.int .i64 (keptP p ⟨N, b⟩).me, .int .u32 ((keptP p ⟨N, b⟩).v.n : Int), .int .i64 (keptP p ⟨N, b⟩).v.p, .int .i64 (keptP p ⟨N, b⟩).v.b, .int .u32 ((keptP p ⟨N, b⟩).base.1 : Int), .int .u32 ((keptP p ⟨N, b⟩).base.2 : Int), (.slice a5 (keptP p ⟨N, b⟩).log.length k5), .bool (keptP p ⟨N, b⟩).known, .bool (keptP p ⟨N, b⟩).joined, .bool (keptP p ⟨N, b⟩).instep, .int .u32 ((keptP p ⟨N, b⟩).acked : Int)])) b5 (by decide) (by decide)
                have x6 := hHeld.grown (grown_setRow (c := #[.int .i64 (keptP p ⟨N, b⟩).me, .int .u32 ((keptP p ⟨N, b⟩).v.n : Int), .int .i64 (keptP p ⟨N, b⟩).v.p, .int .i64 (keptP p ⟨N, b⟩).v.b, .int .u32 ((keptP p ⟨N, b⟩).base.1 : Int), .int .u32 ((keptP p ⟨N, b⟩).base.2 : Int), (.slice a5 (keptP p ⟨N, b⟩).log.length k5), .bool (keptP p ⟨N, b⟩).known, .bool (keptP p ⟨N, b⟩).joined, .bool (keptP p ⟨N, b⟩).instep, .int .u32 ((keptP p ⟨N, b⟩).acked : Int)])) (fun k hk => by cases hk; exact nw5)
                go_wp2_with fail
                go_meet
                exact ⟨B5, _, u5, rfl, nw5, b6, il6, x6⟩
            case rest =>
              obtain ⟨B10, v10, u10, rfl, h10, b10, il, x⟩ := hcut
              obtain ⟨a10, k10, rfl⟩ := il.shape
              have il := il.base HX.out.size
              have bP := x.keeps bP
              have bZ := x.keeps bZ
              have bM0 := x.keeps bM0
              have b8 := x.keeps b8
              have hz2 := block_lt ‹w2.heap[w.heap.size + 2]? = _›
              have HX := Lib.hid (HX.out.trans x)
              have HL := Lib.hid (HL.out.ext x)
              have HU := Lib.hid (HU.out.ext x)
              have HB := Lib.hid (HB.out.ext x)
              have HK := Lib.hid (HK.out.ext x)
              have hc := block_all bP
              clear x c8
              have KP := fun v (h : Ext wc v) => block_all (h.keeps bP)
              have K8 := fun v (h : Ext wc v) => block_all (h.keeps b8)
              obtain ⟨w3, rfl⟩ : ∃ v, v = wc := ⟨_, rfl⟩
              obtain ⟨O, hO⟩ : ∃ O, (if p.known = true then [(⟨otherI p, encN ⟨3, p.v.n, N, lastM p, b⟩⟩ : LtE)] else []) = O := ⟨_, rfl⟩
              have HO := Lib.hid hO
              clear hO
              have hXz := HX.out.size
              go_upto_if 47 with fail
              go_cut [11, 21, 25, 47] from 48 to 57 (fun t11 t21 t25 t47 wx => ∃ uo, LtOwn wx w.heap.size t11 O uo ∧ Ext w3 wx)
              case first =>
                cases hkn : p.known with
                | false =>
                  have hO := HO.out
                  rw [hkn, if_neg (by decide)] at hO
                  subst hO
                  go_wp2_with fail
                  go_meet
                  exact ⟨[], LtOwn.nil _ _, Ext.refl _⟩
                | true =>
                  have hO := HO.out
                  rw [hkn, if_pos rfl] at hO
                  have HO := Lib.hid hO
                  clear hO
                  go_upto_region 16 with fail
                  have C1 := fun v (h : Ext w3 v) => bkLast v (.slice ao p.log.length cap) p (HL.out.ext h)
                  have C2 := fun v (h : Ext w3 v) => bkEntry v (.slice ao p.log.length cap) (.slice ab b.length cb) p (lastM p) ⟨N, b⟩ (HB.out.ext h) hp (lastM_ok hp hok) (by rw [← HN.out]; exact ⟨hp.vn, Nat.mod_lt _ (by decide)⟩) (by show b.length ≤ 50000; omega) (HK.out.ext h)
                  simp only [hkn] at C1 C2
                  have C1 := Lib.hid C1
                  have C2 := Lib.hid C2
                  refine wp_region_G 9 (fun v => Ext w3 v) (by kernel_rfl) fun wd hqd hHeld => ?_
                  refine G_pure (i := 0) (u := ?vc0) rfl (by kernel_rfl) (by kernel_rfl) (by kernel_rfl) (fun _ _ _ h => h) (by decide) (Or.inl ⟨by rfl, ?hyc0⟩) hHeld ?_
                  case hyc0 => (intro w hSw; go_simp; try with_reducible rfl)
                  simp only [Act.put, List.setIfInBounds_toArray, List.set_cons_zero, List.set_cons_succ, List.getElem_toArray, List.getElem_cons_zero, List.getElem_cons_succ]
                  refine C_take (i := 1) (u := ?vc1) [7, 9] rfl (by kernel_rfl) (by kernel_rfl) (by kernel_rfl) (fun _ _ _ h => h) (by kernel_rfl) (by kernel_rfl) (by kernel_rfl) (by kernel_rfl) (Or.inl ⟨by rfl, ?hyc1⟩) hHeld ?_
                  case hyc1 => (intro w hSw; go_simp; try with_reducible rfl)
                  simp only [Act.put, List.setIfInBounds_toArray, List.set_cons_zero, List.set_cons_succ, List.getElem_toArray, List.getElem_cons_zero, List.getElem_cons_succ]
                  refine C_take (i := 2) (u := ?vc2) [3, 7, 9] rfl (by kernel_rfl) (by kernel_rfl) (by kernel_rfl) (fun _ _ _ h => h) (by kernel_rfl) (by kernel_rfl) (by kernel_rfl) (by kernel_rfl) (Or.inl ⟨by rfl, ?hyc2⟩) hHeld ?_
                  case hyc2 => (intro w hSw; go_simp; try with_reducible rfl)
                  simp only [Act.put, List.setIfInBounds_toArray, List.set_cons_zero, List.set_cons_succ, List.getElem_toArray, List.getElem_cons_zero, List.getElem_cons_succ]
                  refine C_take (i := 4) (u := ?vc4) [6, 7, 9] rfl (by kernel_rfl) (by kernel_rfl) (by kernel_rfl) (fun _ _ _ h => h) (by kernel_rfl) (by kernel_rfl) (by kernel_rfl) (by kernel_rfl) (Or.inl ⟨by rfl, ?hyc4⟩) hHeld ?_
                  case hyc4 => (intro w hSw; go_simp; try with_reducible rfl)
                  simp only [Act.put, List.setIfInBounds_toArray, List.set_cons_zero, List.set_cons_succ, List.getElem_toArray, List.getElem_cons_zero, List.getElem_cons_succ]
                  refine G_pure (i := 5) (u := ?vc5) rfl (by kernel_rfl) (by kernel_rfl) (by kernel_rfl) (fun _ _ _ h => h) (by decide) (Or.inl ⟨by rfl, ?hyc5⟩) hHeld ?_
                  case hyc5 => (intro w hSw; go_simp; try with_reducible rfl)
                  simp only [Act.put, List.setIfInBounds_toArray, List.set_cons_zero, List.set_cons_succ, List.getElem_toArray, List.getElem_cons_zero, List.getElem_cons_succ]
                  refine G_pure (i := 6) (u := ?vc6) rfl (by kernel_rfl) (by kernel_rfl) (by kernel_rfl) (fun _ _ _ h => h) (by decide) (Or.inl ⟨by rfl, ?hyc6⟩) hHeld ?_
                  case hyc6 => (intro w hSw; go_simp; try with_reducible rfl)
                  simp only [Act.put, List.setIfInBounds_toArray, List.set_cons_zero, List.set_cons_succ, List.getElem_toArray, List.getElem_cons_zero, List.getElem_cons_succ]
                  refine G_all (rs := [3]) (by kernel_rfl) (by simp) ?_
                  intro i hi; obtain rfl : i = 3 := by simpa using hi
                  refine wpOp_run rfl (by rfl) ?_
                  go_simp
                  refine Calls.mono (C1.out _ hHeld) ?_
                  rintro e w4 ⟨rfl, x4⟩
                  have hHeld := hHeld.trans x4
                  first | refine ⟨fun _ => hHeld, ?_⟩ | refine ⟨hHeld, ?_⟩
                  try simp only [Act.put, List.setIfInBounds_toArray, List.set_cons_zero, List.set_cons_succ, List.getElem_toArray, List.getElem_cons_zero, List.getElem_cons_succ]
                  refine G_all (rs := [7]) (by kernel_rfl) (by simp) ?_
                  intro i hi; obtain rfl : i = 7 := by simpa using hi
                  refine wpOp_run rfl (by rfl) ?_
                  go_simp
                  refine Calls.mono (C2.out _ hHeld) ?_
                  rintro e w5 ⟨v5, rfl, own5, x5⟩
                  have own5 := ownsRow_base own5 (show w.heap.size ≤ _ from Nat.le_trans hXz hHeld.size)
                  obtain ⟨a5, c5, rfl⟩ := own_shape own5
                  have hHeld := hHeld.trans x5
                  first | refine ⟨fun _ => hHeld, ?_⟩ | refine ⟨hHeld, ?_⟩
                  try simp only [Act.put, List.setIfInBounds_toArray, List.set_cons_zero, List.set_cons_succ, List.getElem_toArray, List.getElem_cons_zero, List.getElem_cons_succ]
                  refine G_all (rs := [8]) (by kernel_rfl) (by simp) ?_
                  intro i hi; obtain rfl : i = 8 := by simpa using hi
                  refine wpOp_run rfl (by rfl) ?_
                  refine wp_buildOne 49 (.tmp 55) rfl (ltV ⟨otherI p, encN ⟨3, p.v.n, N, lastM p, b⟩⟩ (a5, c5)) (by rfl) (build_one _ 49 88 2 Tryd.underlying49 infoLt2 (by omega) (by omega) _ rfl) ?_
                  have xb : Ext w5 (w5.alloc (.cells (ltV ⟨otherI p, encN ⟨3, p.v.n, N, lastM p, b⟩⟩ (a5, c5)).toArray 88)) := (Ext.refl w5).alloc _
                  have hHeld := hHeld.trans xb
                  first | refine ⟨fun _ => hHeld, ?_⟩ | refine ⟨hHeld, ?_⟩
                  try simp only [Act.put, List.setIfInBounds_toArray, List.set_cons_zero, List.set_cons_succ, List.getElem_toArray, List.getElem_cons_zero, List.getElem_cons_succ]
                  refine G_all (rs := [9]) (by kernel_rfl) (by simp) ?_
                  intro i hi; obtain rfl : i = 9 := by simpa using hi
                  refine wpOp_run rfl (by rfl) ?_
                  refine wp_appO tyLt (.tmp 48) (.tmp 56) rfl w.heap.size (.slice none 0 0) 0 [] (LtOwn.nil _ _).own (by rfl) _ 1 (ltV ⟨otherI p, encN ⟨3, p.v.n, N, lastM p, b⟩⟩ (a5, c5)) (sl_one_new (w := w5) (n := 2) (e := 88) rfl rfl) (by rfl) (ltV_one _ _) (by omega) (by omega) (Nat.le_trans hXz hHeld.size) ?_
                  intro v10 w10 own10 gr10
                  have x10 := grown_none gr10
                  try refine ⟨fun e => absurd e (by decide), ?_⟩
                  refine G_free _ _ _ _ (by kernel_rfl) ?_
                  try simp only [Act.put, List.setIfInBounds_toArray, List.set_cons_zero, List.set_cons_succ, List.getElem_toArray, List.getElem_cons_zero, List.getElem_cons_succ]
                  refine wpAny_take (i := 10) (v := ?vc10) rfl (by kernel_rfl) (by kernel_rfl) (by kernel_rfl) (fun _ _ _ h => h) (Or.inl ⟨by rfl, ?hyc10⟩) ?_
                  case hyc10 => (intro w ; go_simp; try with_reducible rfl)
                  simp only [Act.put, List.setIfInBounds_toArray, List.set_cons_zero, List.set_cons_succ, List.getElem_toArray, List.getElem_cons_zero, List.getElem_cons_succ]
                  refine wpAny_done (by kernel_rfl) ?_ _
                  refine NoPanic.normal ?_
                  go_wp2_with fail
                  go_meet
                  have hO := HO.out
                  subst hO
                  refine ⟨[(a5, c5)], ⟨rfl, by simpa [ltCs] using own10, ?_⟩, hHeld.trans x10⟩
                  intro i hi u hu
                  obtain rfl : i = 0 := by simp at hi; omega
                  simp only [List.getElem?_cons_zero, Option.some.injEq] at hu
                  subst hu
                  exact ownsRow_ext own5 (xb.trans x10)
              case rest =>
                obtain ⟨uo, lo, x⟩ := hcut
                have bZ := x.keeps bZ
                have bM0 := x.keeps bM0
                have b8 := x.keeps b8
                have b10 := x.keeps b10
                have il := il.ext x
                have HX := Lib.hid (HX.out.trans x)
                clear KP K8 bP hc HL HU HB HK x
                obtain ⟨w4, rfl⟩ : ∃ v, v = wc := ⟨_, rfl⟩
                obtain ⟨S, hS⟩ : ∃ S : World → Prop, S = fun v => v.heap[B10]? = some (.cells #[.int .i64 (keptP p ⟨N, b⟩).me, .int .u32 ((keptP p ⟨N, b⟩).v.n : Int), .int .i64 (keptP p ⟨N, b⟩).v.p, .int .i64 (keptP p ⟨N, b⟩).v.b, .int .u32 ((keptP p ⟨N, b⟩).base.1 : Int), .int .u32 ((keptP p ⟨N, b⟩).base.2 : Int), (.slice a10 (keptP p ⟨N, b⟩).log.length k10), .bool (keptP p ⟨N, b⟩).known, .bool (keptP p ⟨N, b⟩).joined, .bool (keptP p ⟨N, b⟩).instep, .int .u32 ((keptP p ⟨N, b⟩).acked : Int)] 47 (0, 0)) ∧ v.heap[B8]? = some (.cells #[.int .u32 (N.1 : Int), .int .u32 (N.2 : Int)] 27 (0, 0)) := ⟨_, rfl⟩
                have K10 := fun v (h : S v) => block_all (show v.heap[B10]? = _ from by rw [hS] at h; exact h.1)
                have K8 := fun v (h : S v) => block_all (show v.heap[B8]? = _ from by rw [hS] at h; exact h.2)
                have HS := Lib.hid hS
                clear hS
                go_upto_region 17 with fail
                refine wp_region_G 6 (S) (by kernel_rfl) fun wd hqd hHeld => ?_
                have hE : Ext w4 wd := hHeld
                have hHeld : S wd := by rw [HS.out]; exact ⟨hE.keeps b10, hE.keeps b8⟩
                refine G_take (i := 0) (u := ?vd1_0) rfl (by kernel_rfl) (by kernel_rfl) (by kernel_rfl) (fun _ _ _ h => h) rfl (by kernel_rfl) (by decide) (by rfl) (Or.inl ⟨by rfl, ?hyd1_0⟩) hHeld ?_
                case hyd1_0 => (intro w hSw; have kk := K10 _ hSw; go_simp; try with_reducible rfl)
                simp only [Act.put, List.setIfInBounds_toArray, List.set_cons_zero, List.set_cons_succ, List.getElem_toArray, List.getElem_cons_zero, List.getElem_cons_succ]
                refine G_pure (i := 1) (u := ?vd2_1) rfl (by kernel_rfl) (by kernel_rfl) (by kernel_rfl) (fun _ _ _ h => h) (by decide) (Or.inl ⟨by rfl, ?hyd2_1⟩) hHeld ?_
                case hyd2_1 => (intro w hSw; go_simp; try with_reducible rfl)
                simp only [Act.put, List.setIfInBounds_toArray, List.set_cons_zero, List.set_cons_succ, List.getElem_toArray, List.getElem_cons_zero, List.getElem_cons_succ]
                refine G_take (i := 2) (u := ?vd3_2) rfl (by kernel_rfl) (by kernel_rfl) (by kernel_rfl) (fun _ _ _ h => h) rfl (by kernel_rfl) (by decide) (by rfl) (Or.inl ⟨by rfl, ?hyd3_2⟩) hHeld ?_
                case hyd3_2 => (intro w hSw; have kk := K8 _ hSw; go_simp; try with_reducible rfl)
                simp only [Act.put, List.setIfInBounds_toArray, List.set_cons_zero, List.set_cons_succ, List.getElem_toArray, List.getElem_cons_zero, List.getElem_cons_succ]
                refine G_all (rs := [3]) (by kernel_rfl) (by simp) ?_
                intro i hi; obtain rfl : i = 3 := by simpa using hi
                refine wpOp_run rfl (by rfl) ?_
                refine wp_store_row 47 (.tmp 4) (.tmp 58) rfl (w.heap.size + 1) #[.int .i64 (keptP p ⟨N, b⟩).me, .int .u32 ((keptP p ⟨N, b⟩).v.n : Int), .int .i64 (keptP p ⟨N, b⟩).v.p, .int .i64 (keptP p ⟨N, b⟩).v.b, .int .u32 ((keptP p ⟨N, b⟩).base.1 : Int), .int .u32 ((keptP p ⟨N, b⟩).base.2 : Int), (.slice a10 (keptP p ⟨N, b⟩).log.length k10), .bool (keptP p ⟨N, b⟩).known, .bool (keptP p ⟨N, b⟩).joined, .bool (keptP p ⟨N, b⟩).instep, .int .u32 ((keptP p ⟨N, b⟩).acked : Int)] (by rfl) (by rfl) 47 _ (hE.keeps bZ) (by kernel_rfl) rfl (pr_one _ _ _ _) ?_
                have h3 := grown_setRow (w := wd) (g := w.heap.size + 1) (c := #[.int .i64 (keptP p ⟨N, b⟩).me, .int .u32 ((keptP p ⟨N, b⟩).v.n : Int), .int .i64 (keptP p ⟨N, b⟩).v.p, .int .i64 (keptP p ⟨N, b⟩).v.b, .int .u32 ((keptP p ⟨N, b⟩).base.1 : Int), .int .u32 ((keptP p ⟨N, b⟩).base.2 : Int), (.slice a10 (keptP p ⟨N, b⟩).log.length k10), .bool (keptP p ⟨N, b⟩).known, .bool (keptP p ⟨N, b⟩).joined, .bool (keptP p ⟨N, b⟩).instep, .int .u32 ((keptP p ⟨N, b⟩).acked : Int)])
                have hHeld : S (wd.setRow (w.heap.size + 1) #[.int .i64 (keptP p ⟨N, b⟩).me, .int .u32 ((keptP p ⟨N, b⟩).v.n : Int), .int .i64 (keptP p ⟨N, b⟩).v.p, .int .i64 (keptP p ⟨N, b⟩).v.b, .int .u32 ((keptP p ⟨N, b⟩).base.1 : Int), .int .u32 ((keptP p ⟨N, b⟩).base.2 : Int), (.slice a10 (keptP p ⟨N, b⟩).log.length k10), .bool (keptP p ⟨N, b⟩).known, .bool (keptP p ⟨N, b⟩).joined, .bool (keptP p ⟨N, b⟩).instep, .int .u32 ((keptP p ⟨N, b⟩).acked : Int)]) := (by rw [HS.out]; exact ⟨grown_other h3 (hE.keeps b10) (by omega), grown_other h3 (hE.keeps b8) (by omega)⟩)
                first | refine ⟨fun _ => hHeld, ?_⟩ | refine ⟨hHeld, ?_⟩
                try simp only [Act.put, List.setIfInBounds_toArray, List.set_cons_zero, List.set_cons_succ, List.getElem_toArray, List.getElem_cons_zero, List.getElem_cons_succ]
                refine G_pure (i := 4) (u := ?vd4_4) rfl (by kernel_rfl) (by kernel_rfl) (by kernel_rfl) (fun _ _ _ h => h) (by decide) (Or.inl ⟨by rfl, ?hyd4_4⟩) hHeld ?_
                case hyd4_4 => (intro w hSw; go_simp; try with_reducible rfl)
                simp only [Act.put, List.setIfInBounds_toArray, List.set_cons_zero, List.set_cons_succ, List.getElem_toArray, List.getElem_cons_zero, List.getElem_cons_succ]
                refine G_all (rs := [5]) (by kernel_rfl) (by simp) ?_
                intro i hi; obtain rfl : i = 5 := by simpa using hi
                refine wpOp_run rfl (by rfl) ?_
                have bM3 := grown_other h3 (hE.keeps bM0) (by omega)
                refine wp_store_row 27 (.tmp 6) (.tmp 60) rfl (w.heap.size + 2) #[.int .u32 (N.1 : Int), .int .u32 (N.2 : Int)] (by rfl) (by rfl) 27 _ bM3 (by kernel_rfl) rfl (by kernel_rfl) ?_
                have h5 := grown_setRow (w := wd.setRow (w.heap.size + 1) #[.int .i64 (keptP p ⟨N, b⟩).me, .int .u32 ((keptP p ⟨N, b⟩).v.n : Int), .int .i64 (keptP p ⟨N, b⟩).v.p, .int .i64 (keptP p ⟨N, b⟩).v.b, .int .u32 ((keptP p ⟨N, b⟩).base.1 : Int), .int .u32 ((keptP p ⟨N, b⟩).base.2 : Int), (.slice a10 (keptP p ⟨N, b⟩).log.length k10), .bool (keptP p ⟨N, b⟩).known, .bool (keptP p ⟨N, b⟩).joined, .bool (keptP p ⟨N, b⟩).instep, .int .u32 ((keptP p ⟨N, b⟩).acked : Int)]) (g := w.heap.size + 2) (c := #[.int .u32 (N.1 : Int), .int .u32 (N.2 : Int)])
                have hHeld : S ((wd.setRow (w.heap.size + 1) #[.int .i64 (keptP p ⟨N, b⟩).me, .int .u32 ((keptP p ⟨N, b⟩).v.n : Int), .int .i64 (keptP p ⟨N, b⟩).v.p, .int .i64 (keptP p ⟨N, b⟩).v.b, .int .u32 ((keptP p ⟨N, b⟩).base.1 : Int), .int .u32 ((keptP p ⟨N, b⟩).base.2 : Int), (.slice a10 (keptP p ⟨N, b⟩).log.length k10), .bool (keptP p ⟨N, b⟩).known, .bool (keptP p ⟨N, b⟩).joined, .bool (keptP p ⟨N, b⟩).instep, .int .u32 ((keptP p ⟨N, b⟩).acked : Int)]).setRow (w.heap.size + 2) #[.int .u32 (N.1 : Int), .int .u32 (N.2 : Int)]) := (by rw [HS.out]; exact ⟨grown_other h5 (grown_other h3 (hE.keeps b10) (by omega)) (by omega), grown_other h5 (grown_other h3 (hE.keeps b8) (by omega)) (by omega)⟩)
                first | refine ⟨fun _ => hHeld, ?_⟩ | refine ⟨hHeld, ?_⟩
                try simp only [Act.put, List.setIfInBounds_toArray, List.set_cons_zero, List.set_cons_succ, List.getElem_toArray, List.getElem_cons_zero, List.getElem_cons_succ]
                refine G_all (rs := [6]) (by kernel_rfl) (by simp) ?_
                intro i hi; obtain rfl : i = 6 := by simpa using hi
                refine wpOp_run rfl (by rfl) ?_
                go_simp
                try refine ⟨fun e => absurd e (by decide), ?_⟩
                refine G_free _ _ _ _ (by kernel_rfl) ?_
                try simp only [Act.put, List.setIfInBounds_toArray, List.set_cons_zero, List.set_cons_succ, List.getElem_toArray, List.getElem_cons_zero, List.getElem_cons_succ]
                refine wpAny_done (by kernel_rfl) ?_ _
                refine NoPanic.normal ?_
                skip
                have fZ := grown_other h5 (setRow_heap wd (w.heap.size + 1) _ #[.int .i64 (keptP p ⟨N, b⟩).me, .int .u32 ((keptP p ⟨N, b⟩).v.n : Int), .int .i64 (keptP p ⟨N, b⟩).v.p, .int .i64 (keptP p ⟨N, b⟩).v.b, .int .u32 ((keptP p ⟨N, b⟩).base.1 : Int), .int .u32 ((keptP p ⟨N, b⟩).base.2 : Int), (.slice a10 (keptP p ⟨N, b⟩).log.length k10), .bool (keptP p ⟨N, b⟩).known, .bool (keptP p ⟨N, b⟩).joined, .bool (keptP p ⟨N, b⟩).instep, .int .u32 ((keptP p ⟨N, b⟩).acked : Int)] _ _ (hE.keeps bZ)) (by omega)
                have fM := setRow_heap _ (w.heap.size + 2) _ #[.int .u32 (N.1 : Int), .int .u32 (N.2 : Int)] _ _ bM3
                have il := ((il.ext hE).grown h3 (hE.keeps bZ) (by decide) (by decide)).grown h5 bM3 (by decide) (by decide)
                have lo := ((lo.ext hE).grownT h3 (hE.keeps bZ) (by decide) (by decide)).grownT h5 bM3 (by decide) (by decide)
                have xx := ((HX.out.trans hE).grown h3 (fun k hk => by cases hk; omega)).grown h5 (fun k hk => by cases hk; omega)
                clear h3 h5 hHeld bM3 K10 K8
                go_wp2_with fail
                have hN := HN.out
                have hO := HO.out
                subst hN
                subst hO
                exact bodyPost_ret (results_4 (p := 4) (q := 5) (r := 6) (s := 7) rfl _ _ (w.heap.size + 1) (w.heap.size + 2) _ _ _ _ _ _ _ _ (by rfl) fZ Tryd.underlying47 rfl (by kernel_rfl) (by rfl) fM Tryd.underlying27 rfl (by kernel_rfl)) rfl ⟨xx, .inr ⟨HE.out, _, u10, _, uo, rfl, il, lo⟩⟩
end Go.Proofs.YtkcddcomjbihgaaDoor
